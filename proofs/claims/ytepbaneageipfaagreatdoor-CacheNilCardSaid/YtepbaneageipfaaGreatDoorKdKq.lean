/- A part of the proof. -/
import Derived.Test.YtepbaneageipfaaGreatDoorKcKq
import Derived.Sort.AssemblyPlain
import Derived.Test.YtepbaneageipfaaGreatDoorKaKq
import Derived.KernelRfl
import Derived.Shelf.SlSortCmp.Xorshift
import Derived.Sort.Walk13a
import Derived.Test.YtepbaneageipfaaGreatDoorKbKq
set_option linter.all false
namespace Go.Fx.Tryz
open Go Go.Fx
set_option linter.all false
open Go.Proofs
open Go.Sort (swp swp_size insInner insOuter insertionSort siftDown heapBuild heapPop heapSort ltInt)
variable {w0 w:World} {H X:HBL} {K:KT}
set_option maxRecDepth 20000
abbrev uCs (d:Array Int) (z:List Value):List Value:=d.toList.map encU++z
theorem uCs_get {d:Array Int} {z:List Value} {i:Nat} (hi:i < d.size):(uCs d z)[i]?=some (.int .u32 d[i]!):=by
 rw [List.getElem?_append_left (by simpa using hi),List.getElem?_map]
 simp [hi]
theorem uCs_len (d:Array Int) (z:List Value):(uCs d z).length=d.size+z.length:=by simp
theorem uCs_swp {d:Array Int} {z:List Value} {p q:Nat} (hp:p < d.size) (hq:q < d.size):((uCs d z).set p (.int .u32 d[q]!)).set q (.int .u32 d[p]!)=uCs (swp d p q) z:=by
 unfold uCs swp
 rw [List.set_append_left _ _ (by simpa using hp),List.set_append_left _ _ (by simpa using hq)]
 congr 1
 simp only [Array.toList_setIfInBounds,List.map_set]
theorem less_ok (h:St w0 w X) (x y:Int) (hK:∀ w',St w0 w' X→K (.bool (ltInt x y)) w'):CallL P 148 [.int .u32 x,.int .u32 y] w K:=by
 refine f148_ok _ _ _ _ ?_
 rw [f148_eq]
 refine isnan52 x ⟨_,rfl,?_⟩
 rw [BIf_false,f148_s0_eq]
 exact hK w h
section
variable {g:Nat} {T:TypeId} {d:Array Int} {z:List Value} {ei ej:Int} {i j:Nat}
theorem less_at (hi:ei=(i:Int)) (hj:ej=(j:Int)) (hin:i < d.size) (hjn:j < d.size) (h:St w0 w X) (hm:(g,Cs (uCs d z) T)∈X) (hK:∀ w',St w0 w' X→K (.bool (ltInt d[i]! d[j]!)) w') :
  optS (some (Addr.mk g 0 none)) (fun a=>0≤ei∧ei < (d.size:Nat)∧optS (some (Addr.mk g 0 none)) (fun a'=>0≤ej∧ej < (d.size:Nat)∧∃ x:Int,w.drew.cell? (a.add (Int.toNat ei * 1))=some (Value.int .u32 x)∧∃ y:Int,w.drew.cell? (a'.add (Int.toNat ej * 1))=some (Value.int .u32 y)∧
   CallL P 148 [(Value.int .u32 x),(Value.int .u32 y)] w.drew K)):=by
 subst hi hj
 have hd:=h.drew
 refine ⟨by omega,by omega,by omega,by omega,d[i]!,?_,d[j]!,?_,less_ok hd _ _ hK⟩
 ·rw [add_lit',cell_of (hd.has _ _ hm),show 0+Int.toNat (i:Int) * 1=i by omega]; exact uCs_get hin
 ·rw [add_lit',cell_of (hd.has _ _ hm),show 0+Int.toNat (j:Int) * 1=j by omega]; exact uCs_get hjn
theorem swap_at {Q:World→Prop} (hi:ei=(i:Int)) (hj:ej=(j:Int)) (hin:i < d.size) (hjn:j < d.size) (h:St w0 w ((g,Cs (uCs d z) T)::H)) (hK:∀ w',St w0 w' ((g,Cs (uCs (swp d i j) z) T)::H)→Q w') :
  optS (some (Addr.mk g 0 none)) (fun a=>0≤ej∧ej < (d.size:Nat)∧optS (some (Addr.mk g 0 none)) (fun a'=>0≤ei∧ei < (d.size:Nat)∧∃ x:Int,w.drew.cell? (a.add (Int.toNat ej * 1))=some (Value.int .u32 x)∧∃ y:Int,w.drew.cell? (a'.add (Int.toNat ei * 1))=some (Value.int .u32 y)∧
   optS (some (Addr.mk g 0 none)) (fun a2=>0≤ei∧ei < (d.size:Nat)∧St1 (a2.add (Int.toNat ei * 1)) (Value.int .u32 x) w.drew (fun w2=>optS (some (Addr.mk g 0 none)) (fun a3=>0≤ej∧ej < (d.size:Nat)∧St1 (a3.add (Int.toNat ej * 1)) (Value.int .u32 y) w2 Q))))):=by
 subst hi hj
 have hd:=h.drew
 refine ⟨by omega,by omega,by omega,by omega,d[j]!,?_,d[i]!,?_,by omega,by omega,?_⟩
 ·rw [add_lit',hd.cell (k:=0) rfl,show 0+Int.toNat (j:Int) * 1=j by omega]; exact uCs_get hjn
 ·rw [add_lit',hd.cell (k:=0) rfl,show 0+Int.toNat (i:Int) * 1=i by omega]; exact uCs_get hin
 rw [add_lit',show 0+Int.toNat (i:Int) * 1=i by omega]
 refine hd.st1 (k:=0) rfl (by rw [uCs_len]; omega) rfl fun w2 h2=>⟨by omega,by omega,?_⟩
 rw [add_lit',show 0+Int.toNat (j:Int) * 1=j by omega]
 refine h2.st1 (k:=0) rfl (by rw [List.length_set,uCs_len]; omega) rfl fun w3 h3=>hK w3 ?_
 have h3:St w0 w3 ((g,Cs (((uCs d z).set i (.int .u32 d[j]!)).set j (.int .u32 d[i]!)) T)::H):=h3
 rw [uCs_swp hin hjn] at h3
 exact h3
end
section
variable {g c:Nat} {T:TypeId} {z:List Value}
theorem insInner_size (a:Nat):∀ (j:Nat) (d:Array Int),(insInner ltInt a j d).size=d.size
 | 0,d=>rfl
 | j+1,d=>by
  unfold insInner
  split
  ·rw [insInner_size a j,swp_size]
  ·rfl
def I1Inv (w0:World) (H:HBL) (g c:Nat) (T:TypeId) (z:List Value) (a b n:Nat) (D:Array Int) (m:Nat) (ee:Env) (w:World):Prop:=
 ∃ (i:Nat) (d:Array Int),a < i∧i≤max b (a+1)∧m=b - i∧d.size=n∧insOuter ltInt a b i d=D∧ee=Env.mk 49 [(0,(Value.slice (some (Addr.mk g 0 none)) n c)),(6,(Value.int .i64 i)),(1,(Value.int .i64 a)),(2,(Value.int .i64 b))] []∧St w0 w ((g,Cs (uCs d z) T)::H)
def I2Inv (w0:World) (H:HBL) (g c:Nat) (T:TypeId) (z:List Value) (a b i n:Nat) (D:Array Int) (m:Nat) (ee:Env) (w:World):Prop:=
 ∃ (j:Nat) (d:Array Int),a≤j∧j≤i∧m=j∧d.size=n∧insInner ltInt a j d=D∧ee=Env.mk 49 [(7,(Value.int .i64 j)),(0,(Value.slice (some (Addr.mk g 0 none)) n c)),(1,(Value.int .i64 a)),(2,(Value.int .i64 b)),(6,(Value.int .i64 i))] []∧St w0 w ((g,Cs (uCs d z) T)::H)
theorem insertion_ok {d:Array Int} {a b:Nat} (h:St w0 w ((g,Cs (uCs d z) T)::H)) (hab:a≤b) (hb:b≤d.size) (hn:d.size < 1000000000000) (hK:∀ w',St w0 w' ((g,Cs (uCs (insertionSort ltInt d a b) z) T)::H)→K (.tuple [].toArray) w') :
  CallL P 142 [.slice (some (Addr.mk g 0 none)) d.size c,.int .i64 a,.int .i64 b] w K:=by
 refine f142_ok _ _ _ _ _ _ _ ?_
 rw [f142_eq,f142_s0_eq,f142_s1_eq]
 refine ⟨I1Inv w0 H g c T z a b d.size (insertionSort ltInt d a b),⟨b - (a+1),a+1,d,by omega,by omega,rfl,rfl,rfl,?_,h⟩,?_⟩
 ·rw [wrap_i64 (by omega) (by omega)]; rfl
 generalize hnn:d.size=n at hb hn
 generalize insertionSort ltInt d a b=D at hK
 rintro m ee w1 ⟨i,d1,hai,hib,rfl,hd1,hD,rfl,h1⟩
 show f142_lb2 ..
 rw [f142_lb2_eq,BIf_iff]
 constructor
 ·intro hlt
  have hlt:i < b:=by simpa using hlt
  rw [f142_s3_eq,f142_s4_eq]
  rw [insOuter,if_pos hlt] at hD
  have out:∀ w2 d2,d2.size=n→insOuter ltInt a b (i+1) d2=D→St w0 w2 ((g,Cs (uCs d2 z) T)::H)→f142_s9 (some (Addr.mk g 0 none)) n c a b i w2 K (fun e' w'=>∃ m,m < b - i∧I1Inv w0 H g c T z a b n D m e' w'):=by
   intro w2 d2 k1 k2 k3
   rw [f142_s9_eq]
   refine ⟨b - (i+1),by omega,i+1,d2,by omega,by omega,rfl,k1,k2,?_,k3⟩
   rw [wrap_i64 (by omega) (by omega)]; rfl
  refine ⟨I2Inv w0 H g c T z a b i n (insInner ltInt a i d1),⟨i,i,d1,by omega,by omega,rfl,hd1,rfl,rfl,h1⟩,?_⟩
  rintro j ee w2 ⟨_,d2,haj,hji,rfl,hd2,hD2,rfl,h2⟩
  show f142_lb5 ..
  rw [f142_lb5_eq,BIf_iff]
  have stop:∀ w3,insInner ltInt a j d2=d2→St w0 w3 ((g,Cs (uCs d2 z) T)::H)→f142_s9 (some (Addr.mk g 0 none)) n c a b i w3 K (fun e' w'=>∃ m,m < b - i∧I1Inv w0 H g c T z a b n D m e' w'):=by
   intro w3 k1 k2
   refine out w3 d2 hd2 ?_ k2
   rw [← hD,← hD2,k1]
  constructor
  ·intro hja
   have hja:j > a:=by simpa using hja
   obtain ⟨q,rfl⟩:∃ k,j=k+1:=⟨j - 1,by omega⟩
   have ej:IntKind.wrap .i64 (((q+1:Nat):Int) - 1)=(q:Int):=by rw [wrap_i64 (by omega) (by omega)]; omega
   have hjn:q+1 < n:=by omega
   subst hd2
   refine less_at (i:=q+1) (j:=q) rfl ej hjn (by omega) h2 (.head _) fun w3 h3=>⟨_,rfl,?_⟩
   rw [f142_s6_eq,BIf_iff]
   constructor
   ·intro hl
    rw [f142_s7_eq]
    refine swap_at (i:=q+1) (j:=q) rfl ej hjn (by omega) h3 fun w4 h4=>?_
    rw [f142_s8_eq]
    refine ⟨q,by omega,q,swp d2 (q+1) q,by omega,by omega,rfl,by rw [swp_size],?_,by rw [ej],h4⟩
    rw [← hD2,insInner,if_pos (by simp [hl]; omega)]
   ·intro hl
    refine stop w3 ?_ h3
    rw [insInner,if_neg (by simp [hl])]
  ·intro hja
   have hja:¬ j > a:=by simpa using hja
   rw [f142_s6_eq,BIf_false]
   refine stop _ ?_ h2.drew
   cases j with
   | zero=>rfl
   | succ j=>rw [insInner,if_neg (by simp; omega)]
 ·intro hge
  have hge:¬ i < b:=by simpa using hge
  rw [insOuter,if_neg hge] at hD
  subst hD
  exact hK w1 h1
theorem siftDown_size (hi first:Nat) (root:Nat) (d:Array Int):(siftDown ltInt hi first root d).size=d.size:=by
 induction hm:hi - root using Nat.strongRecOn generalizing root d with
 | ind m ih=>
  subst hm
  rw [siftDown]
  split
  ·rfl
  ·rename_i h1
   split
   ·split
    ·rfl
    ·split
     ·rename_i h2; rw [ih (hi - (2 * root+2)) (by omega) _ _ rfl,swp_size]
     ·rfl
   ·split
    ·rfl
    ·rw [ih (hi - (2 * root+1)) (by omega) _ _ rfl,swp_size]
theorem heapBuild_size (hi first:Nat):∀ (k:Nat) (d:Array Int),(heapBuild ltInt hi first k d).size=d.size
 | 0,d=>rfl
 | k+1,d=>by unfold heapBuild; rw [heapBuild_size hi first k,siftDown_size]
def SdInv (w0:World) (H:HBL) (g c:Nat) (T:TypeId) (z:List Value) (hi first n:Nat) (D:Array Int) (m:Nat) (ee:Env) (w:World):Prop:=
 ∃ (root:Nat) (d:Array Int),m=hi - root∧root≤1000000000000∧d.size=n∧siftDown ltInt hi first root d=D∧ee=Env.mk 76 [(8,(Value.int .i64 root)),(3,(Value.int .i64 first)),(0,(Value.slice (some (Addr.mk g 0 none)) n c)),(2,(Value.int .i64 hi))] []∧St w0 w ((g,Cs (uCs d z) T)::H)
theorem siftDown_ok {d:Array Int} {lo hi first:Nat} {elo ehi:Int} (he1:elo=(lo:Int)) (he2:ehi=(hi:Int)) (h:St w0 w ((g,Cs (uCs d z) T)::H)) (hlo:lo≤1000000000000) (hb:first+hi≤d.size) (hn:d.size < 1000000000000) (hK:∀ w',St w0 w' ((g,Cs (uCs (siftDown ltInt hi first lo d) z) T)::H)→K (.tuple [].toArray) w') :
  CallL P 171 [.slice (some (Addr.mk g 0 none)) d.size c,.int .i64 elo,.int .i64 ehi,.int .i64 first] w K:=by
 subst he1 he2
 refine f171_ok _ _ _ _ _ _ _ _ ?_
 rw [f171_eq,f171_s0_eq,f171_s1_eq]
 refine ⟨SdInv w0 H g c T z hi first d.size (siftDown ltInt hi first lo d),⟨hi - lo,lo,d,rfl,hlo,rfl,rfl,rfl,h⟩,?_⟩
 generalize hnn:d.size=n at hb hn
 generalize siftDown ltInt hi first lo d=D at hK
 rintro m ee w1 ⟨root,d1,rfl,hr,hd1,hD,rfl,h1⟩
 show f171_lb2 ..
 have e1:IntKind.wrap .i64 (IntKind.wrap .i64 ((2:Int) * (root:Int))+1)=((2 * root+1:Nat):Int):=by
  rw [wrap_i64 (x:=2 * (root:Int)) (by omega) (by omega),wrap_i64 (by omega) (by omega)]; omega
 rw [f171_lb2_eq,BIf_iff,e1]
 rw [siftDown] at hD
 constructor
 ·intro hge
  have hge:2 * root+1≥hi:=by simp at hge; omega
  rw [dif_pos hge] at hD
  subst hD
  exact hK w1 h1
 ·intro hlt
  have hlt:¬ 2 * root+1≥hi:=by simp at hlt; omega
  rw [dif_neg hlt] at hD
  subst hd1
  have step:∀ w2 (ch:Nat),2 * root+1≤ch→ch < hi→(if (!ltInt d1[first+root]! d1[first+ch]!)=true then d1 else siftDown ltInt hi first ch (swp d1 (first+root) (first+ch)))=D→St w0 w2 ((g,Cs (uCs d1 z) T)::H)→
    f171_s5 root first (some (Addr.mk g 0 none)) d1.size c hi ch w2 K (fun e' w'=>∃ m,m < hi - root∧SdInv w0 H g c T z hi first d1.size D m e' w'):=by
   intro w2 ch c1 c2 hD2 h2
   have ea:IntKind.wrap .i64 ((first:Int)+(root:Int))=((first+root:Nat):Int):=by rw [wrap_i64 (by omega) (by omega)]; omega
   have eb:IntKind.wrap .i64 ((first:Int)+(ch:Int))=((first+ch:Nat):Int):=by rw [wrap_i64 (by omega) (by omega)]; omega
   rw [f171_s5_eq]
   refine less_at (i:=first+root) (j:=first+ch) ea eb (by omega) (by omega) h2 (.head _) fun w3 h3=>⟨_,rfl,?_⟩
   rw [f171_s6_eq,BIf_iff]
   constructor
   ·intro hl
    rw [if_pos hl] at hD2
    subst hD2
    exact hK w3 h3
   ·intro hl
    rw [if_neg (by simp [hl])] at hD2
    rw [f171_s7_eq]
    refine swap_at (i:=first+root) (j:=first+ch) ea eb (by omega) (by omega) h3 fun w4 h4=>?_
    rw [f171_s8_eq]
    exact ⟨hi - ch,by omega,ch,_,rfl,by omega,by rw [swp_size],hD2,rfl,h4⟩
  rw [f171_s3_eq,BIf_iff]
  have e2:IntKind.wrap .i64 (((2 * root+1:Nat):Int)+1)=((2 * root+2:Nat):Int):=by rw [wrap_i64 (by omega) (by omega)]; omega
  rw [e2]
  constructor
  ·intro hc
   have hc:2 * root+2 < hi:=by simp at hc; omega
   have ea:IntKind.wrap .i64 ((first:Int)+((2 * root+1:Nat):Int))=((first+(2 * root+1):Nat):Int):=by rw [wrap_i64 (by omega) (by omega)]; omega
   have eb:IntKind.wrap .i64 (IntKind.wrap .i64 ((first:Int)+((2 * root+1:Nat):Int))+1)=((first+(2 * root+1)+1:Nat):Int):=by rw [ea,wrap_i64 (by omega) (by omega)]; omega
   refine less_at (i:=first+(2 * root+1)) (j:=first+(2 * root+1)+1) ea eb (by omega) (by omega) h1 (.head _) fun w2 h2=>⟨_,rfl,?_⟩
   rw [f171_s4_eq,BIf_iff]
   constructor
   ·intro hl
    rw [if_pos (by simp [hl]; omega)] at hD
    rw [e2]
    refine step w2 (2 * root+2) (by omega) hc ?_ h2
    rw [← hD]
    split <;> rfl
   ·intro hl
    rw [if_neg (by simp [hl])] at hD
    exact step w2 (2 * root+1) (by omega) (by omega) hD h2
  ·intro hc
   have hc:¬ 2 * root+2 < hi:=by simp at hc; omega
   rw [if_neg (by simp; omega)] at hD
   rw [f171_s4_eq,BIf_false]
   exact step _ (2 * root+1) (by omega) (by omega) hD h1.drew
def HbInv (w0:World) (H:HBL) (g c:Nat) (T:TypeId) (z:List Value) (first hi n:Nat) (D:Array Int) (m:Nat) (ee:Env) (w:World):Prop:=
 ∃ (d:Array Int),m≤1000000000000∧d.size=n∧heapBuild ltInt hi first m d=D∧ee=Env.mk 56 [(9,(Value.int .i64 ((m:Int) - 1))),(6,(Value.int .i64 first)),(8,(Value.int .i64 hi)),(0,(Value.slice (some (Addr.mk g 0 none)) n c)),(7,(Value.int .i64 0))] []∧St w0 w ((g,Cs (uCs d z) T)::H)
def HpInv (w0:World) (H:HBL) (g c:Nat) (T:TypeId) (z:List Value) (first hi n:Nat) (D:Array Int) (m:Nat) (ee:Env) (w:World):Prop:=
 ∃ (d:Array Int),m≤hi∧d.size=n∧heapPop ltInt first m d=D∧ee=Env.mk 56 [(10,(Value.int .i64 ((m:Int) - 1))),(6,(Value.int .i64 first)),(7,(Value.int .i64 0)),(0,(Value.slice (some (Addr.mk g 0 none)) n c))] []∧St w0 w ((g,Cs (uCs d z) T)::H)
theorem heap_ok {d:Array Int} {a b:Nat} (h:St w0 w ((g,Cs (uCs d z) T)::H)) (hab:a≤b) (hb:b≤d.size) (hn:d.size < 1000000000000) (hK:∀ w',St w0 w' ((g,Cs (uCs (heapSort ltInt d a b) z) T)::H)→K (.tuple [].toArray) w') :
  CallL P 143 [.slice (some (Addr.mk g 0 none)) d.size c,.int .i64 a,.int .i64 b] w K:=by
 refine f143_ok _ _ _ _ _ _ _ ?_
 have e1:IntKind.wrap .i64 ((b:Int) - (a:Int))=((b - a:Nat):Int):=by rw [wrap_i64 (by omega) (by omega)]; omega
 rw [f143_eq,f143_s0_eq,f143_s1_eq,f143_s2_eq,e1,f143_s3_eq]
 have e2:IntKind.wrap .i64 ((IntKind.wrap .i64 (((b - a:Nat):Int) - 1)).tdiv 2)=(((b - a - 1) / 2+1:Nat):Int) - 1:=by
  rw [wrap_i64 (x:=((b - a:Nat):Int) - 1) (by omega) (by omega)]
  by_cases hz:b - a=0
  ·rw [hz]; rfl
  ·rw [Int.tdiv_eq_ediv_of_nonneg (by omega),wrap_i64 (by omega) (by omega)]
   omega
 rw [e2]
 unfold heapSort at hK
 refine ⟨by omega,?_⟩
 rw [f143_s4_eq]
 refine ⟨HbInv w0 H g c T z a (b - a) d.size (heapBuild ltInt (b - a) a ((b - a - 1) / 2+1) d),⟨(b - a - 1) / 2+1,d,by omega,rfl,rfl,rfl,h⟩,?_⟩
 generalize hnn:d.size=n at hb hn
 generalize hBB:heapBuild ltInt (b - a) a ((b - a - 1) / 2+1) d=D0 at hK
 have hD0:D0.size=n:=by rw [← hBB,heapBuild_size,hnn]
 rintro m ee w1 ⟨d1,hm,hd1,hD,rfl,h1⟩
 show f143_lb5 ..
 rw [f143_lb5_eq,BIf_iff]
 constructor
 ·intro hge
  obtain ⟨m,rfl⟩:∃ k,m=k+1:=⟨m - 1,by simp at hge; omega⟩
  rw [f143_s6_eq]
  subst hd1
  refine siftDown_ok (lo:=m) (by omega) rfl h1 (by omega) (by omega) hn fun w2 h2=>⟨rfl,?_⟩
  rw [f143_s7_eq]
  refine ⟨m,by omega,_,by omega,siftDown_size _ _ _ _,hD,?_,h2⟩
  rw [wrap_i64 (by omega) (by omega)]
  have:((m+1:Nat):Int) - 1 - 1=(m:Int) - 1:=by omega
  rw [this]
 ·intro hlt
  have:m=0:=by simp at hlt; omega
  subst this
  have hD:d1=D0:=hD
  subst hD
  rw [f143_s8_eq,f143_s9_eq]
  have e3:IntKind.wrap .i64 (((b - a:Nat):Int) - 1)=((b - a:Nat):Int) - 1:=by rw [wrap_i64 (by omega) (by omega)]
  rw [e3]
  refine ⟨HpInv w0 H g c T z a (b - a) n (heapPop ltInt a (b - a) d1),⟨b - a,d1,by omega,hd1,rfl,rfl,h1⟩,?_⟩
  generalize heapPop ltInt a (b - a) d1=D at hK
  rintro m ee w2 ⟨d2,hm2,hd2,hD2,rfl,h2⟩
  show f143_lb10 ..
  rw [f143_lb10_eq,BIf_iff]
  constructor
  ·intro hge
   obtain ⟨m,rfl⟩:∃ k,m=k+1:=⟨m - 1,by simp at hge; omega⟩
   rw [f143_s11_eq]
   have ei:IntKind.wrap .i64 ((a:Int)+(((m+1:Nat):Int) - 1))=((a+m:Nat):Int):=by rw [wrap_i64 (by omega) (by omega)]; omega
   subst hd2
   refine swap_at (i:=a) (j:=a+m) rfl ei (by omega) (by omega) h2 fun w3 h3=>?_
   rw [f143_s12_eq]
   have es:(swp d2 a (a+m)).size=d2.size:=swp_size _ _ _
   rw [← es]
   refine siftDown_ok (lo:=0) (hi:=m) rfl (by omega) h3 (by omega) (by omega) (by omega) fun w4 h4=>⟨rfl,?_⟩
   rw [f143_s13_eq]
   refine ⟨m,by omega,_,by omega,by rw [siftDown_size,swp_size],hD2,?_,h4⟩
   rw [wrap_i64 (by omega) (by omega),es]
   have:((m+1:Nat):Int) - 1 - 1=(m:Int) - 1:=by omega
   rw [this]
  ·intro hlt
   have:m=0:=by simp at hlt; omega
   subst this
   have hD2:d2=D:=hD2
   subst hD2
   exact hK w2 h2
end
end Go.Fx.Tryz
namespace Go.Fx.Tryz
set_option maxRecDepth 100000
open Go Go.Fx Go.Proofs
noncomputable def c144:Code:=bodyOf Tryz.f144
noncomputable def rs144:List ResultVar:=Tryz.f144.results.toList
abbrev f144_kb (K:KT):Exit→YT:=bodyK P rs144 K
def f144 (a:OA) (b c:Nat) (d e:Int) (w:World) (K:KT):Prop:=CS P c144 none [] [] (f144_kb K) (env0 65 [(VS a b c),(VI d),(VI e)]) w
def f144_s0 (a:OA) (b c:Nat) (d e:Int) (w:World) (K:KT):Prop:=CS P (cA c144 1) none [] [] (f144_kb K) (Env.mk 65 [(0,(VS a b c)),(1,(VI d)),(2,(VI e))] []) w
abbrev f144_k0 (K:KT):Exit→YT:=kseq P (cA c144 2) (cA c144 3) none [] [] (f144_kb K)
def f144_s1 (a b c d:Int) (e:OA) (f g:Nat) (h i:Int) (w:World) (K:KT):Prop:=CS P (cA c144 3) none [] [] (f144_kb K) (Env.mk 65 [(6,(VI a)),(13,(VI b)),(12,(VI c)),(11,(VI d)),(0,(VS e f g)),(1,(VI h)),(2,(VI i))] []) w
abbrev f144_k1 (K:KT):Exit→YT:=kseq P (cA c144 6) (cA c144 7) none [] [] (f144_kb K)
def f144_s2 (a:Bool) (b c d e f:Int) (g:OA) (h i:Nat) (j k:Int) (w:World) (K:KT):Prop:=CS P (cA c144 14) none [] [] (f144_kb K) (Env.mk 65 [(15,(VB true)),(15,(VB a)),(14,(VI b)),(6,(VI c)),(13,(VI d)),(12,(VI e)),(11,(VI f)),(0,(VS g h i)),(1,(VI j)),(2,(VI k))] []) w
abbrev f144_k2 (K:KT):Exit→YT:=kseq P (cA c144 28) (cA c144 29) none [] [] (f144_kb K)
def f144_s3 (a:Addr) (b c:Int) (d:Bool) (e f g h i:Int) (j:OA) (k l:Nat) (m n:Int) (w:World) (K:KT):Prop:=CS P (cA c144 29) none [] [] (f144_kb K) (Env.mk 65 [(7,(VP (some a))),(17,(Value.int .u64 b)),(16,(VI c)),(15,(VB true)),(15,(VB d)),(14,(VI e)),(6,(VI f)),(13,(VI g)),(12,(VI h)),(11,(VI i)),(0,(VS j k l)),(1,(VI m)),(2,(VI n))] []) w
abbrev f144_k3 (K:KT):Exit→YT:=kseq P (cA c144 58) (cA c144 59) none [] [] (f144_kb K)
def f144_s4 (a b c:Int) (d:Addr) (e f:Int) (g:Bool) (h i j k l:Int) (m:OA) (n o:Nat) (p q:Int) (w:World) (K:KT):Prop:=CS P (cA c144 59) none [] [] (f144_kb K) (Env.mk 65 [(8,(Value.int .u64 a)),(19,(Value.int .u64 b)),(18,(VI c)),(7,(VP (some d))),(17,(Value.int .u64 e)),(16,(VI f)),(15,(VB true)),(15,(VB g)),(14,(VI h)),(6,(VI i)),(13,(VI j)),(12,(VI k)),(11,(VI l)),(0,(VS m n o)),(1,(VI p)),(2,(VI q))] []) w
abbrev f144_k4 (K:KT):Exit→YT:=kseq P (cA c144 118) (cA c144 119) none [] [] (f144_kb K)
def f144_s5 (a b c d e f g h i j:Int) (k:Addr) (l m:Int) (n:Bool) (o p q r s:Int) (t:OA) (u v:Nat) (x y:Int) (w:World) (K:KT):Prop:=CS P (cA c144 119) none [] [] (f144_kb K) (Env.mk 65 [(9,(VI a)),(25,(VI b)),(24,(VI c)),(23,(VI d)),(22,(VI e)),(21,(VI f)),(20,(VI g)),(8,(Value.int .u64 h)),(19,(Value.int .u64 i)),(18,(VI j)),(7,(VP (some k))),(17,(Value.int .u64 l)),(16,(VI m)),(15,(VB true)),(15,(VB n)),(14,(VI o)),(6,(VI p)),(13,(VI q)),(12,(VI r)),(11,(VI s)),(0,(VS t u v)),(1,(VI x)),(2,(VI y))] []) w
abbrev f144_k5 (K:KT):Exit→YT:=kblock 0 (f144_kb K)
def f144_lp6 (K:KT) (Y6:YT) (e:Env) (w:World):Prop:=Join (fun e w=>CS P (cA c144 476) none [9,0,1,6,8,7] [] (kloop [9,0,1,6,8,7] Y6 (f144_k5 K)) e w) e w
abbrev f144_kl6 (K:KT) (Y6:YT):Exit→YT:=kloop [9,0,1,6,8,7] Y6 (f144_k5 K)
def f144_lb6 (a:Int) (b:OA) (c d:Nat) (f g h:Int) (i:Addr) (w:World) (K:KT) (Y6:YT):Prop:=SG P (cA c144 476) none [9,0,1,6,8,7] [] (f144_kl6 K Y6) (Env.mk 65 [(9,(VI a)),(0,(VS b c d)),(1,(VI f)),(6,(VI g)),(8,(Value.int .u64 h)),(7,(VP (some i)))] []) w
abbrev f144_k6 (K:KT) (Y6:YT):Exit→YT:=kseq P (cA c144 952) (cA c144 953) none [9,0,1,6,8,7] [] (f144_kl6 K Y6)
abbrev f144_k7 (K:KT) (Y6:YT):Exit→YT:=kseq P (cA c144 1904) (cA c144 1905) none [0,1,6,8,7,9] [] (f144_k6 K Y6)
def f144_s7 (a:OA) (b c:Nat) (d f g:Int) (h:Addr) (i:Int) (w:World) (K:KT) (Y6:YT):Prop:=SG P (cA c144 953) none [9,0,1,6,8,7] [] (f144_kl6 K Y6) (Env.mk 65 [(0,(VS a b c)),(1,(VI d)),(6,(VI f)),(8,(Value.int .u64 g)),(7,(VP (some h))),(9,(VI i))] []) w
abbrev f144_k8 (K:KT) (Y6:YT):Exit→YT:=kseq P (cA c144 1906) (cA c144 1907) none [9,0,1,6,8,7] [] (f144_kl6 K Y6)
abbrev f144_k9 (K:KT) (Y6:YT):Exit→YT:=kblock 1 (f144_k8 K Y6)
abbrev f144_k10 (K:KT) (Y6:YT):Exit→YT:=kseq P (cA c144 7624) (cA c144 7625) none [0,1,6,8,7,9] [0,1,6,8,7,9] (f144_k9 K Y6)
def f144_s8 (a:OA) (b c:Nat) (d f g:Int) (h:Addr) (i j:Int) (w:World) (K:KT) (Y6:YT):Prop:=SG P (cA c144 15251) none [0,1,6,8,7,9] [0,1,6,8,7,9] (f144_k9 K Y6) (Env.mk 65 [(0,(VS a b c)),(1,(VI d)),(6,(VI f)),(8,(Value.int .u64 g)),(7,(VP (some h))),(9,(VI i)),(10,(VI j))] []) w
def f144_s9 (a:OA) (b c:Nat) (d f g:Int) (h:Addr) (i:Int) (w:World) (K:KT) (Y6:YT):Prop:=SG P (cA c144 1907) none [9,0,1,6,8,7] [] (f144_kl6 K Y6) (Env.mk 65 [(0,(VS a b c)),(1,(VI d)),(6,(VI f)),(8,(Value.int .u64 g)),(7,(VP (some h))),(9,(VI i))] []) w
theorem f144_s9_eq (a:OA) (c d:Nat) (e f g:Int) (h:Addr) (i:Int) (w:World) (K:KT) (Y6:YT):f144_s9 a c d e f g h i w K Y6=(Y6 (Env.mk 65 [(9,(Value.int .i64 (IntKind.wrap .i64 ((i:Int)+1)))),(0,(Value.slice a c d)),(1,(Value.int .i64 e)),(6,(Value.int .i64 f)),(8,(Value.int .u64 g)),(7,(Value.pointer (some h)))] []) w):=Eq.trans SGe (by kernel_rfl)
theorem f144_s8_eq (e:OA) (f g:Nat) (a h i:Int) (j:Addr) (c d:Int) (w:World) (K:KT) (Y6:YT):f144_s8 e f g a h i j c d w K Y6=(optS e (fun m=>0≤((IntKind.wrap .i64 ((a:Int)+d)):Int)∧((IntKind.wrap .i64 ((a:Int)+d)):Int) < (f:Nat)∧optS e (fun n=>0≤(c:Int)∧(c:Int) < (f:Nat)∧∃ k:Int,w.drew.cell? (m.add (Int.toNat (IntKind.wrap .i64 ((a:Int)+d)) * 1))=some (.int .u32 k)∧∃ l:Int,w.drew.cell? (n.add (Int.toNat c * 1))=some (.int .u32 l)∧optS e (fun o=>0≤(c:Int)∧(c:Int) < (f:Nat)∧St1 (o.add (Int.toNat c * 1)) (Value.int .u32 k) w.drew (fun p=>optS e (fun q=>0≤((IntKind.wrap .i64 ((a:Int)+d)):Int)∧((IntKind.wrap .i64 ((a:Int)+d)):Int) < (f:Nat)∧St1 (q.add (Int.toNat (IntKind.wrap .i64 ((a:Int)+d)) * 1)) (Value.int .u32 l) p (fun r=>f144_s9 e f g a h i j c r K Y6))))))):=Eq.trans SGe (by kernel_rfl)
theorem f144_s7_eq (f:OA) (g h:Nat) (i d c:Int) (e:Addr) (j:Int) (w:World) (K:KT) (Y6:YT):f144_s7 f g h i d c e j w K Y6=(CallL P 173 [(Value.pointer (some e))] w (fun m l=>∃ k:Int,m=(.int .u64 k)∧BIf (decide (((IntKind.wrap .i64 (IntKind.wrap .u64 ((BitVec.ofInt (IntKind.bits .u64) (k:Int) &&& BitVec.ofInt (IntKind.bits .u64) (IntKind.wrap .u64 ((c:Int) - 1))).toNat:Int))):Int)≥d)) (f144_s8 f g h i d c e j (IntKind.wrap .i64 (((IntKind.wrap .i64 (IntKind.wrap .u64 ((BitVec.ofInt (IntKind.bits .u64) (k:Int) &&& BitVec.ofInt (IntKind.bits .u64) (IntKind.wrap .u64 ((c:Int) - 1))).toNat:Int))):Int) - d)) l K Y6) (f144_s8 f g h i d c e j (IntKind.wrap .i64 (IntKind.wrap .u64 ((BitVec.ofInt (IntKind.bits .u64) (k:Int) &&& BitVec.ofInt (IntKind.bits .u64) (IntKind.wrap .u64 ((c:Int) - 1))).toNat:Int))) l K Y6))):=Eq.trans SGe (Eq.trans (CSs [0,1,6,8,7,9] (f144_k8 K Y6) (by kernel_rfl)) (Eq.trans (CSb 1 [0,1,6,8,7,9] (f144_k9 K Y6) (by kernel_rfl)) (Eq.trans (CSs [0,1,6,8,7,9,10] (f144_k10 K Y6) (by kernel_rfl)) (by kernel_rfl))))
theorem f144_lb6_eq (c:Int) (f:OA) (g h:Nat) (d e i:Int) (j:Addr) (w:World) (K:KT) (Y6:YT):f144_lb6 c f g h d e i j w K Y6=((4:Int)≠0∧BIf (decide ((c:Int)≤(IntKind.wrap .i64 (((IntKind.wrap .i64 ((d:Int)+(IntKind.wrap .i64 (((IntKind.wrap .i64 ((e:Int).tdiv 4)):Int) * 2)))):Int)+1)))) (f144_s7 f g h d e i j c w K Y6) (K (Value.tuple [].toArray) w)):=Eq.trans SGe (Eq.trans (CSs [0,1,6,8,7,9] (f144_k6 K Y6) (by kernel_rfl)) (Eq.trans (CSs [33,0,1,6,8,7,9] (f144_k7 K Y6) (by kernel_rfl)) (by kernel_rfl)))
theorem f144_s5_eq (a j k l m n o c p q:Int) (d:Addr) (r s:Int) (t:Bool) (u e v x y:Int) (f:OA) (g h:Nat) (i z:Int) (w:World) (K:KT):f144_s5 a j k l m n o c p q d r s t u e v x y f g h i z w K=(LoopE (f144_lp6 K) (Env.mk 65 [(9,(Value.int .i64 a)),(0,(Value.slice f g h)),(1,(Value.int .i64 i)),(6,(Value.int .i64 e)),(8,(Value.int .u64 c)),(7,(Value.pointer (some d)))] []) w):=Eq.trans (b:=CS P (cA c144 119) none [] [] (f144_kb K) (Env.mk 65 [(9,(VI a)),(25,(VI j)),(24,(VI k)),(23,(VI l)),(22,(VI m)),(21,(VI n)),(20,(VI o)),(8,(Value.int .u64 c)),(19,(Value.int .u64 p)),(18,(VI q)),(7,(VP (some d))),(17,(Value.int .u64 r)),(16,(VI s)),(15,(VB true)),(15,(VB t)),(14,(VI u)),(6,(VI e)),(13,(VI v)),(12,(VI x)),(11,(VI y)),(0,(VS f g h)),(1,(VI i)),(2,(VI z))] []) w) (by kernel_rfl) (Eq.trans (CSb 0 [] (f144_k5 K) (by kernel_rfl)) ((CS_loop' (b:=(cA c144 476)) (X':=[]) (H:=[9,0,1,6,8,7]) (by kernel_rfl) (by kernel_rfl) (by kernel_rfl)).trans (by kernel_rfl)))
theorem f144_s4_eq (e f g:Int) (h:Addr) (i j:Int) (k:Bool) (l c m n o:Int) (p:OA) (q r:Nat) (d s:Int) (w:World) (K:KT):f144_s4 e f g h i j k l c m n o p q r d s w K=((4:Int)≠0∧f144_s5 (IntKind.wrap .i64 (((IntKind.wrap .i64 ((d:Int)+(IntKind.wrap .i64 (((IntKind.wrap .i64 ((c:Int).tdiv 4)):Int) * 2)))):Int) - 1)) (IntKind.wrap .i64 (((IntKind.wrap .i64 ((d:Int)+(IntKind.wrap .i64 (((IntKind.wrap .i64 ((c:Int).tdiv 4)):Int) * 2)))):Int) - 1)) (IntKind.wrap .i64 ((d:Int)+(IntKind.wrap .i64 (((IntKind.wrap .i64 ((c:Int).tdiv 4)):Int) * 2)))) (IntKind.wrap .i64 (((IntKind.wrap .i64 ((c:Int).tdiv 4)):Int) * 2)) (IntKind.wrap .i64 ((c:Int).tdiv 4)) c d e f g h i j k l c m n o p q r d s w K):=Eq.trans (b:=CS P (cA c144 59) none [] [] (f144_kb K) (Env.mk 65 [(8,(Value.int .u64 e)),(19,(Value.int .u64 f)),(18,(VI g)),(7,(VP (some h))),(17,(Value.int .u64 i)),(16,(VI j)),(15,(VB true)),(15,(VB k)),(14,(VI l)),(6,(VI c)),(13,(VI m)),(12,(VI n)),(11,(VI o)),(0,(VS p q r)),(1,(VI d)),(2,(VI s))] []) w) (by kernel_rfl) (Eq.trans (CSs [9,0,1,6,8,7] (f144_k4 K) (by kernel_rfl)) (by kernel_rfl))
theorem f144_s3_eq (d:Addr) (e f:Int) (g:Bool) (h c i j k:Int) (l:OA) (m n:Nat) (o p:Int) (w:World) (K:KT):f144_s3 d e f g h c i j k l m n o p w K=(CallL P 172 [(Value.int .i64 c)] w (fun r s=>∃ q:Int,r=(.int .u64 q)∧f144_s4 q q c d e f g h c i j k l m n o p s K)):=Eq.trans (b:=CS P (cA c144 29) none [] [] (f144_kb K) (Env.mk 65 [(7,(VP (some d))),(17,(Value.int .u64 e)),(16,(VI f)),(15,(VB true)),(15,(VB g)),(14,(VI h)),(6,(VI c)),(13,(VI i)),(12,(VI j)),(11,(VI k)),(0,(VS l m n)),(1,(VI o)),(2,(VI p))] []) w) (by kernel_rfl) (Eq.trans (CSs [0,1,6,8,7] (f144_k3 K) (by kernel_rfl)) (by kernel_rfl))
theorem f144_s2_eq (d:Bool) (e c f g h:Int) (i:OA) (j k:Nat) (l m:Int) (w:World) (K:KT):f144_s2 d e c f g h i j k l m w K=(NewC (zcells P 224) 224 w (fun n o=>St1 (Addr.mk n 0 none) (Value.int .u64 (IntKind.wrap .u64 c)) o (fun p=>f144_s3 (Addr.mk n 0 none) (IntKind.wrap .u64 c) c d e c f g h i j k l m p K))):=Eq.trans (b:=CS P (cA c144 14) none [] [] (f144_kb K) (Env.mk 65 [(15,(VB true)),(15,(VB d)),(14,(VI e)),(6,(VI c)),(13,(VI f)),(12,(VI g)),(11,(VI h)),(0,(VS i j k)),(1,(VI l)),(2,(VI m))] []) w) (by kernel_rfl) (Eq.trans (CSs [0,1,6,7] (f144_k2 K) (by kernel_rfl)) (by kernel_rfl))
theorem f144_s1_eq (c d e f:Int) (g:OA) (h i:Nat) (j k:Int) (w:World) (K:KT):f144_s1 c d e f g h i j k w K=(BIf (decide ((c:Int)≥8)) (f144_s2 (decide ((c:Int)≥8)) c c d e f g h i j k w K) (K (Value.tuple [].toArray) w)):=Eq.trans (b:=CS P (cA c144 3) none [] [] (f144_kb K) (Env.mk 65 [(6,(VI c)),(13,(VI d)),(12,(VI e)),(11,(VI f)),(0,(VS g h i)),(1,(VI j)),(2,(VI k))] []) w) (by kernel_rfl) (Eq.trans (CSs [15,0,1,6] (f144_k1 K) (by kernel_rfl)) (by kernel_rfl))
theorem f144_s0_eq (e:OA) (f g:Nat) (c d:Int) (w:World) (K:KT):f144_s0 e f g c d w K=(f144_s1 (IntKind.wrap .i64 ((d:Int) - c)) (IntKind.wrap .i64 ((d:Int) - c)) c d e f g c d w K):=Eq.trans (b:=CS P (cA c144 1) none [] [] (f144_kb K) (Env.mk 65 [(0,(VS e f g)),(1,(VI c)),(2,(VI d))] []) w) (by kernel_rfl) (Eq.trans (CSs [0,1,6] (f144_k0 K) (by kernel_rfl)) (by kernel_rfl))
theorem f144_eq (a:OA) (b c:Nat) (d e:Int) (w:World) (K:KT):f144 a b c d e w K=(f144_s0 a b c d e w K):=by kernel_rfl
theorem f144_ok (a:OA) (b c:Nat) (d e:Int) (w:World) (K:KT) (h:f144 a b c d e w K):CallL P 144 [(Value.slice a b c),(Value.int .i64 d),(Value.int .i64 e)] w K:=okCS c144 Tryz.func144 (by kernel_rfl) (by kernel_rfl) h
noncomputable def c145:Code:=bodyOf Tryz.f145
noncomputable def rs145:List ResultVar:=Tryz.f145.results.toList
abbrev f145_kb (K:KT):Exit→YT:=bodyK P rs145 K
def f145 (a:OA) (b c:Nat) (d e:Int) (w:World) (K:KT):Prop:=CS P c145 none [6,7] [6,7] (f145_kb K) (env0 57 [(VS a b c),(VI d),(VI e)]) w
def f145_s0 (a:OA) (b c:Nat) (d e:Int) (w:World) (K:KT):Prop:=CS P (cA c145 1) none [6,7] [6,7] (f145_kb K) (Env.mk 57 [(0,(VS a b c)),(1,(VI d)),(2,(VI e))] []) w
abbrev f145_k0 (K:KT):Exit→YT:=kseq P (cA c145 2) (cA c145 3) none [6,7] [6,7] (f145_kb K)
def f145_s1 (a b:Int) (c:OA) (d e:Nat) (f g:Int) (w:World) (K:KT):Prop:=CS P (cA c145 3) none [6,7] [6,7] (f145_kb K) (Env.mk 57 [(7,(VI a)),(6,(VI b)),(0,(VS c d e)),(1,(VI f)),(2,(VI g))] []) w
abbrev f145_k1 (K:KT):Exit→YT:=kseq P (cA c145 6) (cA c145 7) none [6,7] [6,7] (f145_kb K)
def f145_s2 (a b c d e f:Int) (g:OA) (h i:Nat) (j k:Int) (w:World) (K:KT):Prop:=CS P (cA c145 7) none [6,7] [6,7] (f145_kb K) (Env.mk 57 [(8,(VI a)),(15,(VI b)),(14,(VI c)),(13,(VI d)),(7,(VI e)),(6,(VI f)),(0,(VS g h i)),(1,(VI j)),(2,(VI k))] []) w
abbrev f145_k2 (K:KT):Exit→YT:=kseq P (cA c145 14) (cA c145 15) none [6,7] [6,7] (f145_kb K)
def f145_s3 (a:Addr) (b c d e f g:Int) (h:OA) (i j:Nat) (k l:Int) (w:World) (K:KT):Prop:=CS P (cA c145 15) none [6,7] [6,7] (f145_kb K) (Env.mk 57 [(9,(VP (some a))),(8,(VI b)),(15,(VI c)),(14,(VI d)),(13,(VI e)),(7,(VI f)),(6,(VI g)),(0,(VS h i j)),(1,(VI k)),(2,(VI l))] []) w
abbrev f145_k3 (K:KT):Exit→YT:=kseq P (cA c145 30) (cA c145 31) none [6,7] [6,7] (f145_kb K)
def f145_s4 (a b c d e f:Int) (g:Addr) (h i j k l m:Int) (n:OA) (o p:Nat) (q r:Int) (w:World) (K:KT):Prop:=CS P (cA c145 31) none [6,7] [6,7] (f145_kb K) (Env.mk 57 [(10,(VI a)),(20,(VI b)),(19,(VI c)),(18,(VI d)),(17,(VI e)),(16,(VI f)),(9,(VP (some g))),(8,(VI h)),(15,(VI i)),(14,(VI j)),(13,(VI k)),(7,(VI l)),(6,(VI m)),(0,(VS n o p)),(1,(VI q)),(2,(VI r))] []) w
abbrev f145_k4 (K:KT):Exit→YT:=kseq P (cA c145 62) (cA c145 63) none [6,7] [6,7] (f145_kb K)
def f145_s5 (a b c d e f g h i j k l:Int) (m:Addr) (n o p q r s:Int) (t:OA) (u v:Nat) (x y:Int) (w:World) (K:KT):Prop:=CS P (cA c145 63) none [6,7] [6,7] (f145_kb K) (Env.mk 57 [(11,(VI a)),(25,(VI b)),(24,(VI c)),(23,(VI d)),(22,(VI e)),(21,(VI f)),(10,(VI g)),(20,(VI h)),(19,(VI i)),(18,(VI j)),(17,(VI k)),(16,(VI l)),(9,(VP (some m))),(8,(VI n)),(15,(VI o)),(14,(VI p)),(13,(VI q)),(7,(VI r)),(6,(VI s)),(0,(VS t u v)),(1,(VI x)),(2,(VI y))] []) w
abbrev f145_k5 (K:KT):Exit→YT:=kseq P (cA c145 126) (cA c145 127) none [6,7] [6,7] (f145_kb K)
def f145_s6 (a b c d e f g h i j k l m n o p q r:Int) (s:Addr) (t u v x y z:Int) (a0:OA) (b0 c0:Nat) (d0 e0:Int) (w:World) (K:KT):Prop:=CS P (cA c145 127) none [6,7] [6,7] (f145_kb K) (Env.mk 57 [(12,(VI a)),(30,(VI b)),(29,(VI c)),(28,(VI d)),(27,(VI e)),(26,(VI f)),(11,(VI g)),(25,(VI h)),(24,(VI i)),(23,(VI j)),(22,(VI k)),(21,(VI l)),(10,(VI m)),(20,(VI n)),(19,(VI o)),(18,(VI p)),(17,(VI q)),(16,(VI r)),(9,(VP (some s))),(8,(VI t)),(15,(VI u)),(14,(VI v)),(13,(VI x)),(7,(VI y)),(6,(VI z)),(0,(VS a0 b0 c0)),(1,(VI d0)),(2,(VI e0))] []) w
abbrev f145_k6 (K:KT):Exit→YT:=kseq P (cA c145 254) (cA c145 255) none [6,7] [6,7] (f145_kb K)
abbrev f145_k7 (K:KT):Exit→YT:=kseq P (cA c145 508) (cA c145 509) none [11,9] [6,7] (f145_k6 K)
def f145_s7 (a:Addr) (b c d:Int) (f:OA) (g h:Nat) (w:World) (K:KT):Prop:=SG P (cA c145 2037) none [11,9] [6,7] (f145_k6 K) (Env.mk 57 [(9,(VP (some a))),(12,(VI b)),(11,(VI c)),(10,(VI d)),(0,(VS f g h))] []) w
def f145_s8 (a:Int) (b:Addr) (w:World) (K:KT):Prop:=SG P (cA c145 255) none [6,7] [6,7] (f145_kb K) (Env.mk 57 [(11,(VI a)),(9,(VP (some b)))] []) w
abbrev f145_k12 (K:KT):Exit→YT:=kseq P (cA c145 510) (cA c145 511) none [6,7] [6,7] (f145_kb K)
def f145_s9 (a b:Int) (c:Addr) (w:World) (K:KT):Prop:=CS P (cA c145 511) none [6,7] [6,7] (f145_kb K) (Env.mk 57 [(49,(VI a)),(11,(VI b)),(9,(VP (some c)))] []) w
abbrev f145_k13 (K:KT):Exit→YT:=kblock 0 (f145_kb K)
abbrev f145_k14 (K:KT):Exit→YT:=kseq P (cA c145 2044) (cA c145 2045) none [6,7] [6,7] (f145_k13 K)
theorem f145_s9_eq (d c:Int) (e:Addr) (w:World) (K:KT):f145_s9 d c e w K=(BIf ((d:Int) == 0) (K (Value.tuple [(Value.int .i64 c),(Value.int .i64 1)].toArray) w) (BIf ((d:Int) == 12) (K (Value.tuple [(Value.int .i64 c),(Value.int .i64 2)].toArray) w) (K (Value.tuple [(Value.int .i64 c),(Value.int .i64 0)].toArray) w))):=Eq.trans (b:=CS P (cA c145 511) none [6,7] [6,7] (f145_kb K) (Env.mk 57 [(49,(VI d)),(11,(VI c)),(9,(VP (some e)))] []) w) (by kernel_rfl) (Eq.trans (CSb 0 [6,7] (f145_k13 K) (by kernel_rfl)) (Eq.trans (CSs [51,11,49] (f145_k14 K) (by kernel_rfl)) (by kernel_rfl)))
theorem f145_s8_eq (d:Int) (c:Addr) (w:World) (K:KT):f145_s8 d c w K=(∃ e:Int,w.cell? c=some (.int .i64 e)∧f145_s9 e d c w K):=Eq.trans SGe (Eq.trans (CSs [11,49] (f145_k12 K) (by kernel_rfl)) (by kernel_rfl))
theorem f145_s7_eq (a:Addr) (c d e:Int) (f:OA) (g h:Nat) (w:World) (K:KT):f145_s7 a c d e f g h w K=(CallL P 175 [(Value.slice f g h),(Value.int .i64 e),(Value.int .i64 d),(Value.int .i64 c),(Value.pointer (some a))] w (fun j k=>∃ i:Int,j=(.int .i64 i)∧f145_s8 i a k K)):=Eq.trans SGe (by kernel_rfl)
theorem f145_s6_eq (h k l m n o g p q r s t i u v x y z:Int) (c:Addr) (j a0 b0 c0 d0 e0:Int) (d:OA) (e f:Nat) (f0 g0:Int) (w:World) (K:KT):f145_s6 h k l m n o g p q r s t i u v x y z c j a0 b0 c0 d0 e0 d e f f0 g0 w K=(BIf (decide ((j:Int)≥8)) (BIf (decide ((j:Int)≥50)) (CallL P 174 [(Value.slice d e f),(Value.int .i64 i),(Value.pointer (some c))] w (fun l0 m0=>∃ h0:Int,l0=(.int .i64 h0)∧CallL P 174 [(Value.slice d e f),(Value.int .i64 g),(Value.pointer (some c))] m0 (fun n0 o0=>∃ i0:Int,n0=(.int .i64 i0)∧CallL P 174 [(Value.slice d e f),(Value.int .i64 h),(Value.pointer (some c))] o0 (fun p0 q0=>∃ j0:Int,p0=(.int .i64 j0)∧f145_s7 c j0 i0 h0 d e f q0 K)))) (f145_s7 c h g i d e f w K)) (f145_s8 g c w K)):=Eq.trans (b:=CS P (cA c145 127) none [6,7] [6,7] (f145_kb K) (Env.mk 57 [(12,(VI h)),(30,(VI k)),(29,(VI l)),(28,(VI m)),(27,(VI n)),(26,(VI o)),(11,(VI g)),(25,(VI p)),(24,(VI q)),(23,(VI r)),(22,(VI s)),(21,(VI t)),(10,(VI i)),(20,(VI u)),(19,(VI v)),(18,(VI x)),(17,(VI y)),(16,(VI z)),(9,(VP (some c))),(8,(VI j)),(15,(VI a0)),(14,(VI b0)),(13,(VI c0)),(7,(VI d0)),(6,(VI e0)),(0,(VS d e f)),(1,(VI f0)),(2,(VI g0))] []) w) (by kernel_rfl) (Eq.trans (CSs [11,9] (f145_k6 K) (by kernel_rfl)) (Eq.trans (CSs [32,9,0,12,11,10,8] (f145_k7 K) (by kernel_rfl)) (by kernel_rfl)))
theorem f145_s5_eq (e f g h i j k l m n o p:Int) (q:Addr) (c r s t u v:Int) (x:OA) (y z:Nat) (d a0:Int) (w:World) (K:KT):f145_s5 e f g h i j k l m n o p q c r s t u v x y z d a0 w K=((4:Int)≠0∧f145_s6 (IntKind.wrap .i64 ((d:Int)+(IntKind.wrap .i64 (((IntKind.wrap .i64 ((c:Int).tdiv 4)):Int) * 3)))) (IntKind.wrap .i64 ((d:Int)+(IntKind.wrap .i64 (((IntKind.wrap .i64 ((c:Int).tdiv 4)):Int) * 3)))) (IntKind.wrap .i64 (((IntKind.wrap .i64 ((c:Int).tdiv 4)):Int) * 3)) (IntKind.wrap .i64 ((c:Int).tdiv 4)) c d e f g h i j k l m n o p q c r s t u v x y z d a0 w K):=Eq.trans (b:=CS P (cA c145 63) none [6,7] [6,7] (f145_kb K) (Env.mk 57 [(11,(VI e)),(25,(VI f)),(24,(VI g)),(23,(VI h)),(22,(VI i)),(21,(VI j)),(10,(VI k)),(20,(VI l)),(19,(VI m)),(18,(VI n)),(17,(VI o)),(16,(VI p)),(9,(VP (some q))),(8,(VI c)),(15,(VI r)),(14,(VI s)),(13,(VI t)),(7,(VI u)),(6,(VI v)),(0,(VS x y z)),(1,(VI d)),(2,(VI a0))] []) w) (by kernel_rfl) (Eq.trans (CSs [9,0,12,11,10,8] (f145_k5 K) (by kernel_rfl)) (by kernel_rfl))
theorem f145_s4_eq (e f g h i j:Int) (k:Addr) (c l m n o p:Int) (q:OA) (r s:Nat) (d t:Int) (w:World) (K:KT):f145_s4 e f g h i j k c l m n o p q r s d t w K=((4:Int)≠0∧f145_s5 (IntKind.wrap .i64 ((d:Int)+(IntKind.wrap .i64 (((IntKind.wrap .i64 ((c:Int).tdiv 4)):Int) * 2)))) (IntKind.wrap .i64 ((d:Int)+(IntKind.wrap .i64 (((IntKind.wrap .i64 ((c:Int).tdiv 4)):Int) * 2)))) (IntKind.wrap .i64 (((IntKind.wrap .i64 ((c:Int).tdiv 4)):Int) * 2)) (IntKind.wrap .i64 ((c:Int).tdiv 4)) c d e f g h i j k c l m n o p q r s d t w K):=Eq.trans (b:=CS P (cA c145 31) none [6,7] [6,7] (f145_kb K) (Env.mk 57 [(10,(VI e)),(20,(VI f)),(19,(VI g)),(18,(VI h)),(17,(VI i)),(16,(VI j)),(9,(VP (some k))),(8,(VI c)),(15,(VI l)),(14,(VI m)),(13,(VI n)),(7,(VI o)),(6,(VI p)),(0,(VS q r s)),(1,(VI d)),(2,(VI t))] []) w) (by kernel_rfl) (Eq.trans (CSs [9,0,11,10,8,1] (f145_k4 K) (by kernel_rfl)) (by kernel_rfl))
theorem f145_s3_eq (e:Addr) (c f g h i j:Int) (k:OA) (l m:Nat) (d n:Int) (w:World) (K:KT):f145_s3 e c f g h i j k l m d n w K=((4:Int)≠0∧f145_s4 (IntKind.wrap .i64 ((d:Int)+(IntKind.wrap .i64 (((IntKind.wrap .i64 ((c:Int).tdiv 4)):Int) * 1)))) (IntKind.wrap .i64 ((d:Int)+(IntKind.wrap .i64 (((IntKind.wrap .i64 ((c:Int).tdiv 4)):Int) * 1)))) (IntKind.wrap .i64 (((IntKind.wrap .i64 ((c:Int).tdiv 4)):Int) * 1)) (IntKind.wrap .i64 ((c:Int).tdiv 4)) c d e c f g h i j k l m d n w K):=Eq.trans (b:=CS P (cA c145 15) none [6,7] [6,7] (f145_kb K) (Env.mk 57 [(9,(VP (some e))),(8,(VI c)),(15,(VI f)),(14,(VI g)),(13,(VI h)),(7,(VI i)),(6,(VI j)),(0,(VS k l m)),(1,(VI d)),(2,(VI n))] []) w) (by kernel_rfl) (Eq.trans (CSs [9,0,10,8,1] (f145_k3 K) (by kernel_rfl)) (by kernel_rfl))
theorem f145_s2_eq (c d e f g h:Int) (i:OA) (j k:Nat) (l m:Int) (w:World) (K:KT):f145_s2 c d e f g h i j k l m w K=(NewC (zcells P 3) 3 w (fun n o=>f145_s3 (Addr.mk n 0 none) c d e f g h i j k l m o K)):=Eq.trans (b:=CS P (cA c145 7) none [6,7] [6,7] (f145_kb K) (Env.mk 57 [(8,(VI c)),(15,(VI d)),(14,(VI e)),(13,(VI f)),(7,(VI g)),(6,(VI h)),(0,(VS i j k)),(1,(VI l)),(2,(VI m))] []) w) (by kernel_rfl) (Eq.trans (CSs [9,0,8,1] (f145_k2 K) (by kernel_rfl)) (by kernel_rfl))
theorem f145_s1_eq (e f:Int) (g:OA) (h i:Nat) (c d:Int) (w:World) (K:KT):f145_s1 e f g h i c d w K=(f145_s2 (IntKind.wrap .i64 ((d:Int) - c)) (IntKind.wrap .i64 ((d:Int) - c)) c d e f g h i c d w K):=Eq.trans (b:=CS P (cA c145 3) none [6,7] [6,7] (f145_kb K) (Env.mk 57 [(7,(VI e)),(6,(VI f)),(0,(VS g h i)),(1,(VI c)),(2,(VI d))] []) w) (by kernel_rfl) (Eq.trans (CSs [0,8,1] (f145_k1 K) (by kernel_rfl)) (by kernel_rfl))
theorem f145_s0_eq (c:OA) (d e:Nat) (f g:Int) (w:World) (K:KT):f145_s0 c d e f g w K=(f145_s1 0 0 c d e f g w K):=Eq.trans (b:=CS P (cA c145 1) none [6,7] [6,7] (f145_kb K) (Env.mk 57 [(0,(VS c d e)),(1,(VI f)),(2,(VI g))] []) w) (by kernel_rfl) (Eq.trans (CSs [0,1,2] (f145_k0 K) (by kernel_rfl)) (by kernel_rfl))
theorem f145_eq (a:OA) (b c:Nat) (d e:Int) (w:World) (K:KT):f145 a b c d e w K=(f145_s0 a b c d e w K):=by kernel_rfl
theorem f145_ok (a:OA) (b c:Nat) (d e:Int) (w:World) (K:KT) (h:f145 a b c d e w K):CallL P 145 [(Value.slice a b c),(Value.int .i64 d),(Value.int .i64 e)] w K:=okCS c145 Tryz.func145 (by kernel_rfl) (by kernel_rfl) h
end Go.Fx.Tryz
namespace Go.Fx.Tryz
open Go Go.Fx
set_option linter.all false
open Go.Proofs
open Go.Sort (swp swp_size ltInt order2 median medianAdjacent choosePivot reverseLoop reverseRange Hint xorNext xorNextN bitsLen breakStep breakPatterns)
variable {w0 w:World} {H X:HBL} {K:KT}
set_option maxRecDepth 20000
section
variable {g c:Nat} {T:TypeId} {z:List Value}
def RvInv (w0:World) (H:HBL) (g c:Nat) (T:TypeId) (z:List Value) (n:Nat) (D:Array Int) (m:Nat) (ee:Env) (w:World):Prop:=
 ∃ (i j:Nat) (d:Array Int),m=j - i∧j < n∧i≤n∧d.size=n∧reverseLoop i j d=D∧ee=Env.mk 32 [(7,(Value.int .i64 j)),(6,(Value.int .i64 i)),(0,(Value.slice (some (Addr.mk g 0 none)) n c))] []∧St w0 w ((g,Cs (uCs d z) T)::H)
theorem reverse_ok {d:Array Int} {a b:Nat} (h:St w0 w ((g,Cs (uCs d z) T)::H)) (hab:a < b) (hb:b≤d.size) (hn:d.size < 1000000000000) (hK:∀ w',St w0 w' ((g,Cs (uCs (reverseRange d a b) z) T)::H)→K (.tuple [].toArray) w') :
  CallL P 146 [.slice (some (Addr.mk g 0 none)) d.size c,.int .i64 a,.int .i64 b] w K:=by
 refine f146_ok _ _ _ _ _ _ _ ?_
 rw [f146_eq,f146_s0_eq,f146_s1_eq,f146_s2_eq]
 have e1:IntKind.wrap .i64 ((b:Int) - 1)=((b - 1:Nat):Int):=by rw [wrap_i64 (by omega) (by omega)]; omega
 rw [e1]
 refine ⟨RvInv w0 H g c T z d.size (reverseRange d a b),⟨b - 1 - a,a,b - 1,d,rfl,by omega,by omega,rfl,rfl,rfl,h⟩,?_⟩
 generalize hnn:d.size=n at hb hn
 generalize reverseRange d a b=D at hK
 rintro m ee w1 ⟨i,j,d1,rfl,hj,hi,hd1,hD,rfl,h1⟩
 show f146_lb3 ..
 rw [f146_lb3_eq,BIf_iff]
 rw [reverseLoop] at hD
 constructor
 ·intro hlt
  have hlt:i < j:=by simpa using hlt
  rw [if_pos hlt] at hD
  rw [f146_s4_eq]
  subst hd1
  refine swap_at (i:=i) (j:=j) rfl rfl (by omega) (by omega) h1 fun w2 h2=>?_
  rw [f146_s5_eq]
  have ej:IntKind.wrap .i64 ((j:Int) - 1)=((j - 1:Nat):Int):=by rw [wrap_i64 (by omega) (by omega)]; omega
  have ei:IntKind.wrap .i64 ((i:Int)+1)=((i+1:Nat):Int):=by rw [wrap_i64 (by omega) (by omega)]; omega
  exact ⟨j - 1 - (i+1),by omega,i+1,j - 1,_,rfl,by omega,by omega,swp_size _ _ _,hD,by rw [ei,ej],h2⟩
 ·intro hge
  have hge:¬ i < j:=by simpa using hge
  rw [if_neg hge] at hD
  subst hD
  exact hK w1 h1
theorem order2_ok {d:Array Int} {a b p s:Nat} {ea eb:Int} (ha:ea=(a:Int)) (hb:eb=(b:Int)) (hm:(g,Cs (uCs d z) T)∈X) (h:St w0 w ((p,Cs [I64 s] 3)::X)) (han:a < d.size) (hbn:b < d.size) (hs:s < 1000)
  (hK:∀ w',St w0 w' ((p,Cs [I64 ((order2 ltInt d a b s).2.2:Nat)] 3)::X)→K (.tuple [I64 ((order2 ltInt d a b s).1:Nat),I64 ((order2 ltInt d a b s).2.1:Nat)].toArray) w') :
  CallL P 189 [.slice (some (Addr.mk g 0 none)) d.size c,.int .i64 ea,.int .i64 eb,.pointer (some (Addr.mk p 0 none))] w K:=by
 subst ha hb
 refine f189_ok _ _ _ _ _ _ _ _ ?_
 rw [f189_eq]
 refine less_at (i:=b) (j:=a) rfl rfl hbn han h (List.mem_cons_of_mem _ hm) fun w1 h1=>⟨_,rfl,?_⟩
 unfold order2 at hK
 rw [f189_s0_eq,BIf_iff]
 constructor
 ·intro hl
  rw [if_pos hl] at hK
  refine ⟨(s:Int),h1.cell (k:=0) rfl,?_⟩
  refine h1.st1 (k:=0) rfl (by simp) rfl fun w2 h2=>?_
  have h2:St w0 w2 ((p,Cs [I64 (IntKind.wrap .i64 ((s:Int)+1))] 3)::X):=h2
  rw [wrap_i64 (by omega) (by omega),show (s:Int)+1=((s+1:Nat):Int) by omega] at h2
  exact hK w2 h2
 ·intro hl
  rw [if_neg (by simp [hl])] at hK
  rw [f189_s1_eq]
  exact hK w1 h1
theorem order2_in (d:Array Int) (a b s n:Nat) (ha:a < n) (hb:b < n):(order2 ltInt d a b s).1 < n∧(order2 ltInt d a b s).2.1 < n∧(order2 ltInt d a b s).2.2≤s+1:=by
 unfold order2
 split
 ·exact ⟨hb,ha,Nat.le_refl _⟩
 ·exact ⟨ha,hb,Nat.le_succ _⟩
theorem median_in (d:Array Int) (a b c' s n:Nat) (ha:a < n) (hb:b < n) (hc:c' < n):(median ltInt d a b c' s).1 < n∧(median ltInt d a b c' s).2≤s+3:=by
 unfold median
 simp only
 obtain ⟨h1,h2,h3⟩:=order2_in d a b s n ha hb
 obtain ⟨h4,h5,h6⟩:=order2_in d (order2 ltInt d a b s).2.1 c' (order2 ltInt d a b s).2.2 n h2 hc
 obtain ⟨h7,h8,h9⟩:=order2_in d (order2 ltInt d a b s).1 (order2 ltInt d (order2 ltInt d a b s).2.1 c' (order2 ltInt d a b s).2.2).1 (order2 ltInt d (order2 ltInt d a b s).2.1 c' (order2 ltInt d a b s).2.2).2.2 n h1 h4
 exact ⟨h8,by omega⟩
theorem median_ok {d:Array Int} {a b c' p s:Nat} {ea eb ec:Int} (ha:ea=(a:Int)) (hb:eb=(b:Int)) (hc:ec=(c':Int)) (hm:(g,Cs (uCs d z) T)∈X) (h:St w0 w ((p,Cs [I64 s] 3)::X)) (han:a < d.size) (hbn:b < d.size) (hcn:c' < d.size) (hs:s < 900)
  (hK:∀ w',St w0 w' ((p,Cs [I64 ((median ltInt d a b c' s).2:Nat)] 3)::X)→K (I64 ((median ltInt d a b c' s).1:Nat)) w') :
  CallL P 175 [.slice (some (Addr.mk g 0 none)) d.size c,.int .i64 ea,.int .i64 eb,.int .i64 ec,.pointer (some (Addr.mk p 0 none))] w K:=by
 refine f175_ok _ _ _ _ _ _ _ _ _ ?_
 rw [f175_eq]
 obtain ⟨h1,h2,h3⟩:=order2_in d a b s d.size han hbn
 refine order2_ok ha hb hm h han hbn (by omega) fun w1 k1=>⟨_,_,rfl,?_⟩
 obtain ⟨h4,h5,h6⟩:=order2_in d (order2 ltInt d a b s).2.1 c' (order2 ltInt d a b s).2.2 d.size h2 hcn
 refine order2_ok rfl hc hm k1 h2 hcn (by omega) fun w2 k2=>⟨_,_,rfl,?_⟩
 refine order2_ok rfl rfl hm k2 h1 h4 (by omega) fun w3 k3=>⟨_,_,rfl,?_⟩
 exact hK w3 k3
theorem adjacent_ok {d:Array Int} {a p s:Nat} {ea:Int} (ha:ea=(a:Int)) (hm:(g,Cs (uCs d z) T)∈X) (h:St w0 w ((p,Cs [I64 s] 3)::X)) (ha1:1≤a) (han:a+1 < d.size) (hn:d.size < 1000000000000) (hs:s < 900)
  (hK:∀ w',St w0 w' ((p,Cs [I64 ((medianAdjacent ltInt d a s).2:Nat)] 3)::X)→K (I64 ((medianAdjacent ltInt d a s).1:Nat)) w') :
  CallL P 174 [.slice (some (Addr.mk g 0 none)) d.size c,.int .i64 ea,.pointer (some (Addr.mk p 0 none))] w K:=by
 subst ha
 refine f174_ok _ _ _ _ _ _ _ ?_
 rw [f174_eq]
 refine median_ok (a:=a - 1) (b:=a) (c':=a+1) ?_ rfl ?_ hm h (by omega) (by omega) (by omega) hs fun w1 k1=>⟨_,rfl,hK w1 k1⟩
 ·rw [wrap_i64 (by omega) (by omega)]; omega
 ·rw [wrap_i64 (by omega) (by omega)]; omega
def hintI:Hint→Int
 | .unknown=>0
 | .increasing=>1
 | .decreasing=>2
theorem z3i:zcells P 3=[I64 0].toArray:=by kernel_rfl
theorem pivot_ok {d:Array Int} {a b:Nat} (hm:(g,Cs (uCs d z) T)∈X) (h:St w0 w X) (hab:a < b) (hb:b≤d.size) (hn:d.size < 1000000000000)
  (hK:∀ w',St w0 w' X→K (.tuple [I64 ((choosePivot ltInt d a b).1:Nat),I64 (hintI (choosePivot ltInt d a b).2)].toArray) w') :
  CallL P 145 [.slice (some (Addr.mk g 0 none)) d.size c,.int .i64 a,.int .i64 b] w K:=by
 refine f145_ok _ _ _ _ _ _ _ ?_
 have el:IntKind.wrap .i64 ((b:Int) - (a:Int))=((b - a:Nat):Int):=by rw [wrap_i64 (by omega) (by omega)]; omega
 rw [f145_eq,f145_s0_eq,f145_s1_eq,f145_s2_eq,z3i]
 refine h.newC fun p w1 hp h1=>?_
 have h1:St w0 w1 ((p,Cs [I64 ((0:Nat):Int)] 3)::X):=h1
 rw [el,f145_s3_eq]
 have e4:IntKind.wrap .i64 (((b - a:Nat):Int).tdiv 4)=(((b - a) / 4:Nat):Int):=by
  rw [Int.tdiv_eq_ediv_of_nonneg (by omega),wrap_i64 (by omega) (by omega)]; omega
 rw [e4]
 have ek:∀ k:Nat,k≤3→IntKind.wrap .i64 ((a:Int)+IntKind.wrap .i64 ((((b - a) / 4:Nat):Int) * (k:Int)))=((a+(b - a) / 4 * k:Nat):Int):=fun k hk=>by
  have hle:(b - a) / 4 * k≤(b - a) / 4 * 3:=Nat.mul_le_mul_left _ hk
  rw [show ((((b - a) / 4:Nat):Int) * (k:Int))=(((b - a) / 4 * k:Nat):Int) by rw [Int.natCast_mul],wrap_i64 (x:=(((b - a) / 4 * k:Nat):Int)) (by omega) (by omega),wrap_i64 (by omega) (by omega)]
  omega
 have ek1:=ek 1 (by omega)
 have ek2:=ek 2 (by omega)
 have ek3:=ek 3 (by omega)
 refine ⟨by omega,?_⟩
 rw [f145_s4_eq]
 refine ⟨by omega,?_⟩
 rw [f145_s5_eq]
 refine ⟨by omega,?_⟩
 rw [f145_s6_eq,e4]
 have ek1':IntKind.wrap .i64 ((a:Int)+IntKind.wrap .i64 ((((b - a) / 4:Nat):Int) * 1))=((a+(b - a) / 4 * 1:Nat):Int):=ek1
 have ek2':IntKind.wrap .i64 ((a:Int)+IntKind.wrap .i64 ((((b - a) / 4:Nat):Int) * 2))=((a+(b - a) / 4 * 2:Nat):Int):=ek2
 have ek3':IntKind.wrap .i64 ((a:Int)+IntKind.wrap .i64 ((((b - a) / 4:Nat):Int) * 3))=((a+(b - a) / 4 * 3:Nat):Int):=ek3
 rw [ek1',ek2',ek3']
 have s8:∀ w2 (r:Nat × Nat),(r.1,if r.2=0 then Hint.increasing else if r.2=12 then .decreasing else .unknown)=choosePivot ltInt d a b→r.2≤100→St w0 w2 ((p,Cs [I64 ((r.2:Nat):Int)] 3)::X)→f145_s8 ((r.1:Nat):Int) (Addr.mk p 0 none) w2 K:=by
  intro w2 r hr hr2 h2
  have hK:=hK w2 (h2.tail hp)
  rw [← hr] at hK
  rw [f145_s8_eq]
  refine ⟨((r.2:Nat):Int),h2.cell (k:=0) rfl,?_⟩
  rw [f145_s9_eq,BIf_iff]
  refine ⟨fun h0=>?_,fun h0=>?_⟩
  ·have h0:r.2=0:=by simp at h0; omega
   rw [if_pos h0] at hK
   exact hK
  ·have h0:r.2≠0:=by simp at h0; omega
   rw [if_neg h0] at hK
   rw [BIf_iff]
   refine ⟨fun h12=>?_,fun h12=>?_⟩
   ·have h12:r.2=12:=by simp at h12; omega
    rw [if_pos h12] at hK
    exact hK
   ·have h12:r.2≠12:=by simp at h12; omega
    rw [if_neg h12] at hK
    exact hK
 have s7:∀ w2 (i j k s:Nat),((median ltInt d i j k s).1,if (median ltInt d i j k s).2=0 then Hint.increasing else if (median ltInt d i j k s).2=12 then .decreasing else .unknown)=choosePivot ltInt d a b→i < d.size→j < d.size→k < d.size→s≤20→
   St w0 w2 ((p,Cs [I64 ((s:Nat):Int)] 3)::X)→f145_s7 (Addr.mk p 0 none) ((k:Nat):Int) ((j:Nat):Int) ((i:Nat):Int) (some (Addr.mk g 0 none)) d.size c w2 K:=by
  intro w2 i j k s hr hi hj hk hs h2
  rw [f145_s7_eq]
  obtain ⟨_,m2⟩:=median_in d i j k s d.size hi hj hk
  exact median_ok rfl rfl rfl hm h2 hi hj hk (by omega) fun w3 h3=>⟨_,rfl,s8 w3 (median ltInt d i j k s) hr (by omega) h3⟩
 have hcp:choosePivot ltInt d a b=((if b - a≥8 then (if b - a≥50 then median ltInt d (medianAdjacent ltInt d (a+(b - a) / 4 * 1) 0).1 (medianAdjacent ltInt d (a+(b - a) / 4 * 2) (medianAdjacent ltInt d (a+(b - a) / 4 * 1) 0).2).1
   (medianAdjacent ltInt d (a+(b - a) / 4 * 3) (medianAdjacent ltInt d (a+(b - a) / 4 * 2) (medianAdjacent ltInt d (a+(b - a) / 4 * 1) 0).2).2).1 (medianAdjacent ltInt d (a+(b - a) / 4 * 3) (medianAdjacent ltInt d (a+(b - a) / 4 * 2) (medianAdjacent ltInt d (a+(b - a) / 4 * 1) 0).2).2).2
   else median ltInt d (a+(b - a) / 4 * 1) (a+(b - a) / 4 * 2) (a+(b - a) / 4 * 3) 0) else (a+(b - a) / 4 * 2,0)).1,if (if b - a≥8 then (if b - a≥50 then median ltInt d (medianAdjacent ltInt d (a+(b - a) / 4 * 1) 0).1 (medianAdjacent ltInt d (a+(b - a) / 4 * 2) (medianAdjacent ltInt d (a+(b - a) / 4 * 1) 0).2).1
   (medianAdjacent ltInt d (a+(b - a) / 4 * 3) (medianAdjacent ltInt d (a+(b - a) / 4 * 2) (medianAdjacent ltInt d (a+(b - a) / 4 * 1) 0).2).2).1 (medianAdjacent ltInt d (a+(b - a) / 4 * 3) (medianAdjacent ltInt d (a+(b - a) / 4 * 2) (medianAdjacent ltInt d (a+(b - a) / 4 * 1) 0).2).2).2
   else median ltInt d (a+(b - a) / 4 * 1) (a+(b - a) / 4 * 2) (a+(b - a) / 4 * 3) 0) else (a+(b - a) / 4 * 2,0)).2=0 then Hint.increasing else if (if b - a≥8 then (if b - a≥50 then median ltInt d (medianAdjacent ltInt d (a+(b - a) / 4 * 1) 0).1 (medianAdjacent ltInt d (a+(b - a) / 4 * 2) (medianAdjacent ltInt d (a+(b - a) / 4 * 1) 0).2).1
   (medianAdjacent ltInt d (a+(b - a) / 4 * 3) (medianAdjacent ltInt d (a+(b - a) / 4 * 2) (medianAdjacent ltInt d (a+(b - a) / 4 * 1) 0).2).2).1 (medianAdjacent ltInt d (a+(b - a) / 4 * 3) (medianAdjacent ltInt d (a+(b - a) / 4 * 2) (medianAdjacent ltInt d (a+(b - a) / 4 * 1) 0).2).2).2
   else median ltInt d (a+(b - a) / 4 * 1) (a+(b - a) / 4 * 2) (a+(b - a) / 4 * 3) 0) else (a+(b - a) / 4 * 2,0)).2=12 then .decreasing else .unknown):=rfl
 rw [BIf_iff]
 refine ⟨fun h8=>?_,fun h8=>?_⟩
 ·have h8:b - a≥8:=by simp at h8; omega
  simp only [if_pos h8] at hcp
  rw [BIf_iff]
  refine ⟨fun h50=>?_,fun h50=>?_⟩
  ·have h50:b - a≥50:=by simp at h50; omega
   simp only [if_pos h50] at hcp
   have b1:∀ s,(medianAdjacent ltInt d (a+(b - a) / 4 * 1) s).1 < d.size∧(medianAdjacent ltInt d (a+(b - a) / 4 * 1) s).2≤s+3:=fun s=>median_in _ _ _ _ _ _ (by omega) (by omega) (by omega)
   have b2:∀ s,(medianAdjacent ltInt d (a+(b - a) / 4 * 2) s).1 < d.size∧(medianAdjacent ltInt d (a+(b - a) / 4 * 2) s).2≤s+3:=fun s=>median_in _ _ _ _ _ _ (by omega) (by omega) (by omega)
   have b3:∀ s,(medianAdjacent ltInt d (a+(b - a) / 4 * 3) s).1 < d.size∧(medianAdjacent ltInt d (a+(b - a) / 4 * 3) s).2≤s+3:=fun s=>median_in _ _ _ _ _ _ (by omega) (by omega) (by omega)
   have c1:=b1 0
   refine adjacent_ok rfl hm h1 (by omega) (by omega) hn (by omega) fun w2 h2=>⟨_,rfl,?_⟩
   have c2:=b2 (medianAdjacent ltInt d (a+(b - a) / 4 * 1) 0).2
   refine adjacent_ok rfl hm h2 (by omega) (by omega) hn (by omega) fun w3 h3=>⟨_,rfl,?_⟩
   have c3:=b3 (medianAdjacent ltInt d (a+(b - a) / 4 * 2) (medianAdjacent ltInt d (a+(b - a) / 4 * 1) 0).2).2
   refine adjacent_ok rfl hm h3 (by omega) (by omega) hn (by omega) fun w4 h4=>⟨_,rfl,?_⟩
   exact s7 w4 _ _ _ _ hcp.symm c1.1 c2.1 c3.1 (by omega) h4
  ·have h50:¬ b - a≥50:=by simp at h50; omega
   simp only [if_neg h50] at hcp
   exact s7 w1 _ _ _ _ hcp.symm (by omega) (by omega) (by omega) (by omega) h1
 ·have h8:¬ b - a≥8:=by simp at h8; omega
  simp only [if_neg h8] at hcp
  exact s8 w1 (a+(b - a) / 4 * 2,0) hcp.symm (by simp) h1
end
end Go.Fx.Tryz
namespace Go.Fx.Tryz
open Go Go.Fx
set_option linter.all false
open Go.Proofs
open Go.Sort (swp swp_size ltInt xorNext xorNextN bitsLen breakStep breakPatterns)
variable {w0 w:World} {H X:HBL} {K:KT}
set_option maxRecDepth 20000
theorem St.drewN (h:St w0 w H) (n:Nat):St w0 (w.drewN n) H:=⟨⟨h.kept.os,h.kept.tape,h.kept.output⟩,h.le,h.has,h.nd,h.old⟩
theorem xnext_ok {p x:Nat} {T2:TypeId} (h:St w0 w ((p,Cs [.int .u64 (x:Nat)] T2)::X)) (hx:x < 18446744073709551616) (hK:∀ w',St w0 w' ((p,Cs [.int .u64 (xorNextN x:Nat)] T2)::X)→K (.int .u64 (xorNextN x:Nat)) w') :
  CallL P 173 [.pointer (some (Addr.mk p 0 none))] w K:=by
 have hb:w.heap[p]?=some (Cs [.int .u64 (x:Nat)] T2):=h.has _ _ (.head _)
 refine CallL_of (AnyF.xorshift_Next (P:=P) (ρ:=Tryz.sort_ren) Tryz.sortNext p 0 x hx w (cell_of hb) (frozen_of hb)) ?_
 rintro e w' ⟨rfl,rfl⟩
 refine ⟨_,rfl,hK _ ?_⟩
 have e:w.setCell (Addr.mk p 0 none) (.int .u64 (xorNextN x:Nat))=w.putObj p (Cs [.int .u64 (xorNextN x:Nat)] T2):=setCell_of _ hb
 have e':w.setCell ⟨p,0,none⟩ (.int .u64 (xorNextN x:Nat))=w.putObj p (Cs [.int .u64 (xorNextN x:Nat)] T2):=e
 rw [e']
 exact St.drewN (h.put (k:=0) rfl _) 3
theorem pow_ok (h:St w0 w X) {n:Nat} (hn:n < 4611686018427387904) (hK:∀ w',St w0 w' X→K (.int .u64 ((1 <<< bitsLen n:Nat):Int)) w'):CallL P 172 [.int .i64 (n:Nat)] w K:=by
 refine CallL_of (AnyF.nextPowerOfTwo (P:=P) (ρ:=Tryz.sort_ren) Tryz.sortPow n hn w) ?_
 rintro e w' ⟨rfl,rfl⟩
 exact ⟨_,rfl,hK w' h⟩
section
variable {g c:Nat} {T:TypeId} {z:List Value}
def brk (a length modulus idx0:Nat) (d:Array Int):Nat→UInt64 × Array Int
 | 0=>(UInt64.ofNat length,d)
 | k+1=>breakStep a length modulus (brk a length modulus idx0 d k) (idx0+k)
theorem brk_size (a length modulus idx0:Nat) (d:Array Int):∀ k,(brk a length modulus idx0 d k).2.size=d.size
 | 0=>rfl
 | k+1=>by
  have:=brk_size a length modulus idx0 d k
  show (swp _ _ _).size=_
  rw [swp_size,this]
theorem breakPatterns_is (d:Array Int) (a b:Nat) (h:b - a≥8):breakPatterns d a b=(brk a (b - a) (1 <<< bitsLen (b - a)) (a+(b - a) / 4 * 2 - 1) d 3).2:=by
 unfold breakPatterns
 simp only [if_pos h]
 rfl
theorem pow_le (n:Nat) (h:0 < n):1 <<< bitsLen n≤2 * n:=by
 rw [Nat.one_shiftLeft]
 unfold bitsLen
 rw [if_neg (by omega),Nat.pow_succ]
 have:=Nat.log2_self_le (n:=n) (by omega)
 omega
theorem pow_pos' (n:Nat):0 < 1 <<< bitsLen n:=by rw [Nat.one_shiftLeft]; exact Nat.two_pow_pos _
theorem and_u64 {x y:Nat} (hx:x < 18446744073709551616) (hy:y < 4611686018427387904):IntKind.wrap .i64 (IntKind.wrap .u64 ((BitVec.ofInt (IntKind.bits .u64) (x:Int) &&& BitVec.ofInt (IntKind.bits .u64) (y:Int)).toNat:Int))=((x &&& y:Nat):Int):=by
 have h1:(BitVec.ofInt (IntKind.bits .u64) (x:Int) &&& BitVec.ofInt (IntKind.bits .u64) (y:Int)).toNat=x &&& y:=by
  rw [BitVec.toNat_and,BitVec.ofInt_natCast,BitVec.ofInt_natCast,BitVec.toNat_ofNat,BitVec.toNat_ofNat]
  show x % 2 ^ 64 &&& y % 2 ^ 64=x &&& y
  rw [Nat.mod_eq_of_lt (by omega),Nat.mod_eq_of_lt (by omega)]
 have h2:x &&& y≤y:=Nat.and_le_right
 rw [h1]
 have h3:IntKind.wrap .u64 ((x &&& y:Nat):Int)=((x &&& y:Nat):Int):=by
  simp only [IntKind.wrap,IntKind.bits,IntKind.signed]
  simp
  omega
 rw [h3,wrap_i64 (by omega) (by omega)]
theorem z188:zcells P 224=[Value.int .u64 0].toArray:=by kernel_rfl
def BkInv (w0:World) (H:HBL) (g c:Nat) (T:TypeId) (z:List Value) (p a length modulus idx0:Nat) (d:Array Int) (m:Nat) (ee:Env) (w:World):Prop:=
 ∃ k:Nat,k≤3∧m=3 - k∧ee=Env.mk 65 [(9,(Value.int .i64 ((idx0+k:Nat):Int))),(0,(Value.slice (some (Addr.mk g 0 none)) d.size c)),(1,(Value.int .i64 a)),(6,(Value.int .i64 length)),(8,(Value.int .u64 modulus)),(7,(Value.pointer (some (Addr.mk p 0 none))))] []∧
  St w0 w ((g,Cs (uCs (brk a length modulus idx0 d k).2 z) T)::(p,Cs [.int .u64 ((brk a length modulus idx0 d k).1.toNat:Nat)] 224)::H)
theorem break_ok {d:Array Int} {a b:Nat} (h:St w0 w ((g,Cs (uCs d z) T)::H)) (hab:a≤b) (hb:b≤d.size) (hn:d.size < 1000000000000) (hK:∀ w',St w0 w' ((g,Cs (uCs (breakPatterns d a b) z) T)::H)→K (.tuple [].toArray) w') :
  CallL P 144 [.slice (some (Addr.mk g 0 none)) d.size c,.int .i64 a,.int .i64 b] w K:=by
 refine f144_ok _ _ _ _ _ _ _ ?_
 have el:IntKind.wrap .i64 ((b:Int) - (a:Int))=((b - a:Nat):Int):=by rw [wrap_i64 (by omega) (by omega)]; omega
 rw [f144_eq,f144_s0_eq,el,f144_s1_eq,BIf_iff]
 constructor
 ·intro h8
  have h8:b - a≥8:=by simp at h8; omega
  have hBP:=breakPatterns_is d a b h8
  rw [hBP] at hK
  generalize hl:b - a=l at h8 hK
  have hlb:a+l=b:=by omega
  rw [f144_s2_eq,z188]
  refine h.newC fun p w1 hp h1=>h1.st1 (k:=0) rfl (by simp) rfl fun w2 h2=>?_
  have e6:IntKind.wrap .u64 (l:Int)=(l:Int):=by
   simp only [IntKind.wrap,IntKind.bits,IntKind.signed]
   simp
   omega
  rw [e6]
  have h2:St w0 w2 ((p,Cs [.int .u64 (IntKind.wrap .u64 (l:Int))] 224)::(g,Cs (uCs d z) T)::H):=h2
  rw [e6] at h2
  rw [f144_s3_eq]
  refine pow_ok h2 (by omega) fun w3 h3=>⟨_,rfl,?_⟩
  have hp1:=pow_le l (by omega)
  have hp0:=pow_pos' l
  generalize (1 <<< bitsLen l)=mo at hp1 hp0 hK
  have e4:IntKind.wrap .i64 ((l:Int).tdiv 4)=((l / 4:Nat):Int):=by
   rw [Int.tdiv_eq_ediv_of_nonneg (by omega),wrap_i64 (by omega) (by omega)]; omega
  have e5:IntKind.wrap .i64 ((a:Int)+IntKind.wrap .i64 (((l / 4:Nat):Int) * 2))=((a+l / 4 * 2:Nat):Int):=by
   rw [wrap_i64 (x:=((l / 4:Nat):Int) * 2) (by omega) (by omega),wrap_i64 (by omega) (by omega)]; omega
  have e7:IntKind.wrap .i64 (((a+l / 4 * 2:Nat):Int) - 1)=((a+l / 4 * 2 - 1:Nat):Int):=by rw [wrap_i64 (by omega) (by omega)]; omega
  have e8:IntKind.wrap .i64 (((a+l / 4 * 2:Nat):Int)+1)=((a+l / 4 * 2+1:Nat):Int):=by rw [wrap_i64 (by omega) (by omega)]; omega
  rw [f144_s4_eq,e4,e5,e7]
  refine ⟨by omega,?_⟩
  rw [f144_s5_eq]
  have hidx:a+l / 4 * 2 - 1+2 < b:=by omega
  generalize hi0:a+l / 4 * 2 - 1=i0 at hK hidx
  refine ⟨BkInv w0 H g c T z p a l mo i0 d,⟨3,0,by omega,rfl,rfl,?_⟩,?_⟩
  ·have h3':St w0 w3 ((g,Cs (uCs d z) T)::(p,Cs [.int .u64 (l:Int)] 224)::H):=h3.perm (List.Perm.swap _ _ _)
   have e9:((UInt64.ofNat l).toNat:Int)=(l:Int):=by
    rw [UInt64.toNat_ofNat']
    omega
   show St w0 w3 ((g,Cs (uCs d z) T)::(p,Cs [.int .u64 ((UInt64.ofNat l).toNat:Int)] 224)::H)
   rw [e9]
   exact h3'
  rintro m ee w4 ⟨k,hk,rfl,rfl,h4⟩
  show f144_lb6 ..
  rw [f144_lb6_eq,e4,e5,e8]
  refine ⟨by omega,?_⟩
  rw [BIf_iff]
  constructor
  ·intro hle
   have hk3:k < 3:=by simp at hle; omega
   rw [f144_s7_eq]
   generalize hst:brk a l mo i0 d k=st at h4
   have hsz:st.2.size=d.size:=by rw [← hst,brk_size]
   have h4':St w0 w4 ((p,Cs [.int .u64 (st.1.toNat:Nat)] 224)::(g,Cs (uCs st.2 z) T)::H):=h4.perm (List.Perm.swap _ _ _)
   refine xnext_ok h4' (UInt64.toNat_lt _) fun w5 h5=>⟨_,rfl,?_⟩
   have hx:=Go.Sort.xorNextN_lt st.1.toNat (UInt64.toNat_lt _)
   have ex:(xorNext st.1).toNat=xorNextN st.1.toNat:=Go.Sort.xorNext_toNat st.1
   have em:IntKind.wrap .u64 ((mo:Int) - 1)=((mo - 1:Nat):Int):=by
    simp only [IntKind.wrap,IntKind.bits,IntKind.signed]
    simp
    omega
   rw [em,and_u64 hx (by omega)]
   have ho:xorNextN st.1.toNat &&& (mo - 1)≤mo - 1:=Nat.and_le_right
   have hnext:brk a l mo i0 d (k+1)=(xorNext st.1,swp st.2 (i0+k) (a+(if xorNextN st.1.toNat &&& (mo - 1)≥l then (xorNextN st.1.toNat &&& (mo - 1)) - l else xorNextN st.1.toNat &&& (mo - 1)))):=by
    show breakStep a l mo (brk a l mo i0 d k) (i0+k)=_
    rw [hst]
    unfold breakStep
    simp only [ex]
   generalize xorNextN st.1.toNat &&& (mo - 1)=o at ho hnext
   have h5':St w0 w5 ((g,Cs (uCs st.2 z) T)::(p,Cs [.int .u64 (xorNextN st.1.toNat:Nat)] 224)::H):=h5.perm (List.Perm.swap _ _ _)
   have s8:∀ q:Nat,q < l→brk a l mo i0 d (k+1)=(xorNext st.1,swp st.2 (i0+k) (a+q))→f144_s8 (some (Addr.mk g 0 none)) d.size c a l mo (Addr.mk p 0 none) ((i0+k:Nat):Int) (q:Int) w5 K (fun e' w'=>∃ m,m < 3 - k∧BkInv w0 H g c T z p a l mo i0 d m e' w'):=by
    intro q hq hnx
    rw [f144_s8_eq]
    have eq':IntKind.wrap .i64 ((a:Int)+(q:Int))=((a+q:Nat):Int):=by rw [wrap_i64 (by omega) (by omega)]; omega
    rw [← hsz]
    refine swap_at (i:=i0+k) (j:=a+q) rfl eq' (by omega) (by omega) h5' fun w6 h6=>?_
    rw [f144_s9_eq]
    refine ⟨3 - (k+1),by omega,k+1,by omega,rfl,?_,?_⟩
    ·rw [wrap_i64 (by omega) (by omega),hsz]; rfl
    ·rw [hnx]
     show St w0 w6 ((g,Cs (uCs (swp st.2 (i0+k) (a+q)) z) T)::(p,Cs [.int .u64 ((xorNext st.1).toNat:Nat)] 224)::H)
     rw [ex]
     exact h6
   rw [BIf_iff]
   refine ⟨fun hge=>?_,fun hlt=>?_⟩
   ·have hge:o≥l:=by simp at hge; omega
    rw [if_pos hge] at hnext
    have eo:IntKind.wrap .i64 ((o:Int) - (l:Int))=((o - l:Nat):Int):=by rw [wrap_i64 (by omega) (by omega)]; omega
    rw [eo]
    exact s8 (o - l) (by omega) hnext
   ·have hlt:¬ o≥l:=by simp at hlt; omega
    rw [if_neg hlt] at hnext
    exact s8 o (by omega) hnext
  ·intro hgt
   have:k=3:=by simp at hgt; omega
   subst this
   have h4':St w0 w4 ((p,Cs [.int .u64 ((brk a l mo i0 d 3).1.toNat:Nat)] 224)::(g,Cs (uCs (brk a l mo i0 d 3).2 z) T)::H):=h4.perm (List.Perm.swap _ _ _)
   exact hK w4 (h4'.tail hp)
 ·intro h8
  have h8:¬ b - a≥8:=by simp at h8; omega
  have hBP:breakPatterns d a b=d:=by unfold breakPatterns; simp only [if_neg h8]
  rw [hBP] at hK
  exact hK w h
end
end Go.Fx.Tryz
namespace Go.Fx.Tryz
set_option maxRecDepth 100000
open Go Go.Fx Go.Proofs
noncomputable def c150:Code:=bodyOf Tryz.f150
noncomputable def rs150:List ResultVar:=Tryz.f150.results.toList
abbrev f150_kb (K:KT):Exit→YT:=bodyK P rs150 K
def f150 (a:OA) (b c:Nat) (d e f:Int) (w:World) (K:KT):Prop:=CS P c150 none [8,9] [8,9] (f150_kb K) (env0 168 [(VS a b c),(VI d),(VI e),(VI f)]) w
def f150_s0 (a:OA) (b c:Nat) (d e f:Int) (w:World) (K:KT):Prop:=CS P (cA c150 1) none [8,9] [8,9] (f150_kb K) (Env.mk 168 [(0,(VS a b c)),(1,(VI d)),(2,(VI e)),(3,(VI f))] []) w
abbrev f150_k0 (K:KT):Exit→YT:=kseq P (cA c150 2) (cA c150 3) none [8,9] [8,9] (f150_kb K)
def f150_s1 (a:Int) (b:OA) (c d:Nat) (e f g:Int) (w:World) (K:KT):Prop:=CS P (cA c150 3) none [8,9] [8,9] (f150_kb K) (Env.mk 168 [(9,(VB false)),(8,(VI a)),(0,(VS b c d)),(1,(VI e)),(2,(VI f)),(3,(VI g))] []) w
abbrev f150_k1 (K:KT):Exit→YT:=kseq P (cA c150 6) (cA c150 7) none [8,9] [8,9] (f150_kb K)
def f150_s2 (a:Int) (b:Bool) (c:OA) (d f:Nat) (g h:Int) (w:World) (K:KT):Prop:=SG P (cA c150 7) none [8,9] [8,9] (f150_kb K) (Env.mk 168 [(8,(VI a)),(9,(VB b)),(0,(VS c d f)),(1,(VI g)),(2,(VI h))] []) w
abbrev f150_k2 (K:KT):Exit→YT:=kseq P (cA c150 14) (cA c150 15) none [8,9] [8,9] (f150_kb K)
def f150_s3 (a b c d e f g:Int) (h:Bool) (i:OA) (j k:Nat) (l m:Int) (w:World) (K:KT):Prop:=CS P (cA c150 15) none [8,9] [8,9] (f150_kb K) (Env.mk 168 [(11,(VI a)),(10,(VI b)),(29,(VI c)),(28,(VI d)),(27,(VI e)),(26,(VI f)),(8,(VI g)),(9,(VB h)),(0,(VS i j k)),(1,(VI l)),(2,(VI m))] []) w
abbrev f150_k3 (K:KT):Exit→YT:=kseq P (cA c150 30) (cA c150 31) none [8,9] [8,9] (f150_kb K)
abbrev f150_k4 (K:KT):Exit→YT:=kblock 0 (f150_k3 K)
def f150_lp4 (K:KT) (Y4:YT) (e:Env) (w:World):Prop:=Join (fun e w=>CS P (cA c150 120) none [10,8,9,11,0,1] [8,9,11,0,1,10] (kloop [10,8,9,11,0,1] Y4 (f150_k4 K)) e w) e w
abbrev f150_kl4 (K:KT) (Y4:YT):Exit→YT:=kloop [10,8,9,11,0,1] Y4 (f150_k4 K)
def f150_lb4 (a b:Int) (c:Bool) (d:Int) (f:OA) (g h:Nat) (i:Int) (w:World) (K:KT) (Y4:YT):Prop:=SG P (cA c150 120) none [10,8,9,11,0,1] [8,9,11,0,1,10] (f150_kl4 K Y4) (Env.mk 168 [(10,(VI a)),(8,(VI b)),(9,(VB c)),(11,(VI d)),(0,(VS f g h)),(1,(VI i))] []) w
abbrev f150_k5 (K:KT) (Y4:YT):Exit→YT:=kseq P (cA c150 240) (cA c150 241) none [10,8,9,11,0,1] [8,9,11,0,1,10] (f150_kl4 K Y4)
abbrev f150_k6 (K:KT) (Y4:YT):Exit→YT:=kseq P (cA c150 480) (cA c150 481) none [8,9,11,0,1,10] [8,9,11,0,1,10] (f150_k5 K Y4)
def f150_s5 (a:Bool) (b:Int) (c:Bool) (d:Int) (f:OA) (g h:Nat) (i j:Int) (w:World) (K:KT) (Y4:YT):Prop:=SG P (cA c150 481) none [8,9,11,0,1,10] [8,9,11,0,1,10] (f150_k5 K Y4) (Env.mk 168 [(43,(VB a)),(8,(VI b)),(9,(VB c)),(11,(VI d)),(0,(VS f g h)),(1,(VI i)),(10,(VI j))] []) w
def f150_s6 (a:Int) (b:Bool) (c:Int) (d:OA) (f g:Nat) (h i:Int) (w:World) (K:KT) (Y4:YT):Prop:=SG P (cA c150 241) none [10,8,9,11,0,1] [8,9,11,0,1,10] (f150_kl4 K Y4) (Env.mk 168 [(8,(VI a)),(9,(VB b)),(11,(VI c)),(0,(VS d f g)),(1,(VI h)),(10,(VI i))] []) w
abbrev f150_k7 (K:KT) (Y4:YT):Exit→YT:=kblock 1 (f150_kl4 K Y4)
theorem f150_s6_eq (a:Int) (c:Bool) (d:Int) (e:OA) (f g:Nat) (h i:Int) (w:World) (K:KT) (Y4:YT):f150_s6 a c d e f g h i w K Y4=(Y4 (Env.mk 168 [(10,(Value.int .i64 (IntKind.wrap .i64 ((i:Int)+1)))),(8,(Value.int .i64 a)),(9,(Value.bool c)),(11,(Value.int .i64 d)),(0,(Value.slice e f g)),(1,(Value.int .i64 h))] []) w):=Eq.trans SGe (Eq.trans (CSb 1 [8,9,11,0,1,10] (f150_k7 K Y4) (by kernel_rfl)) (by kernel_rfl))
def f150_s7 (a b:Int) (c:Bool) (d:OA) (f g:Nat) (h i:Int) (w:World) (K:KT):Prop:=SG P (cA c150 31) none [8,9] [8,9] (f150_kb K) (Env.mk 168 [(11,(VI a)),(8,(VI b)),(9,(VB c)),(0,(VS d f g)),(1,(VI h)),(10,(VI i))] []) w
abbrev f150_k8 (K:KT):Exit→YT:=kseq P (cA c150 62) (cA c150 63) none [8,9] [8,9] (f150_kb K)
abbrev f150_k9 (K:KT):Exit→YT:=kblock 2 (f150_k8 K)
def f150_lp8 (K:KT) (Y8:YT) (e:Env) (w:World):Prop:=Join (fun e w=>CS P (cA c150 248) none [11,8,9,0,1,10] [8,9,11,0,1,10] (kloop [11,8,9,0,1,10] Y8 (f150_k9 K)) e w) e w
abbrev f150_kl8 (K:KT) (Y8:YT):Exit→YT:=kloop [11,8,9,0,1,10] Y8 (f150_k9 K)
def f150_lb8 (a b:Int) (c:Bool) (d:OA) (f g:Nat) (h i:Int) (w:World) (K:KT) (Y8:YT):Prop:=SG P (cA c150 248) none [11,8,9,0,1,10] [8,9,11,0,1,10] (f150_kl8 K Y8) (Env.mk 168 [(11,(VI a)),(8,(VI b)),(9,(VB c)),(0,(VS d f g)),(1,(VI h)),(10,(VI i))] []) w
abbrev f150_k10 (K:KT) (Y8:YT):Exit→YT:=kseq P (cA c150 496) (cA c150 497) none [11,8,9,0,1,10] [8,9,11,0,1,10] (f150_kl8 K Y8)
abbrev f150_k11 (K:KT) (Y8:YT):Exit→YT:=kseq P (cA c150 992) (cA c150 993) none [8,9,0,1,10,11] [8,9,11,0,1,10] (f150_k10 K Y8)
def f150_s9 (a:Bool) (b:Int) (c:Bool) (d:OA) (f g:Nat) (h i j:Int) (w:World) (K:KT) (Y8:YT):Prop:=SG P (cA c150 993) none [8,9,0,1,10,11] [8,9,11,0,1,10] (f150_k10 K Y8) (Env.mk 168 [(60,(VB a)),(8,(VI b)),(9,(VB c)),(0,(VS d f g)),(1,(VI h)),(10,(VI i)),(11,(VI j))] []) w
def f150_s10 (a:Int) (b:Bool) (c:OA) (d f:Nat) (g h i:Int) (w:World) (K:KT) (Y8:YT):Prop:=SG P (cA c150 497) none [11,8,9,0,1,10] [8,9,11,0,1,10] (f150_kl8 K Y8) (Env.mk 168 [(8,(VI a)),(9,(VB b)),(0,(VS c d f)),(1,(VI g)),(10,(VI h)),(11,(VI i))] []) w
abbrev f150_k12 (K:KT) (Y8:YT):Exit→YT:=kblock 3 (f150_kl8 K Y8)
theorem f150_s10_eq (a:Int) (c:Bool) (d:OA) (e f:Nat) (g h i:Int) (w:World) (K:KT) (Y8:YT):f150_s10 a c d e f g h i w K Y8=(Y8 (Env.mk 168 [(11,(Value.int .i64 (IntKind.wrap .i64 ((i:Int) - 1)))),(8,(Value.int .i64 a)),(9,(Value.bool c)),(0,(Value.slice d e f)),(1,(Value.int .i64 g)),(10,(Value.int .i64 h))] []) w):=Eq.trans SGe (Eq.trans (CSb 3 [8,9,11,0,1,10] (f150_k12 K Y8) (by kernel_rfl)) (by kernel_rfl))
def f150_s11 (a:Int) (b:OA) (c d:Nat) (f g:Int) (h:Bool) (i:Int) (w:World) (K:KT):Prop:=SG P (cA c150 63) none [8,9] [8,9] (f150_kb K) (Env.mk 168 [(11,(VI a)),(0,(VS b c d)),(1,(VI f)),(8,(VI g)),(9,(VB h)),(10,(VI i))] []) w
abbrev f150_k13 (K:KT):Exit→YT:=kseq P (cA c150 126) (cA c150 127) none [8,9] [8,9] (f150_kb K)
abbrev f150_k14 (K:KT):Exit→YT:=kseq P (cA c150 252) (cA c150 253) none [8,9,0,1,11,10] [8,9] (f150_k13 K)
def f150_s12 (a:Int) (w:World) (K:KT):Prop:=SG P (cA c150 1013) none [8,9,0,1,11,10] [8,9] (f150_k13 K) (Env.mk 168 [(11,(VI a))] []) w
abbrev f150_k16 (K:KT):Exit→YT:=kseq P (cA c150 2026) (cA c150 2027) none [8,9,0,1,11,10] [8,9] (f150_k13 K)
theorem f150_s12_eq (c:Int) (w:World) (K:KT):f150_s12 c w K=(K (Value.tuple [(Value.int .i64 c),(Value.bool true)].toArray) w):=Eq.trans SGe (Eq.trans (CSs [8,9] (f150_k16 K) (by kernel_rfl)) (by kernel_rfl))
def f150_s13 (a:Int) (b:Bool) (c:OA) (d f:Nat) (g h i:Int) (w:World) (K:KT):Prop:=SG P (cA c150 127) none [8,9] [8,9] (f150_kb K) (Env.mk 168 [(8,(VI a)),(9,(VB b)),(0,(VS c d f)),(1,(VI g)),(11,(VI h)),(10,(VI i))] []) w
abbrev f150_k17 (K:KT):Exit→YT:=kseq P (cA c150 254) (cA c150 255) none [8,9] [8,9] (f150_kb K)
def f150_s14 (a:Int) (b:Bool) (c:OA) (d f:Nat) (g h i:Int) (w:World) (K:KT):Prop:=SG P (cA c150 255) none [8,9] [8,9] (f150_kb K) (Env.mk 168 [(8,(VI a)),(9,(VB b)),(0,(VS c d f)),(1,(VI g)),(11,(VI h)),(10,(VI i))] []) w
abbrev f150_k18 (K:KT):Exit→YT:=kseq P (cA c150 510) (cA c150 511) none [8,9] [8,9] (f150_kb K)
def f150_s15 (a b c d:Int) (e:Bool) (f:OA) (g h:Nat) (i j k:Int) (w:World) (K:KT):Prop:=CS P (cA c150 511) none [8,9] [8,9] (f150_kb K) (Env.mk 168 [(10,(VI a)),(96,(VI b)),(95,(VI c)),(8,(VI d)),(9,(VB e)),(0,(VS f g h)),(1,(VI i)),(11,(VI j)),(10,(VI k))] []) w
abbrev f150_k19 (K:KT):Exit→YT:=kseq P (cA c150 1022) (cA c150 1023) none [8,9] [8,9] (f150_kb K)
def f150_s16 (a b c d e f g:Int) (h:Bool) (i:OA) (j k:Nat) (l m n:Int) (w:World) (K:KT):Prop:=CS P (cA c150 1023) none [8,9] [8,9] (f150_kb K) (Env.mk 168 [(11,(VI a)),(98,(VI b)),(97,(VI c)),(10,(VI d)),(96,(VI e)),(95,(VI f)),(8,(VI g)),(9,(VB h)),(0,(VS i j k)),(1,(VI l)),(11,(VI m)),(10,(VI n))] []) w
abbrev f150_k20 (K:KT):Exit→YT:=kseq P (cA c150 2046) (cA c150 2047) none [8,9] [8,9] (f150_kb K)
abbrev f150_k21 (K:KT):Exit→YT:=kblock 4 (f150_k20 K)
def f150_lp17 (K:KT) (Y17:YT) (e:Env) (w:World):Prop:=Join (fun e w=>CS P (cA c150 8184) none [10,8,9,11,0,1] [8,9,11,0,1] (kloop [10,8,9,11,0,1] Y17 (f150_k21 K)) e w) e w
abbrev f150_kl17 (K:KT) (Y17:YT):Exit→YT:=kloop [10,8,9,11,0,1] Y17 (f150_k21 K)
def f150_lb17 (a b:Int) (c:Bool) (d:Int) (f:OA) (g h:Nat) (i:Int) (w:World) (K:KT) (Y17:YT):Prop:=SG P (cA c150 8184) none [10,8,9,11,0,1] [8,9,11,0,1] (f150_kl17 K Y17) (Env.mk 168 [(10,(VI a)),(8,(VI b)),(9,(VB c)),(11,(VI d)),(0,(VS f g h)),(1,(VI i))] []) w
abbrev f150_k22 (K:KT) (Y17:YT):Exit→YT:=kblock 5 (f150_kl17 K Y17)
abbrev f150_k23 (K:KT) (Y17:YT):Exit→YT:=kseq P (cA c150 32736) (cA c150 32737) none [10,8,9,11,0,1] [8,9,11,0,1,10] (f150_k22 K Y17)
abbrev f150_k24 (K:KT) (Y17:YT):Exit→YT:=kblock 6 (f150_k23 K Y17)
def f150_lp18 (K:KT) (Y17 Y18:YT) (e:Env) (w:World):Prop:=Join (fun e w=>CS P (cA c150 130944) none [10,8,9,11,0,1] [8,9,11,0,1,10] (kloop [10,8,9,11,0,1] Y18 (f150_k24 K Y17)) e w) e w
abbrev f150_kl18 (K:KT) (Y17 Y18:YT):Exit→YT:=kloop [10,8,9,11,0,1] Y18 (f150_k24 K Y17)
def f150_lb18 (a b:Int) (c:Bool) (d:Int) (f:OA) (g h:Nat) (i:Int) (w:World) (K:KT) (Y17 Y18:YT):Prop:=SG P (cA c150 130944) none [10,8,9,11,0,1] [8,9,11,0,1,10] (f150_kl18 K Y17 Y18) (Env.mk 168 [(10,(VI a)),(8,(VI b)),(9,(VB c)),(11,(VI d)),(0,(VS f g h)),(1,(VI i))] []) w
abbrev f150_k25 (K:KT) (Y17 Y18:YT):Exit→YT:=kseq P (cA c150 261888) (cA c150 261889) none [10,8,9,11,0,1] [8,9,11,0,1,10] (f150_kl18 K Y17 Y18)
abbrev f150_k26 (K:KT) (Y17 Y18:YT):Exit→YT:=kseq P (cA c150 523776) (cA c150 523777) none [8,9,11,0,1,10] [8,9,11,0,1,10] (f150_k25 K Y17 Y18)
def f150_s19 (a:Bool) (b:Int) (c:Bool) (d:Int) (f:OA) (g h:Nat) (i j:Int) (w:World) (K:KT) (Y17 Y18:YT):Prop:=SG P (cA c150 523777) none [8,9,11,0,1,10] [8,9,11,0,1,10] (f150_k25 K Y17 Y18) (Env.mk 168 [(112,(VB a)),(8,(VI b)),(9,(VB c)),(11,(VI d)),(0,(VS f g h)),(1,(VI i)),(10,(VI j))] []) w
def f150_s20 (a:Int) (b:Bool) (c:Int) (d:OA) (f g:Nat) (h i:Int) (w:World) (K:KT) (Y17 Y18:YT):Prop:=SG P (cA c150 261889) none [10,8,9,11,0,1] [8,9,11,0,1,10] (f150_kl18 K Y17 Y18) (Env.mk 168 [(8,(VI a)),(9,(VB b)),(11,(VI c)),(0,(VS d f g)),(1,(VI h)),(10,(VI i))] []) w
abbrev f150_k27 (K:KT) (Y17 Y18:YT):Exit→YT:=kblock 7 (f150_kl18 K Y17 Y18)
theorem f150_s20_eq (a:Int) (c:Bool) (d:Int) (e:OA) (f g:Nat) (h i:Int) (w:World) (K:KT) (Y17 Y18:YT):f150_s20 a c d e f g h i w K Y17 Y18=(Y18 (Env.mk 168 [(10,(Value.int .i64 (IntKind.wrap .i64 ((i:Int)+1)))),(8,(Value.int .i64 a)),(9,(Value.bool c)),(11,(Value.int .i64 d)),(0,(Value.slice e f g)),(1,(Value.int .i64 h))] []) w):=Eq.trans SGe (Eq.trans (CSb 7 [8,9,11,0,1,10] (f150_k27 K Y17 Y18) (by kernel_rfl)) (by kernel_rfl))
def f150_s21 (a b:Int) (c:Bool) (d:OA) (f g:Nat) (h i:Int) (w:World) (K:KT) (Y17:YT):Prop:=SG P (cA c150 32737) none [10,8,9,11,0,1] [8,9,11,0,1,10] (f150_k22 K Y17) (Env.mk 168 [(11,(VI a)),(8,(VI b)),(9,(VB c)),(0,(VS d f g)),(1,(VI h)),(10,(VI i))] []) w
abbrev f150_k28 (K:KT) (Y17:YT):Exit→YT:=kseq P (cA c150 65474) (cA c150 65475) none [10,8,9,11,0,1] [8,9,11,0,1,10] (f150_k22 K Y17)
abbrev f150_k29 (K:KT) (Y17:YT):Exit→YT:=kblock 8 (f150_k28 K Y17)
def f150_lp22 (K:KT) (Y17 Y22:YT) (e:Env) (w:World):Prop:=Join (fun e w=>CS P (cA c150 261896) none [11,8,9,0,1,10] [8,9,11,0,1,10] (kloop [11,8,9,0,1,10] Y22 (f150_k29 K Y17)) e w) e w
abbrev f150_kl22 (K:KT) (Y17 Y22:YT):Exit→YT:=kloop [11,8,9,0,1,10] Y22 (f150_k29 K Y17)
def f150_lb22 (a b:Int) (c:Bool) (d:OA) (f g:Nat) (h i:Int) (w:World) (K:KT) (Y17 Y22:YT):Prop:=SG P (cA c150 261896) none [11,8,9,0,1,10] [8,9,11,0,1,10] (f150_kl22 K Y17 Y22) (Env.mk 168 [(11,(VI a)),(8,(VI b)),(9,(VB c)),(0,(VS d f g)),(1,(VI h)),(10,(VI i))] []) w
abbrev f150_k30 (K:KT) (Y17 Y22:YT):Exit→YT:=kseq P (cA c150 523792) (cA c150 523793) none [11,8,9,0,1,10] [8,9,11,0,1,10] (f150_kl22 K Y17 Y22)
abbrev f150_k31 (K:KT) (Y17 Y22:YT):Exit→YT:=kseq P (cA c150 1047584) (cA c150 1047585) none [8,9,0,1,10,11] [8,9,11,0,1,10] (f150_k30 K Y17 Y22)
def f150_s23 (a:Bool) (b:Int) (c:Bool) (d:OA) (f g:Nat) (h i j:Int) (w:World) (K:KT) (Y17 Y22:YT):Prop:=SG P (cA c150 1047585) none [8,9,0,1,10,11] [8,9,11,0,1,10] (f150_k30 K Y17 Y22) (Env.mk 168 [(129,(VB a)),(8,(VI b)),(9,(VB c)),(0,(VS d f g)),(1,(VI h)),(10,(VI i)),(11,(VI j))] []) w
def f150_s24 (a:Int) (b:Bool) (c:OA) (d f:Nat) (g h i:Int) (w:World) (K:KT) (Y17 Y22:YT):Prop:=SG P (cA c150 523793) none [11,8,9,0,1,10] [8,9,11,0,1,10] (f150_kl22 K Y17 Y22) (Env.mk 168 [(8,(VI a)),(9,(VB b)),(0,(VS c d f)),(1,(VI g)),(10,(VI h)),(11,(VI i))] []) w
abbrev f150_k32 (K:KT) (Y17 Y22:YT):Exit→YT:=kblock 9 (f150_kl22 K Y17 Y22)
theorem f150_s24_eq (a:Int) (c:Bool) (d:OA) (e f:Nat) (g h i:Int) (w:World) (K:KT) (Y17 Y22:YT):f150_s24 a c d e f g h i w K Y17 Y22=(Y22 (Env.mk 168 [(11,(Value.int .i64 (IntKind.wrap .i64 ((i:Int) - 1)))),(8,(Value.int .i64 a)),(9,(Value.bool c)),(0,(Value.slice d e f)),(1,(Value.int .i64 g)),(10,(Value.int .i64 h))] []) w):=Eq.trans SGe (Eq.trans (CSb 9 [8,9,11,0,1,10] (f150_k32 K Y17 Y22) (by kernel_rfl)) (by kernel_rfl))
def f150_s25 (a:Int) (b:Bool) (c:Int) (d:OA) (f g:Nat) (h i:Int) (w:World) (K:KT) (Y17:YT):Prop:=SG P (cA c150 65475) none [10,8,9,11,0,1] [8,9,11,0,1,10] (f150_k22 K Y17) (Env.mk 168 [(8,(VI a)),(9,(VB b)),(11,(VI c)),(0,(VS d f g)),(1,(VI h)),(10,(VI i))] []) w
abbrev f150_k33 (K:KT) (Y17:YT):Exit→YT:=kseq P (cA c150 130950) (cA c150 130951) none [10,8,9,11,0,1] [8,9,11,0,1,10] (f150_k22 K Y17)
abbrev f150_k34 (K:KT) (Y17:YT):Exit→YT:=kseq P (cA c150 261900) (cA c150 261901) none [8,9,0,1,11,10] [8,9,11,0,1,10] (f150_k33 K Y17)
def f150_s26 (a:Int) (b:OA) (c d:Nat) (f:Int) (w:World) (K:KT):Prop:=SG P (cA c150 2047) none [8,9] [8,9] (f150_kb K) (Env.mk 168 [(11,(VI a)),(0,(VS b c d)),(1,(VI f))] []) w
abbrev f150_k35 (K:KT):Exit→YT:=kseq P (cA c150 4094) (cA c150 4095) none [8,9] [8,9] (f150_kb K)
def f150_s27 (a:Int) (w:World) (K:KT):Prop:=SG P (cA c150 4095) none [8,9] [8,9] (f150_kb K) (Env.mk 168 [(11,(VI a))] []) w
abbrev f150_k36 (K:KT):Exit→YT:=kseq P (cA c150 8190) (cA c150 8191) none [8,9] [8,9] (f150_kb K)
theorem f150_s27_eq (c:Int) (w:World) (K:KT):f150_s27 c w K=(K (Value.tuple [(Value.int .i64 c),(Value.bool false)].toArray) w):=Eq.trans SGe (Eq.trans (CSs [8,9] (f150_k36 K) (by kernel_rfl)) (by kernel_rfl))
theorem f150_s26_eq (c:Int) (e:OA) (f g:Nat) (d:Int) (w:World) (K:KT):f150_s26 c e f g d w K=(optS e (fun j=>0≤(d:Int)∧(d:Int) < (f:Nat)∧optS e (fun k=>0≤(c:Int)∧(c:Int) < (f:Nat)∧∃ h:Int,w.drew.cell? (j.add (Int.toNat d * 1))=some (.int .u32 h)∧∃ i:Int,w.drew.cell? (k.add (Int.toNat c * 1))=some (.int .u32 i)∧optS e (fun l=>0≤(c:Int)∧(c:Int) < (f:Nat)∧St1 (l.add (Int.toNat c * 1)) (Value.int .u32 h) w.drew (fun m=>optS e (fun n=>0≤(d:Int)∧(d:Int) < (f:Nat)∧St1 (n.add (Int.toNat d * 1)) (Value.int .u32 i) m (fun o=>f150_s27 c o K))))))):=Eq.trans SGe (Eq.trans (CSs [11] (f150_k35 K) (by kernel_rfl)) (by kernel_rfl))
def f150_s28 (a:Int) (b:Bool) (c:OA) (d f:Nat) (g h i:Int) (w:World) (K:KT) (Y17:YT):Prop:=SG P (cA c150 130951) none [10,8,9,11,0,1] [8,9,11,0,1,10] (f150_k22 K Y17) (Env.mk 168 [(8,(VI a)),(9,(VB b)),(0,(VS c d f)),(1,(VI g)),(11,(VI h)),(10,(VI i))] []) w
abbrev f150_k37 (K:KT) (Y17:YT):Exit→YT:=kseq P (cA c150 261902) (cA c150 261903) none [10,8,9,11,0,1] [8,9,11,0,1,10] (f150_k22 K Y17)
def f150_s29 (a:Int) (b:Bool) (c:OA) (d f:Nat) (g h i:Int) (w:World) (K:KT) (Y17:YT):Prop:=SG P (cA c150 261903) none [10,8,9,11,0,1] [8,9,11,0,1,10] (f150_k22 K Y17) (Env.mk 168 [(8,(VI a)),(9,(VB b)),(0,(VS c d f)),(1,(VI g)),(11,(VI h)),(10,(VI i))] []) w
abbrev f150_k38 (K:KT) (Y17:YT):Exit→YT:=kseq P (cA c150 523806) (cA c150 523807) none [10,8,9,11,0,1] [8,9,11,0,1,10] (f150_k22 K Y17)
theorem f150_s29_eq (c:Int) (d:Bool) (e:OA) (f g:Nat) (h i j:Int) (w:World) (K:KT) (Y17:YT):f150_s29 c d e f g h i j w K Y17=(Y17 (Env.mk 168 [(10,(Value.int .i64 (IntKind.wrap .i64 ((j:Int)+1)))),(8,(Value.int .i64 c)),(9,(Value.bool d)),(11,(Value.int .i64 (IntKind.wrap .i64 ((i:Int) - 1)))),(0,(Value.slice e f g)),(1,(Value.int .i64 h))] []) w):=Eq.trans SGe (Eq.trans (CSs [10,8,9,0,1,11] (f150_k38 K Y17) (by kernel_rfl)) (by kernel_rfl))
theorem f150_s28_eq (g:Int) (h:Bool) (e:OA) (f i:Nat) (j c d:Int) (w:World) (K:KT) (Y17:YT):f150_s28 g h e f i j c d w K Y17=(optS e (fun m=>0≤(c:Int)∧(c:Int) < (f:Nat)∧optS e (fun n=>0≤(d:Int)∧(d:Int) < (f:Nat)∧∃ k:Int,w.drew.cell? (m.add (Int.toNat c * 1))=some (.int .u32 k)∧∃ l:Int,w.drew.cell? (n.add (Int.toNat d * 1))=some (.int .u32 l)∧optS e (fun o=>0≤(d:Int)∧(d:Int) < (f:Nat)∧St1 (o.add (Int.toNat d * 1)) (Value.int .u32 k) w.drew (fun p=>optS e (fun q=>0≤(c:Int)∧(c:Int) < (f:Nat)∧St1 (q.add (Int.toNat c * 1)) (Value.int .u32 l) p (fun r=>f150_s29 g h e f i j c d r K Y17))))))):=Eq.trans SGe (Eq.trans (CSs [8,9,0,1,11,10] (f150_k37 K Y17) (by kernel_rfl)) (by kernel_rfl))
theorem f150_s25_eq (i:Int) (j:Bool) (c:Int) (d:OA) (e f:Nat) (g h:Int) (w:World) (K:KT) (Y17:YT):f150_s25 i j c d e f g h w K Y17=(BIf (decide ((h:Int) > c)) (f150_s26 c d e f g w K) (f150_s28 i j d e f g c h w K Y17)):=Eq.trans SGe (Eq.trans (CSs [8,9,0,1,11,10] (f150_k33 K Y17) (by kernel_rfl)) (Eq.trans (CSs [134,8,9,11,0,1,10] (f150_k34 K Y17) (by kernel_rfl)) (by kernel_rfl)))
theorem f150_s23_eq (j:Bool) (a:Int) (c:Bool) (d:OA) (e f:Nat) (g h i:Int) (w:World) (K:KT) (Y17 Y22:YT):f150_s23 j a c d e f g h i w K Y17 Y22=(BIf j (f150_s24 a c d e f g h i w K Y17 Y22) (f150_s25 a c i d e f g h w K Y17)):=Eq.trans SGe (by kernel_rfl)
theorem f150_lb22_eq (c h:Int) (i:Bool) (e:OA) (f j:Nat) (d g:Int) (w:World) (K:KT) (Y17 Y22:YT):f150_lb22 c h i e f j d g w K Y17 Y22=(BIf (decide ((g:Int)≤c)) (optS e (fun n=>0≤(c:Int)∧(c:Int) < (f:Nat)∧optS e (fun o=>0≤(d:Int)∧(d:Int) < (f:Nat)∧∃ k:Int,w.drew.cell? (n.add (Int.toNat c * 1))=some (.int .u32 k)∧∃ l:Int,w.drew.cell? (o.add (Int.toNat d * 1))=some (.int .u32 l)∧CallL P 148 [(Value.int .u32 k),(Value.int .u32 l)] w.drew (fun p q=>∃ m:Bool,p=(.bool m)∧f150_s23 (!m) h i e f j d g c q K Y17 Y22)))) (f150_s23 false h i e f j d g c w.drew K Y17 Y22)):=Eq.trans SGe (Eq.trans (CSs [8,9,0,1,10,11] (f150_k30 K Y17 Y22) (by kernel_rfl)) (Eq.trans (CSs [129,8,9,0,1,10,11] (f150_k31 K Y17 Y22) (by kernel_rfl)) (by kernel_rfl)))
theorem f150_s21_eq (c d:Int) (e:Bool) (f:OA) (g h:Nat) (i j:Int) (w:World) (K:KT) (Y17:YT):f150_s21 c d e f g h i j w K Y17=(LoopE (f150_lp22 K Y17) (Env.mk 168 [(11,(Value.int .i64 c)),(8,(Value.int .i64 d)),(9,(Value.bool e)),(0,(Value.slice f g h)),(1,(Value.int .i64 i)),(10,(Value.int .i64 j))] []) w):=Eq.trans SGe (Eq.trans (CSs [8,9,11,0,1,10] (f150_k28 K Y17) (by kernel_rfl)) (Eq.trans (CSb 8 [8,9,11,0,1,10] (f150_k29 K Y17) (by kernel_rfl)) ((CS_loop' (b:=(cA c150 261896)) (X':=[8,9,11,0,1,10]) (H:=[11,8,9,0,1,10]) (by kernel_rfl) (by kernel_rfl) (by kernel_rfl)).trans (by kernel_rfl))))
theorem f150_s19_eq (j:Bool) (a:Int) (c:Bool) (d:Int) (e:OA) (f g:Nat) (h i:Int) (w:World) (K:KT) (Y17 Y18:YT):f150_s19 j a c d e f g h i w K Y17 Y18=(BIf j (f150_s20 a c d e f g h i w K Y17 Y18) (f150_s21 d a c e f g h i w K Y17)):=Eq.trans SGe (by kernel_rfl)
theorem f150_lb18_eq (c h:Int) (i:Bool) (g:Int) (e:OA) (f j:Nat) (d:Int) (w:World) (K:KT) (Y17 Y18:YT):f150_lb18 c h i g e f j d w K Y17 Y18=(BIf (decide ((c:Int)≤g)) (optS e (fun n=>0≤(c:Int)∧(c:Int) < (f:Nat)∧optS e (fun o=>0≤(d:Int)∧(d:Int) < (f:Nat)∧∃ k:Int,w.drew.cell? (n.add (Int.toNat c * 1))=some (.int .u32 k)∧∃ l:Int,w.drew.cell? (o.add (Int.toNat d * 1))=some (.int .u32 l)∧CallL P 148 [(Value.int .u32 k),(Value.int .u32 l)] w.drew (fun p q=>∃ m:Bool,p=(.bool m)∧f150_s19 m h i g e f j d c q K Y17 Y18)))) (f150_s19 false h i g e f j d c w.drew K Y17 Y18)):=Eq.trans SGe (Eq.trans (CSs [8,9,11,0,1,10] (f150_k25 K Y17 Y18) (by kernel_rfl)) (Eq.trans (CSs [112,8,9,11,0,1,10] (f150_k26 K Y17 Y18) (by kernel_rfl)) (by kernel_rfl)))
theorem f150_lb17_eq (c d:Int) (e:Bool) (f:Int) (g:OA) (h i:Nat) (j:Int) (w:World) (K:KT) (Y17:YT):f150_lb17 c d e f g h i j w K Y17=(LoopE (f150_lp18 K Y17) (Env.mk 168 [(10,(Value.int .i64 c)),(8,(Value.int .i64 d)),(9,(Value.bool e)),(11,(Value.int .i64 f)),(0,(Value.slice g h i)),(1,(Value.int .i64 j))] []) w):=Eq.trans SGe (Eq.trans (CSb 5 [8,9,11,0,1,10] (f150_k22 K Y17) (by kernel_rfl)) (Eq.trans (CSs [11,8,9,0,1,10] (f150_k23 K Y17) (by kernel_rfl)) (Eq.trans (CSb 6 [8,9,11,0,1,10] (f150_k24 K Y17) (by kernel_rfl)) ((CS_loop' (b:=(cA c150 130944)) (X':=[8,9,11,0,1,10]) (H:=[10,8,9,11,0,1]) (by kernel_rfl) (by kernel_rfl) (by kernel_rfl)).trans (by kernel_rfl)))))
theorem f150_s16_eq (c k l d m n e:Int) (f:Bool) (g:OA) (h i:Nat) (j o p:Int) (w:World) (K:KT):f150_s16 c k l d m n e f g h i j o p w K=(LoopE (f150_lp17 K) (Env.mk 168 [(10,(Value.int .i64 d)),(8,(Value.int .i64 e)),(9,(Value.bool f)),(11,(Value.int .i64 c)),(0,(Value.slice g h i)),(1,(Value.int .i64 j))] []) w):=Eq.trans (b:=CS P (cA c150 1023) none [8,9] [8,9] (f150_kb K) (Env.mk 168 [(11,(VI c)),(98,(VI k)),(97,(VI l)),(10,(VI d)),(96,(VI m)),(95,(VI n)),(8,(VI e)),(9,(VB f)),(0,(VS g h i)),(1,(VI j)),(11,(VI o)),(10,(VI p))] []) w) (by kernel_rfl) (Eq.trans (CSs [11,0,1] (f150_k20 K) (by kernel_rfl)) (Eq.trans (CSb 4 [8,9,11,0,1] (f150_k21 K) (by kernel_rfl)) ((CS_loop' (b:=(cA c150 8184)) (X':=[8,9,11,0,1]) (H:=[10,8,9,11,0,1]) (by kernel_rfl) (by kernel_rfl) (by kernel_rfl)).trans (by kernel_rfl))))
theorem f150_s15_eq (d e f g:Int) (h:Bool) (i:OA) (j k:Nat) (l c m:Int) (w:World) (K:KT):f150_s15 d e f g h i j k l c m w K=(f150_s16 (IntKind.wrap .i64 ((c:Int) - 1)) (IntKind.wrap .i64 ((c:Int) - 1)) c d e f g h i j k l c m w K):=Eq.trans (b:=CS P (cA c150 511) none [8,9] [8,9] (f150_kb K) (Env.mk 168 [(10,(VI d)),(96,(VI e)),(95,(VI f)),(8,(VI g)),(9,(VB h)),(0,(VS i j k)),(1,(VI l)),(11,(VI c)),(10,(VI m))] []) w) (by kernel_rfl) (Eq.trans (CSs [10,8,9,11,0,1] (f150_k19 K) (by kernel_rfl)) (by kernel_rfl))
theorem f150_s14_eq (d:Int) (e:Bool) (f:OA) (g h:Nat) (i j c:Int) (w:World) (K:KT):f150_s14 d e f g h i j c w K=(f150_s15 (IntKind.wrap .i64 ((c:Int)+1)) (IntKind.wrap .i64 ((c:Int)+1)) c d e f g h i j c w K):=Eq.trans SGe (Eq.trans (CSs [10,8,9,0,1,11] (f150_k18 K) (by kernel_rfl)) (by kernel_rfl))
theorem f150_s13_eq (g:Int) (h:Bool) (e:OA) (f i:Nat) (j c d:Int) (w:World) (K:KT):f150_s13 g h e f i j c d w K=(optS e (fun m=>0≤(c:Int)∧(c:Int) < (f:Nat)∧optS e (fun n=>0≤(d:Int)∧(d:Int) < (f:Nat)∧∃ k:Int,w.drew.cell? (m.add (Int.toNat c * 1))=some (.int .u32 k)∧∃ l:Int,w.drew.cell? (n.add (Int.toNat d * 1))=some (.int .u32 l)∧optS e (fun o=>0≤(d:Int)∧(d:Int) < (f:Nat)∧St1 (o.add (Int.toNat d * 1)) (Value.int .u32 k) w.drew (fun p=>optS e (fun q=>0≤(c:Int)∧(c:Int) < (f:Nat)∧St1 (q.add (Int.toNat c * 1)) (Value.int .u32 l) p (fun r=>f150_s14 g h e f i j c d r K))))))):=Eq.trans SGe (Eq.trans (CSs [8,9,0,1,11,10] (f150_k17 K) (by kernel_rfl)) (by kernel_rfl))
theorem f150_s11_eq (c:Int) (e:OA) (f h:Nat) (d i:Int) (j:Bool) (g:Int) (w:World) (K:KT):f150_s11 c e f h d i j g w K=(BIf (decide ((g:Int) > c)) (optS e (fun m=>0≤(d:Int)∧(d:Int) < (f:Nat)∧optS e (fun n=>0≤(c:Int)∧(c:Int) < (f:Nat)∧∃ k:Int,w.drew.cell? (m.add (Int.toNat d * 1))=some (.int .u32 k)∧∃ l:Int,w.drew.cell? (n.add (Int.toNat c * 1))=some (.int .u32 l)∧optS e (fun o=>0≤(c:Int)∧(c:Int) < (f:Nat)∧St1 (o.add (Int.toNat c * 1)) (Value.int .u32 k) w.drew (fun p=>optS e (fun q=>0≤(d:Int)∧(d:Int) < (f:Nat)∧St1 (q.add (Int.toNat d * 1)) (Value.int .u32 l) p (fun r=>f150_s12 c r K))))))) (f150_s13 i j e f h d c g w K)):=Eq.trans SGe (Eq.trans (CSs [8,9,0,1,11,10] (f150_k13 K) (by kernel_rfl)) (Eq.trans (CSs [65,11,0,1,8,9,10] (f150_k14 K) (by kernel_rfl)) (by kernel_rfl)))
theorem f150_s9_eq (j:Bool) (a:Int) (c:Bool) (d:OA) (e f:Nat) (g h i:Int) (w:World) (K:KT) (Y8:YT):f150_s9 j a c d e f g h i w K Y8=(BIf j (f150_s10 a c d e f g h i w K Y8) (f150_s11 i d e f g a c h w K)):=Eq.trans SGe (by kernel_rfl)
theorem f150_lb8_eq (c h:Int) (i:Bool) (e:OA) (f j:Nat) (d g:Int) (w:World) (K:KT) (Y8:YT):f150_lb8 c h i e f j d g w K Y8=(BIf (decide ((g:Int)≤c)) (optS e (fun n=>0≤(c:Int)∧(c:Int) < (f:Nat)∧optS e (fun o=>0≤(d:Int)∧(d:Int) < (f:Nat)∧∃ k:Int,w.drew.cell? (n.add (Int.toNat c * 1))=some (.int .u32 k)∧∃ l:Int,w.drew.cell? (o.add (Int.toNat d * 1))=some (.int .u32 l)∧CallL P 148 [(Value.int .u32 k),(Value.int .u32 l)] w.drew (fun p q=>∃ m:Bool,p=(.bool m)∧f150_s9 (!m) h i e f j d g c q K Y8)))) (f150_s9 false h i e f j d g c w.drew K Y8)):=Eq.trans SGe (Eq.trans (CSs [8,9,0,1,10,11] (f150_k10 K Y8) (by kernel_rfl)) (Eq.trans (CSs [60,8,9,0,1,10,11] (f150_k11 K Y8) (by kernel_rfl)) (by kernel_rfl)))
theorem f150_s7_eq (c d:Int) (e:Bool) (f:OA) (g h:Nat) (i j:Int) (w:World) (K:KT):f150_s7 c d e f g h i j w K=(LoopE (f150_lp8 K) (Env.mk 168 [(11,(Value.int .i64 c)),(8,(Value.int .i64 d)),(9,(Value.bool e)),(0,(Value.slice f g h)),(1,(Value.int .i64 i)),(10,(Value.int .i64 j))] []) w):=Eq.trans SGe (Eq.trans (CSs [11,0,1,8,9,10] (f150_k8 K) (by kernel_rfl)) (Eq.trans (CSb 2 [8,9,11,0,1,10] (f150_k9 K) (by kernel_rfl)) ((CS_loop' (b:=(cA c150 248)) (X':=[8,9,11,0,1,10]) (H:=[11,8,9,0,1,10]) (by kernel_rfl) (by kernel_rfl) (by kernel_rfl)).trans (by kernel_rfl))))
theorem f150_s5_eq (j:Bool) (a:Int) (c:Bool) (d:Int) (e:OA) (f g:Nat) (h i:Int) (w:World) (K:KT) (Y4:YT):f150_s5 j a c d e f g h i w K Y4=(BIf j (f150_s6 a c d e f g h i w K Y4) (f150_s7 d a c e f g h i w K)):=Eq.trans SGe (by kernel_rfl)
theorem f150_lb4_eq (c h:Int) (i:Bool) (g:Int) (e:OA) (f j:Nat) (d:Int) (w:World) (K:KT) (Y4:YT):f150_lb4 c h i g e f j d w K Y4=(BIf (decide ((c:Int)≤g)) (optS e (fun n=>0≤(c:Int)∧(c:Int) < (f:Nat)∧optS e (fun o=>0≤(d:Int)∧(d:Int) < (f:Nat)∧∃ k:Int,w.drew.cell? (n.add (Int.toNat c * 1))=some (.int .u32 k)∧∃ l:Int,w.drew.cell? (o.add (Int.toNat d * 1))=some (.int .u32 l)∧CallL P 148 [(Value.int .u32 k),(Value.int .u32 l)] w.drew (fun p q=>∃ m:Bool,p=(.bool m)∧f150_s5 m h i g e f j d c q K Y4)))) (f150_s5 false h i g e f j d c w.drew K Y4)):=Eq.trans SGe (Eq.trans (CSs [8,9,11,0,1,10] (f150_k5 K Y4) (by kernel_rfl)) (Eq.trans (CSs [43,8,9,11,0,1,10] (f150_k6 K Y4) (by kernel_rfl)) (by kernel_rfl)))
theorem f150_s3_eq (c d k l m n e:Int) (f:Bool) (g:OA) (h i:Nat) (j o:Int) (w:World) (K:KT):f150_s3 c d k l m n e f g h i j o w K=(LoopE (f150_lp4 K) (Env.mk 168 [(10,(Value.int .i64 d)),(8,(Value.int .i64 e)),(9,(Value.bool f)),(11,(Value.int .i64 c)),(0,(Value.slice g h i)),(1,(Value.int .i64 j))] []) w):=Eq.trans (b:=CS P (cA c150 15) none [8,9] [8,9] (f150_kb K) (Env.mk 168 [(11,(VI c)),(10,(VI d)),(29,(VI k)),(28,(VI l)),(27,(VI m)),(26,(VI n)),(8,(VI e)),(9,(VB f)),(0,(VS g h i)),(1,(VI j)),(2,(VI o))] []) w) (by kernel_rfl) (Eq.trans (CSs [11,8,9,0,1,10] (f150_k3 K) (by kernel_rfl)) (Eq.trans (CSb 0 [8,9,11,0,1,10] (f150_k4 K) (by kernel_rfl)) ((CS_loop' (b:=(cA c150 120)) (X':=[8,9,11,0,1,10]) (H:=[10,8,9,11,0,1]) (by kernel_rfl) (by kernel_rfl) (by kernel_rfl)).trans (by kernel_rfl))))
theorem f150_s2_eq (e:Int) (f:Bool) (g:OA) (h i:Nat) (c d:Int) (w:World) (K:KT):f150_s2 e f g h i c d w K=(f150_s3 (IntKind.wrap .i64 ((d:Int) - 1)) (IntKind.wrap .i64 ((c:Int)+1)) (IntKind.wrap .i64 ((d:Int) - 1)) d (IntKind.wrap .i64 ((c:Int)+1)) c e f g h i c d w K):=Eq.trans SGe (Eq.trans (CSs [10,8,9,11,0,1] (f150_k2 K) (by kernel_rfl)) (by kernel_rfl))
theorem f150_s1_eq (g:Int) (e:OA) (f h:Nat) (c i d:Int) (w:World) (K:KT):f150_s1 g e f h c i d w K=(optS e (fun l=>0≤(d:Int)∧(d:Int) < (f:Nat)∧optS e (fun m=>0≤(c:Int)∧(c:Int) < (f:Nat)∧∃ j:Int,w.drew.cell? (l.add (Int.toNat d * 1))=some (.int .u32 j)∧∃ k:Int,w.drew.cell? (m.add (Int.toNat c * 1))=some (.int .u32 k)∧optS e (fun n=>0≤(c:Int)∧(c:Int) < (f:Nat)∧St1 (n.add (Int.toNat c * 1)) (Value.int .u32 j) w.drew (fun o=>optS e (fun p=>0≤(d:Int)∧(d:Int) < (f:Nat)∧St1 (p.add (Int.toNat d * 1)) (Value.int .u32 k) o (fun q=>f150_s2 g false e f h c i q K))))))):=Eq.trans (b:=CS P (cA c150 3) none [8,9] [8,9] (f150_kb K) (Env.mk 168 [(9,(VB false)),(8,(VI g)),(0,(VS e f h)),(1,(VI c)),(2,(VI i)),(3,(VI d))] []) w) (by kernel_rfl) (Eq.trans (CSs [8,9,0,1,2] (f150_k1 K) (by kernel_rfl)) (by kernel_rfl))
theorem f150_s0_eq (c:OA) (d e:Nat) (f g h:Int) (w:World) (K:KT):f150_s0 c d e f g h w K=(f150_s1 0 c d e f g h w K):=Eq.trans (b:=CS P (cA c150 1) none [8,9] [8,9] (f150_kb K) (Env.mk 168 [(0,(VS c d e)),(1,(VI f)),(2,(VI g)),(3,(VI h))] []) w) (by kernel_rfl) (Eq.trans (CSs [8,9,0,1,2,3] (f150_k0 K) (by kernel_rfl)) (by kernel_rfl))
theorem f150_eq (a:OA) (b c:Nat) (d e f:Int) (w:World) (K:KT):f150 a b c d e f w K=(f150_s0 a b c d e f w K):=by kernel_rfl
theorem f150_ok (a:OA) (b c:Nat) (d e f:Int) (w:World) (K:KT) (h:f150 a b c d e f w K):CallL P 150 [(Value.slice a b c),(Value.int .i64 d),(Value.int .i64 e),(Value.int .i64 f)] w K:=okCS c150 Tryz.func150 (by kernel_rfl) (by kernel_rfl) h
noncomputable def c149:Code:=bodyOf Tryz.f149
noncomputable def rs149:List ResultVar:=Tryz.f149.results.toList
abbrev f149_kb (K:KT):Exit→YT:=bodyK P rs149 K
def f149 (a:OA) (b c:Nat) (d e f:Int) (w:World) (K:KT):Prop:=CS P c149 none [8] [8] (f149_kb K) (env0 84 [(VS a b c),(VI d),(VI e),(VI f)]) w
def f149_s0 (a:OA) (b c:Nat) (d e f:Int) (w:World) (K:KT):Prop:=CS P (cA c149 1) none [8] [8] (f149_kb K) (Env.mk 84 [(0,(VS a b c)),(1,(VI d)),(2,(VI e)),(3,(VI f))] []) w
abbrev f149_k0 (K:KT):Exit→YT:=kseq P (cA c149 2) (cA c149 3) none [8] [8] (f149_kb K)
def f149_s1 (a:Int) (b:OA) (c d:Nat) (e f g:Int) (w:World) (K:KT):Prop:=CS P (cA c149 3) none [8] [8] (f149_kb K) (Env.mk 84 [(8,(VI a)),(0,(VS b c d)),(1,(VI e)),(2,(VI f)),(3,(VI g))] []) w
abbrev f149_k1 (K:KT):Exit→YT:=kseq P (cA c149 6) (cA c149 7) none [8] [8] (f149_kb K)
def f149_s2 (a:Int) (b:OA) (c d:Nat) (f g:Int) (w:World) (K:KT):Prop:=SG P (cA c149 7) none [8] [8] (f149_kb K) (Env.mk 84 [(8,(VI a)),(0,(VS b c d)),(1,(VI f)),(2,(VI g))] []) w
abbrev f149_k2 (K:KT):Exit→YT:=kseq P (cA c149 14) (cA c149 15) none [8] [8] (f149_kb K)
def f149_s3 (a b c d e f g:Int) (h:OA) (i j:Nat) (k l:Int) (w:World) (K:KT):Prop:=CS P (cA c149 15) none [8] [8] (f149_kb K) (Env.mk 84 [(10,(VI a)),(9,(VI b)),(28,(VI c)),(27,(VI d)),(26,(VI e)),(25,(VI f)),(8,(VI g)),(0,(VS h i j)),(1,(VI k)),(2,(VI l))] []) w
abbrev f149_k3 (K:KT):Exit→YT:=kseq P (cA c149 30) (cA c149 31) none [8] [8] (f149_kb K)
abbrev f149_k4 (K:KT):Exit→YT:=kblock 0 (f149_k3 K)
def f149_lp4 (K:KT) (Y4:YT) (e:Env) (w:World):Prop:=Join (fun e w=>CS P (cA c149 120) none [9,8,10,0,1] [8,9] (kloop [9,8,10,0,1] Y4 (f149_k4 K)) e w) e w
abbrev f149_kl4 (K:KT) (Y4:YT):Exit→YT:=kloop [9,8,10,0,1] Y4 (f149_k4 K)
def f149_lb4 (a b c:Int) (d:OA) (f g:Nat) (h:Int) (w:World) (K:KT) (Y4:YT):Prop:=SG P (cA c149 120) none [9,8,10,0,1] [8,9] (f149_kl4 K Y4) (Env.mk 84 [(9,(VI a)),(8,(VI b)),(10,(VI c)),(0,(VS d f g)),(1,(VI h))] []) w
abbrev f149_k5 (K:KT) (Y4:YT):Exit→YT:=kblock 1 (f149_kl4 K Y4)
abbrev f149_k6 (K:KT) (Y4:YT):Exit→YT:=kseq P (cA c149 480) (cA c149 481) none [9,8,10,0,1] [8,9,10,0,1] (f149_k5 K Y4)
abbrev f149_k7 (K:KT) (Y4:YT):Exit→YT:=kblock 2 (f149_k6 K Y4)
def f149_lp5 (K:KT) (Y4 Y5:YT) (e:Env) (w:World):Prop:=Join (fun e w=>CS P (cA c149 1920) none [9,8,10,0,1] [8,9,10,0,1] (kloop [9,8,10,0,1] Y5 (f149_k7 K Y4)) e w) e w
abbrev f149_kl5 (K:KT) (Y4 Y5:YT):Exit→YT:=kloop [9,8,10,0,1] Y5 (f149_k7 K Y4)
def f149_lb5 (a b c:Int) (d:OA) (f g:Nat) (h:Int) (w:World) (K:KT) (Y4 Y5:YT):Prop:=SG P (cA c149 1920) none [9,8,10,0,1] [8,9,10,0,1] (f149_kl5 K Y4 Y5) (Env.mk 84 [(9,(VI a)),(8,(VI b)),(10,(VI c)),(0,(VS d f g)),(1,(VI h))] []) w
abbrev f149_k8 (K:KT) (Y4 Y5:YT):Exit→YT:=kseq P (cA c149 3840) (cA c149 3841) none [9,8,10,0,1] [8,9,10,0,1] (f149_kl5 K Y4 Y5)
abbrev f149_k9 (K:KT) (Y4 Y5:YT):Exit→YT:=kseq P (cA c149 7680) (cA c149 7681) none [8,10,0,1,9] [8,9,10,0,1] (f149_k8 K Y4 Y5)
def f149_s6 (a:Bool) (b c:Int) (d:OA) (f g:Nat) (h i:Int) (w:World) (K:KT) (Y4 Y5:YT):Prop:=SG P (cA c149 7681) none [8,10,0,1,9] [8,9,10,0,1] (f149_k8 K Y4 Y5) (Env.mk 84 [(43,(VB a)),(8,(VI b)),(10,(VI c)),(0,(VS d f g)),(1,(VI h)),(9,(VI i))] []) w
def f149_s7 (a b:Int) (c:OA) (d f:Nat) (g h:Int) (w:World) (K:KT) (Y4 Y5:YT):Prop:=SG P (cA c149 3841) none [9,8,10,0,1] [8,9,10,0,1] (f149_kl5 K Y4 Y5) (Env.mk 84 [(8,(VI a)),(10,(VI b)),(0,(VS c d f)),(1,(VI g)),(9,(VI h))] []) w
abbrev f149_k10 (K:KT) (Y4 Y5:YT):Exit→YT:=kblock 3 (f149_kl5 K Y4 Y5)
theorem f149_s7_eq (a c:Int) (d:OA) (e f:Nat) (g h:Int) (w:World) (K:KT) (Y4 Y5:YT):f149_s7 a c d e f g h w K Y4 Y5=(Y5 (Env.mk 84 [(9,(Value.int .i64 (IntKind.wrap .i64 ((h:Int)+1)))),(8,(Value.int .i64 a)),(10,(Value.int .i64 c)),(0,(Value.slice d e f)),(1,(Value.int .i64 g))] []) w):=Eq.trans SGe (Eq.trans (CSb 3 [8,9,10,0,1] (f149_k10 K Y4 Y5) (by kernel_rfl)) (by kernel_rfl))
def f149_s8 (a b c:Int) (d:OA) (f g:Nat) (h:Int) (w:World) (K:KT) (Y4:YT):Prop:=SG P (cA c149 481) none [9,8,10,0,1] [8,9,10,0,1] (f149_k5 K Y4) (Env.mk 84 [(10,(VI a)),(8,(VI b)),(9,(VI c)),(0,(VS d f g)),(1,(VI h))] []) w
abbrev f149_k11 (K:KT) (Y4:YT):Exit→YT:=kseq P (cA c149 962) (cA c149 963) none [9,8,10,0,1] [8,9,10,0,1] (f149_k5 K Y4)
abbrev f149_k12 (K:KT) (Y4:YT):Exit→YT:=kblock 4 (f149_k11 K Y4)
def f149_lp9 (K:KT) (Y4 Y9:YT) (e:Env) (w:World):Prop:=Join (fun e w=>CS P (cA c149 3848) none [10,8,9,0,1] [8,9,10,0,1] (kloop [10,8,9,0,1] Y9 (f149_k12 K Y4)) e w) e w
abbrev f149_kl9 (K:KT) (Y4 Y9:YT):Exit→YT:=kloop [10,8,9,0,1] Y9 (f149_k12 K Y4)
def f149_lb9 (a b c:Int) (d:OA) (f g:Nat) (h:Int) (w:World) (K:KT) (Y4 Y9:YT):Prop:=SG P (cA c149 3848) none [10,8,9,0,1] [8,9,10,0,1] (f149_kl9 K Y4 Y9) (Env.mk 84 [(10,(VI a)),(8,(VI b)),(9,(VI c)),(0,(VS d f g)),(1,(VI h))] []) w
abbrev f149_k13 (K:KT) (Y4 Y9:YT):Exit→YT:=kseq P (cA c149 7696) (cA c149 7697) none [10,8,9,0,1] [8,9,10,0,1] (f149_kl9 K Y4 Y9)
abbrev f149_k14 (K:KT) (Y4 Y9:YT):Exit→YT:=kseq P (cA c149 15392) (cA c149 15393) none [8,9,0,1,10] [8,9,10,0,1] (f149_k13 K Y4 Y9)
def f149_s10 (a:Bool) (b c:Int) (d:OA) (f g:Nat) (h i:Int) (w:World) (K:KT) (Y4 Y9:YT):Prop:=SG P (cA c149 15393) none [8,9,0,1,10] [8,9,10,0,1] (f149_k13 K Y4 Y9) (Env.mk 84 [(59,(VB a)),(8,(VI b)),(9,(VI c)),(0,(VS d f g)),(1,(VI h)),(10,(VI i))] []) w
def f149_s11 (a b:Int) (c:OA) (d f:Nat) (g h:Int) (w:World) (K:KT) (Y4 Y9:YT):Prop:=SG P (cA c149 7697) none [10,8,9,0,1] [8,9,10,0,1] (f149_kl9 K Y4 Y9) (Env.mk 84 [(8,(VI a)),(9,(VI b)),(0,(VS c d f)),(1,(VI g)),(10,(VI h))] []) w
abbrev f149_k15 (K:KT) (Y4 Y9:YT):Exit→YT:=kblock 5 (f149_kl9 K Y4 Y9)
theorem f149_s11_eq (a c:Int) (d:OA) (e f:Nat) (g h:Int) (w:World) (K:KT) (Y4 Y9:YT):f149_s11 a c d e f g h w K Y4 Y9=(Y9 (Env.mk 84 [(10,(Value.int .i64 (IntKind.wrap .i64 ((h:Int) - 1)))),(8,(Value.int .i64 a)),(9,(Value.int .i64 c)),(0,(Value.slice d e f)),(1,(Value.int .i64 g))] []) w):=Eq.trans SGe (Eq.trans (CSb 5 [8,9,10,0,1] (f149_k15 K Y4 Y9) (by kernel_rfl)) (by kernel_rfl))
def f149_s12 (a b c:Int) (d:OA) (f g:Nat) (h:Int) (w:World) (K:KT) (Y4:YT):Prop:=SG P (cA c149 963) none [9,8,10,0,1] [8,9,10,0,1] (f149_k5 K Y4) (Env.mk 84 [(8,(VI a)),(9,(VI b)),(10,(VI c)),(0,(VS d f g)),(1,(VI h))] []) w
abbrev f149_k16 (K:KT) (Y4:YT):Exit→YT:=kseq P (cA c149 1926) (cA c149 1927) none [9,8,10,0,1] [8,9,10,0,1] (f149_k5 K Y4)
abbrev f149_k17 (K:KT) (Y4:YT):Exit→YT:=kseq P (cA c149 3852) (cA c149 3853) none [8,0,1,10,9] [8,9,10,0,1] (f149_k16 K Y4)
def f149_s13 (a:Int) (w:World) (K:KT):Prop:=SG P (cA c149 31) none [8] [8] (f149_kb K) (Env.mk 84 [(9,(VI a))] []) w
abbrev f149_k18 (K:KT):Exit→YT:=kseq P (cA c149 62) (cA c149 63) none [8] [8] (f149_kb K)
theorem f149_s13_eq (c:Int) (w:World) (K:KT):f149_s13 c w K=(K (Value.int .i64 c) w):=Eq.trans SGe (Eq.trans (CSs [8] (f149_k18 K) (by kernel_rfl)) (by kernel_rfl))
def f149_s14 (a:Int) (b:OA) (c d:Nat) (f g h:Int) (w:World) (K:KT) (Y4:YT):Prop:=SG P (cA c149 1927) none [9,8,10,0,1] [8,9,10,0,1] (f149_k5 K Y4) (Env.mk 84 [(8,(VI a)),(0,(VS b c d)),(1,(VI f)),(10,(VI g)),(9,(VI h))] []) w
abbrev f149_k19 (K:KT) (Y4:YT):Exit→YT:=kseq P (cA c149 3854) (cA c149 3855) none [9,8,10,0,1] [8,9,10,0,1] (f149_k5 K Y4)
def f149_s15 (a:Int) (b:OA) (c d:Nat) (f g h:Int) (w:World) (K:KT) (Y4:YT):Prop:=SG P (cA c149 3855) none [9,8,10,0,1] [8,9,10,0,1] (f149_k5 K Y4) (Env.mk 84 [(8,(VI a)),(0,(VS b c d)),(1,(VI f)),(10,(VI g)),(9,(VI h))] []) w
abbrev f149_k20 (K:KT) (Y4:YT):Exit→YT:=kseq P (cA c149 7710) (cA c149 7711) none [9,8,10,0,1] [8,9,10,0,1] (f149_k5 K Y4)
theorem f149_s15_eq (c:Int) (d:OA) (e f:Nat) (g h i:Int) (w:World) (K:KT) (Y4:YT):f149_s15 c d e f g h i w K Y4=(Y4 (Env.mk 84 [(9,(Value.int .i64 (IntKind.wrap .i64 ((i:Int)+1)))),(8,(Value.int .i64 c)),(10,(Value.int .i64 (IntKind.wrap .i64 ((h:Int) - 1)))),(0,(Value.slice d e f)),(1,(Value.int .i64 g))] []) w):=Eq.trans SGe (Eq.trans (CSs [9,8,0,1,10] (f149_k20 K Y4) (by kernel_rfl)) (by kernel_rfl))
theorem f149_s14_eq (g:Int) (e:OA) (f h:Nat) (i c d:Int) (w:World) (K:KT) (Y4:YT):f149_s14 g e f h i c d w K Y4=(optS e (fun l=>0≤(c:Int)∧(c:Int) < (f:Nat)∧optS e (fun m=>0≤(d:Int)∧(d:Int) < (f:Nat)∧∃ j:Int,w.drew.cell? (l.add (Int.toNat c * 1))=some (.int .u32 j)∧∃ k:Int,w.drew.cell? (m.add (Int.toNat d * 1))=some (.int .u32 k)∧optS e (fun n=>0≤(d:Int)∧(d:Int) < (f:Nat)∧St1 (n.add (Int.toNat d * 1)) (Value.int .u32 j) w.drew (fun o=>optS e (fun p=>0≤(c:Int)∧(c:Int) < (f:Nat)∧St1 (p.add (Int.toNat c * 1)) (Value.int .u32 k) o (fun q=>f149_s15 g e f h i c d q K Y4))))))):=Eq.trans SGe (Eq.trans (CSs [8,0,1,10,9] (f149_k19 K Y4) (by kernel_rfl)) (by kernel_rfl))
theorem f149_s12_eq (e c d:Int) (f:OA) (g h:Nat) (i:Int) (w:World) (K:KT) (Y4:YT):f149_s12 e c d f g h i w K Y4=(BIf (decide ((c:Int) > d)) (f149_s13 c w K) (f149_s14 e f g h i d c w K Y4)):=Eq.trans SGe (Eq.trans (CSs [8,0,1,10,9] (f149_k16 K Y4) (by kernel_rfl)) (Eq.trans (CSs [64,8,9,10,0,1] (f149_k17 K Y4) (by kernel_rfl)) (by kernel_rfl)))
theorem f149_s10_eq (i:Bool) (a c:Int) (d:OA) (e f:Nat) (g h:Int) (w:World) (K:KT) (Y4 Y9:YT):f149_s10 i a c d e f g h w K Y4 Y9=(BIf i (f149_s11 a c d e f g h w K Y4 Y9) (f149_s12 a c h d e f g w K Y4)):=Eq.trans SGe (by kernel_rfl)
theorem f149_lb9_eq (c h g:Int) (e:OA) (f i:Nat) (d:Int) (w:World) (K:KT) (Y4 Y9:YT):f149_lb9 c h g e f i d w K Y4 Y9=(BIf (decide ((g:Int)≤c)) (optS e (fun m=>0≤(d:Int)∧(d:Int) < (f:Nat)∧optS e (fun n=>0≤(c:Int)∧(c:Int) < (f:Nat)∧∃ j:Int,w.drew.cell? (m.add (Int.toNat d * 1))=some (.int .u32 j)∧∃ k:Int,w.drew.cell? (n.add (Int.toNat c * 1))=some (.int .u32 k)∧CallL P 148 [(Value.int .u32 j),(Value.int .u32 k)] w.drew (fun o p=>∃ l:Bool,o=(.bool l)∧f149_s10 l h g e f i d c p K Y4 Y9)))) (f149_s10 false h g e f i d c w.drew K Y4 Y9)):=Eq.trans SGe (Eq.trans (CSs [8,9,0,1,10] (f149_k13 K Y4 Y9) (by kernel_rfl)) (Eq.trans (CSs [59,8,9,0,1,10] (f149_k14 K Y4 Y9) (by kernel_rfl)) (by kernel_rfl)))
theorem f149_s8_eq (c d e:Int) (f:OA) (g h:Nat) (i:Int) (w:World) (K:KT) (Y4:YT):f149_s8 c d e f g h i w K Y4=(LoopE (f149_lp9 K Y4) (Env.mk 84 [(10,(Value.int .i64 c)),(8,(Value.int .i64 d)),(9,(Value.int .i64 e)),(0,(Value.slice f g h)),(1,(Value.int .i64 i))] []) w):=Eq.trans SGe (Eq.trans (CSs [8,9,10,0,1] (f149_k11 K Y4) (by kernel_rfl)) (Eq.trans (CSb 4 [8,9,10,0,1] (f149_k12 K Y4) (by kernel_rfl)) ((CS_loop' (b:=(cA c149 3848)) (X':=[8,9,10,0,1]) (H:=[10,8,9,0,1]) (by kernel_rfl) (by kernel_rfl) (by kernel_rfl)).trans (by kernel_rfl))))
theorem f149_s6_eq (i:Bool) (a c:Int) (d:OA) (e f:Nat) (g h:Int) (w:World) (K:KT) (Y4 Y5:YT):f149_s6 i a c d e f g h w K Y4 Y5=(BIf i (f149_s7 a c d e f g h w K Y4 Y5) (f149_s8 c a h d e f g w K Y4)):=Eq.trans SGe (by kernel_rfl)
theorem f149_lb5_eq (c h g:Int) (e:OA) (f i:Nat) (d:Int) (w:World) (K:KT) (Y4 Y5:YT):f149_lb5 c h g e f i d w K Y4 Y5=(BIf (decide ((c:Int)≤g)) (optS e (fun m=>0≤(d:Int)∧(d:Int) < (f:Nat)∧optS e (fun n=>0≤(c:Int)∧(c:Int) < (f:Nat)∧∃ j:Int,w.drew.cell? (m.add (Int.toNat d * 1))=some (.int .u32 j)∧∃ k:Int,w.drew.cell? (n.add (Int.toNat c * 1))=some (.int .u32 k)∧CallL P 148 [(Value.int .u32 j),(Value.int .u32 k)] w.drew (fun o p=>∃ l:Bool,o=(.bool l)∧f149_s6 (!l) h g e f i d c p K Y4 Y5)))) (f149_s6 false h g e f i d c w.drew K Y4 Y5)):=Eq.trans SGe (Eq.trans (CSs [8,10,0,1,9] (f149_k8 K Y4 Y5) (by kernel_rfl)) (Eq.trans (CSs [43,8,10,0,1,9] (f149_k9 K Y4 Y5) (by kernel_rfl)) (by kernel_rfl)))
theorem f149_lb4_eq (c d e:Int) (f:OA) (g h:Nat) (i:Int) (w:World) (K:KT) (Y4:YT):f149_lb4 c d e f g h i w K Y4=(LoopE (f149_lp5 K Y4) (Env.mk 84 [(9,(Value.int .i64 c)),(8,(Value.int .i64 d)),(10,(Value.int .i64 e)),(0,(Value.slice f g h)),(1,(Value.int .i64 i))] []) w):=Eq.trans SGe (Eq.trans (CSb 1 [8,9,10,0,1] (f149_k5 K Y4) (by kernel_rfl)) (Eq.trans (CSs [10,8,9,0,1] (f149_k6 K Y4) (by kernel_rfl)) (Eq.trans (CSb 2 [8,9,10,0,1] (f149_k7 K Y4) (by kernel_rfl)) ((CS_loop' (b:=(cA c149 1920)) (X':=[8,9,10,0,1]) (H:=[9,8,10,0,1]) (by kernel_rfl) (by kernel_rfl) (by kernel_rfl)).trans (by kernel_rfl)))))
theorem f149_s3_eq (c d j k l m e:Int) (f:OA) (g h:Nat) (i n:Int) (w:World) (K:KT):f149_s3 c d j k l m e f g h i n w K=(LoopE (f149_lp4 K) (Env.mk 84 [(9,(Value.int .i64 d)),(8,(Value.int .i64 e)),(10,(Value.int .i64 c)),(0,(Value.slice f g h)),(1,(Value.int .i64 i))] []) w):=Eq.trans (b:=CS P (cA c149 15) none [8] [8] (f149_kb K) (Env.mk 84 [(10,(VI c)),(9,(VI d)),(28,(VI j)),(27,(VI k)),(26,(VI l)),(25,(VI m)),(8,(VI e)),(0,(VS f g h)),(1,(VI i)),(2,(VI n))] []) w) (by kernel_rfl) (Eq.trans (CSs [9] (f149_k3 K) (by kernel_rfl)) (Eq.trans (CSb 0 [8,9] (f149_k4 K) (by kernel_rfl)) ((CS_loop' (b:=(cA c149 120)) (X':=[8,9]) (H:=[9,8,10,0,1]) (by kernel_rfl) (by kernel_rfl) (by kernel_rfl)).trans (by kernel_rfl))))
theorem f149_s2_eq (e:Int) (f:OA) (g h:Nat) (c d:Int) (w:World) (K:KT):f149_s2 e f g h c d w K=(f149_s3 (IntKind.wrap .i64 ((d:Int) - 1)) (IntKind.wrap .i64 ((c:Int)+1)) (IntKind.wrap .i64 ((d:Int) - 1)) d (IntKind.wrap .i64 ((c:Int)+1)) c e f g h c d w K):=Eq.trans SGe (Eq.trans (CSs [9,8,10,0,1] (f149_k2 K) (by kernel_rfl)) (by kernel_rfl))
theorem f149_s1_eq (g:Int) (e:OA) (f h:Nat) (c i d:Int) (w:World) (K:KT):f149_s1 g e f h c i d w K=(optS e (fun l=>0≤(d:Int)∧(d:Int) < (f:Nat)∧optS e (fun m=>0≤(c:Int)∧(c:Int) < (f:Nat)∧∃ j:Int,w.drew.cell? (l.add (Int.toNat d * 1))=some (.int .u32 j)∧∃ k:Int,w.drew.cell? (m.add (Int.toNat c * 1))=some (.int .u32 k)∧optS e (fun n=>0≤(c:Int)∧(c:Int) < (f:Nat)∧St1 (n.add (Int.toNat c * 1)) (Value.int .u32 j) w.drew (fun o=>optS e (fun p=>0≤(d:Int)∧(d:Int) < (f:Nat)∧St1 (p.add (Int.toNat d * 1)) (Value.int .u32 k) o (fun q=>f149_s2 g e f h c i q K))))))):=Eq.trans (b:=CS P (cA c149 3) none [8] [8] (f149_kb K) (Env.mk 84 [(8,(VI g)),(0,(VS e f h)),(1,(VI c)),(2,(VI i)),(3,(VI d))] []) w) (by kernel_rfl) (Eq.trans (CSs [8,0,1,2] (f149_k1 K) (by kernel_rfl)) (by kernel_rfl))
theorem f149_s0_eq (c:OA) (d e:Nat) (f g h:Int) (w:World) (K:KT):f149_s0 c d e f g h w K=(f149_s1 0 c d e f g h w K):=Eq.trans (b:=CS P (cA c149 1) none [8] [8] (f149_kb K) (Env.mk 84 [(0,(VS c d e)),(1,(VI f)),(2,(VI g)),(3,(VI h))] []) w) (by kernel_rfl) (Eq.trans (CSs [8,0,1,2,3] (f149_k0 K) (by kernel_rfl)) (by kernel_rfl))
theorem f149_eq (a:OA) (b c:Nat) (d e f:Int) (w:World) (K:KT):f149 a b c d e f w K=(f149_s0 a b c d e f w K):=by kernel_rfl
theorem f149_ok (a:OA) (b c:Nat) (d e f:Int) (w:World) (K:KT) (h:f149 a b c d e f w K):CallL P 149 [(Value.slice a b c),(Value.int .i64 d),(Value.int .i64 e),(Value.int .i64 f)] w K:=okCS c149 Tryz.func149 (by kernel_rfl) (by kernel_rfl) h
end Go.Fx.Tryz
namespace Go.Fx.Tryz
open Go Go.Fx
set_option linter.all false
open Go.Proofs
open Go.Sort (swp swp_size ltInt scanUp scanDown scanUp_ge scanDown_le scanUp_spec partLoop partLoop_eq partition partEqLoop partEqLoop_eq partitionEqual)
variable {w0 w:World} {H X:HBL} {K:KT}
set_option maxRecDepth 20000
section
variable {p:Int→Bool} {d:Array Int} {i j:Nat}
theorem up_step (h1:i≤j) (h2:p d[i]! = true):scanUp p d j i=scanUp p d j (i+1):=by
 conv=>lhs; rw [scanUp]
 rw [if_pos (by simp [h1,h2])]
theorem up_stop (h:¬ (i≤j∧p d[i]! = true)):scanUp p d j i=i:=by
 rw [scanUp,if_neg (by simpa using h)]
theorem up_le (d:Array Int) (i j b:Nat) (hi:i≤b) (hj:j < b):scanUp p d j i≤b:=by
 by_cases h:i≤j+1
 ·have:=(scanUp_spec p d j _ i rfl).2.1 h; omega
 ·rw [up_stop (by omega)]; exact hi
theorem down_step (h0:1≤i) (h1:i≤j) (h2:p d[j]! = true):scanDown p d i j=scanDown p d i (j - 1):=by
 obtain ⟨q,rfl⟩:∃ q,j=q+1:=⟨j - 1,by omega⟩
 conv=>lhs; rw [scanDown]
 rw [if_pos (by simp [h1,h2])]
 rfl
theorem down_stop (h:¬ (i≤j∧p d[j]! = true)):scanDown p d i j=j:=by
 cases j with
 | zero=>rfl
 | succ q=>rw [scanDown,if_neg (by simpa using h)]
end
section
variable {g c:Nat} {T:TypeId} {z:List Value}
abbrev ptE (g c n a:Nat) (i j:Nat):Env:=Env.mk 168 [(10,(Value.int .i64 i)),(8,(Value.int .i64 0)),(9,(Value.bool false)),(11,(Value.int .i64 j)),(0,(Value.slice (some (Addr.mk g 0 none)) n c)),(1,(Value.int .i64 a))] []
abbrev ptF (g c n a:Nat) (i j:Nat):Env:=Env.mk 168 [(11,(Value.int .i64 j)),(8,(Value.int .i64 0)),(9,(Value.bool false)),(0,(Value.slice (some (Addr.mk g 0 none)) n c)),(1,(Value.int .i64 a)),(10,(Value.int .i64 i))] []
def UpInv (w0:World) (X:HBL) (E:Nat→Env) (p:Int→Bool) (d:Array Int) (a b j I:Nat) (m:Nat) (ee:Env) (w:World):Prop:=
 ∃ i:Nat,a < i∧i≤b∧m=j+1 - i∧scanUp p d j i=I∧ee=E i∧St w0 w X
def DnInv (w0:World) (X:HBL) (E:Nat→Env) (p:Int→Bool) (d:Array Int) (b I J:Nat) (m:Nat) (ee:Env) (w:World):Prop:=
 ∃ j:Nat,j < b∧m=j∧scanDown p d I j=J∧ee=E j∧St w0 w X
def PtInv (w0:World) (H:HBL) (g c:Nat) (T:TypeId) (z:List Value) (n a b:Nat) (R:Nat × Array Int) (m:Nat) (ee:Env) (w:World):Prop:=
 ∃ (i j:Nat) (d:Array Int),a < i∧i≤b∧j < b∧m=j+1 - i∧d.size=n∧partLoop ltInt a i j d=R∧ee=ptE g c n a i j∧St w0 w ((g,Cs (uCs d z) T)::H)
theorem part_loop {d:Array Int} {n a b i j:Nat} {R:Nat × Array Int} (h:St w0 w ((g,Cs (uCs d z) T)::H)) (ha:a < i) (hi:i≤b) (hj:j < b) (hd:d.size=n) (hb:b≤n) (hn:n < 1000000000000) (hR:partLoop ltInt a i j d=R)
  (hK:∀ w',St w0 w' ((g,Cs (uCs (swp R.2 R.1 a) z) T)::H)→K (.tuple [I64 (R.1:Nat),.bool false].toArray) w'):LoopE (f150_lp17 K) (ptE g c n a i j) w:=by
 refine ⟨PtInv w0 H g c T z n a b R,⟨j+1 - i,i,j,d,ha,hi,hj,rfl,hd,hR,rfl,h⟩,?_⟩
 clear h ha hi hj hd hR
 rintro m ee w7 ⟨i',j',d2,ha',hi',hj',rfl,hd2,hR,rfl,h7⟩
 show f150_lb17 ..
 rw [f150_lb17_eq]
 rw [partLoop_eq] at hR
 subst hd2
 refine ⟨UpInv w0 ((g,Cs (uCs d2 z) T)::H) (fun i=>ptE g c d2.size a i j') (fun x=>ltInt x d2[a]!) d2 a b j' (scanUp (fun x=>ltInt x d2[a]!) d2 j' i'),⟨j'+1 - i',i',ha',hi',rfl,rfl,rfl,h7⟩,?_⟩
 have gI:=up_le (p:=fun x=>ltInt x d2[a]!) d2 i' j' b hi' hj'
 have gI0:=scanUp_ge (fun x=>ltInt x d2[a]!) d2 j' i'
 generalize scanUp (fun x=>ltInt x d2[a]!) d2 j' i'=I2 at hR gI gI0
 rintro m ee w8 ⟨i3,ha3,hi3,rfl,hup3,rfl,h8⟩
 show f150_lb18 ..
 rw [f150_lb18_eq,BIf_iff]
 have after3:∀ w9,St w0 w9 ((g,Cs (uCs d2 z) T)::H)→f150_s21 (j':Int) 0 false (some (Addr.mk g 0 none)) d2.size c a I2 w9 K (fun e' w'=>∃ m,m < j'+1 - i'∧PtInv w0 H g c T z d2.size a b R m e' w'):=by
  intro w9 h9
  rw [f150_s21_eq]
  refine ⟨DnInv w0 ((g,Cs (uCs d2 z) T)::H) (fun j=>ptF g c d2.size a I2 j) (fun x=>!ltInt x d2[a]!) d2 b I2 (scanDown (fun x=>!ltInt x d2[a]!) d2 I2 j'),⟨j',j',hj',rfl,rfl,rfl,h9⟩,?_⟩
  have gJ:=scanDown_le (fun x=>!ltInt x d2[a]!) d2 I2 j'
  generalize scanDown (fun x=>!ltInt x d2[a]!) d2 I2 j'=J2 at hR gJ
  rintro j4 ee w10 ⟨_,hj4,rfl,hdn4,rfl,h10⟩
  show f150_lb22 ..
  rw [f150_lb22_eq,BIf_iff]
  have after4:∀ w11,j4=J2→St w0 w11 ((g,Cs (uCs d2 z) T)::H)→f150_s25 0 false (j4:Int) (some (Addr.mk g 0 none)) d2.size c a I2 w11 K (fun e' w'=>∃ m,m < j'+1 - i'∧PtInv w0 H g c T z d2.size a b R m e' w'):=by
   intro w11 hj h11
   subst hj
   rw [f150_s25_eq,BIf_iff]
   constructor
   ·intro hgt
    have hgt:I2 > j4:=by simpa using hgt
    rw [if_pos hgt] at hR
    subst hR
    rw [f150_s26_eq]
    refine swap_at (i:=j4) (j:=a) rfl rfl (by omega) (by omega) h11 fun w12 h12=>?_
    rw [f150_s27_eq]
    exact hK w12 h12
   ·intro hle
    have hle:¬ I2 > j4:=by simpa using hle
    rw [if_neg hle] at hR
    rw [f150_s28_eq]
    refine swap_at (i:=I2) (j:=j4) rfl rfl (by omega) (by omega) h11 fun w12 h12=>?_
    have ej:IntKind.wrap .i64 ((j4:Int) - 1)=((j4 - 1:Nat):Int):=by rw [wrap_i64 (by omega) (by omega)]; omega
    have ei:IntKind.wrap .i64 ((I2:Int)+1)=((I2+1:Nat):Int):=by rw [wrap_i64 (by omega) (by omega)]; omega
    rw [f150_s29_eq,ei,ej]
    exact ⟨j4 - 1+1 - (I2+1),by omega,I2+1,j4 - 1,_,by omega,by omega,by omega,rfl,swp_size _ _ _,hR,rfl,h12⟩
  constructor
  ·intro hle
   have hle:I2≤j4:=by simpa using hle
   refine less_at (i:=j4) (j:=a) rfl rfl (by omega) (by omega) h10 (.head _) fun w11 h11=>⟨_,rfl,?_⟩
   rw [f150_s23_eq,BIf_iff]
   refine ⟨fun hb'=>?_,fun hb'=>?_⟩
   ·rw [f150_s24_eq]
    refine ⟨j4 - 1,by omega,j4 - 1,by omega,rfl,?_,?_,h11⟩
    ·rw [← hdn4]; exact (down_step (by omega) hle hb').symm
    ·rw [wrap_i64 (by omega) (by omega),show (j4:Int) - 1=((j4 - 1:Nat):Int) by omega]
   ·refine after4 w11 ?_ h11
    rw [← hdn4]; exact (down_stop (fun hh=>by rw [hh.2] at hb'; cases hb')).symm
  ·intro hgt
   have hgt:¬ I2≤j4:=by simpa using hgt
   rw [f150_s23_eq,BIf_false]
   refine after4 _ ?_ h10.drew
   rw [← hdn4]; exact (down_stop (fun hh=>hgt hh.1)).symm
 constructor
 ·intro hle
  have hle:i3≤j':=by simpa using hle
  refine less_at (i:=i3) (j:=a) rfl rfl (by omega) (by omega) h8 (.head _) fun w9 h9=>⟨_,rfl,?_⟩
  rw [f150_s19_eq,BIf_iff]
  refine ⟨fun hb'=>?_,fun hb'=>?_⟩
  ·rw [f150_s20_eq]
   refine ⟨j'+1 - (i3+1),by omega,i3+1,by omega,by omega,rfl,?_,?_,h9⟩
   ·rw [← hup3]; exact (up_step hle hb').symm
   ·rw [wrap_i64 (by omega) (by omega)]; rfl
  ·have:i3=I2:=by rw [← hup3]; exact (up_stop (fun hh=>by rw [hh.2] at hb'; cases hb')).symm
   rw [this]
   exact after3 w9 h9
 ·intro hgt
  have hgt:¬ i3≤j':=by simpa using hgt
  rw [f150_s19_eq,BIf_false]
  have:i3=I2:=by rw [← hup3]; exact (up_stop (fun hh=>hgt hh.1)).symm
  rw [this]
  exact after3 _ h8.drew
theorem partition_ok {d:Array Int} {a b pv:Nat} (h:St w0 w ((g,Cs (uCs d z) T)::H)) (hap:a≤pv) (hpb:pv < b) (hb:b≤d.size) (hn:d.size < 1000000000000)
  (hK:∀ w',St w0 w' ((g,Cs (uCs (partition ltInt d a b pv).2.2 z) T)::H)→K (.tuple [I64 ((partition ltInt d a b pv).1:Nat),.bool (partition ltInt d a b pv).2.1].toArray) w') :
  CallL P 150 [.slice (some (Addr.mk g 0 none)) d.size c,.int .i64 a,.int .i64 b,.int .i64 pv] w K:=by
 refine f150_ok _ _ _ _ _ _ _ _ ?_
 rw [f150_eq,f150_s0_eq,f150_s1_eq]
 refine swap_at (i:=a) (j:=pv) rfl rfl (by omega) (by omega) h fun w1 h1=>?_
 have hs1:(swp d a pv).size=d.size:=swp_size _ _ _
 unfold partition at hK
 simp only at hK
 generalize swp d a pv=d1 at h1 hs1 hK
 have ej:IntKind.wrap .i64 ((b:Int) - 1)=((b - 1:Nat):Int):=by rw [wrap_i64 (by omega) (by omega)]; omega
 have ei:IntKind.wrap .i64 ((a:Int)+1)=((a+1:Nat):Int):=by rw [wrap_i64 (by omega) (by omega)]; omega
 rw [f150_s2_eq,ej,ei,f150_s3_eq,← hs1]
 rw [← hs1] at hb hn
 refine ⟨UpInv w0 ((g,Cs (uCs d1 z) T)::H) (fun i=>ptE g c d1.size a i (b - 1)) (fun x=>ltInt x d1[a]!) d1 a b (b - 1) (scanUp (fun x=>ltInt x d1[a]!) d1 (b - 1) (a+1)),⟨b - 1+1 - (a+1),a+1,by omega,by omega,rfl,rfl,rfl,h1⟩,?_⟩
 have hI:=up_le (p:=fun x=>ltInt x d1[a]!) d1 (a+1) (b - 1) b (by omega) (by omega)
 have hI0:=scanUp_ge (fun x=>ltInt x d1[a]!) d1 (b - 1) (a+1)
 generalize hII:scanUp (fun x=>ltInt x d1[a]!) d1 (b - 1) (a+1)=I at hK hI hI0
 rintro m ee w2 ⟨i,hai,hib,rfl,hup,rfl,h2⟩
 show f150_lb4 ..
 rw [f150_lb4_eq,BIf_iff]
 have after:∀ w3,St w0 w3 ((g,Cs (uCs d1 z) T)::H)→f150_s7 ((b - 1:Nat):Int) 0 false (some (Addr.mk g 0 none)) d1.size c a I w3 K:=by
  intro w3 h3
  rw [f150_s7_eq]
  refine ⟨DnInv w0 ((g,Cs (uCs d1 z) T)::H) (fun j=>ptF g c d1.size a I j) (fun x=>!ltInt x d1[a]!) d1 b I (scanDown (fun x=>!ltInt x d1[a]!) d1 I (b - 1)),⟨b - 1,b - 1,by omega,rfl,rfl,rfl,h3⟩,?_⟩
  have hJ:=scanDown_le (fun x=>!ltInt x d1[a]!) d1 I (b - 1)
  generalize hJJ:scanDown (fun x=>!ltInt x d1[a]!) d1 I (b - 1)=J at hK hJ
  rintro j ee w4 ⟨_,hjb,rfl,hdn,rfl,h4⟩
  show f150_lb8 ..
  rw [f150_lb8_eq,BIf_iff]
  have after2:∀ w5,j=J→St w0 w5 ((g,Cs (uCs d1 z) T)::H)→f150_s11 (j:Int) (some (Addr.mk g 0 none)) d1.size c a 0 false I w5 K:=by
   intro w5 hjJ h5
   subst hjJ
   rw [f150_s11_eq,BIf_iff]
   constructor
   ·intro hgt
    have hgt:I > j:=by simpa using hgt
    simp only [if_pos hgt] at hK
    refine swap_at (i:=j) (j:=a) rfl rfl (by omega) (by omega) h5 fun w6 h6=>?_
    rw [f150_s12_eq]
    exact hK w6 h6
   ·intro hle
    have hle:¬ I > j:=by simpa using hle
    simp only [if_neg hle] at hK
    rw [f150_s13_eq]
    refine swap_at (i:=I) (j:=j) rfl rfl (by omega) (by omega) h5 fun w6 h6=>?_
    have hs2:(swp d1 I j).size=d1.size:=swp_size _ _ _
    have ej:IntKind.wrap .i64 ((j:Int) - 1)=((j - 1:Nat):Int):=by rw [wrap_i64 (by omega) (by omega)]; omega
    have ei:IntKind.wrap .i64 ((I:Int)+1)=((I+1:Nat):Int):=by rw [wrap_i64 (by omega) (by omega)]; omega
    rw [f150_s14_eq,ei,f150_s15_eq,ej,f150_s16_eq]
    exact part_loop h6 (by omega) (by omega) (by omega) hs2 hb hn rfl hK
  constructor
  ·intro hle
   have hle:I≤j:=by simpa using hle
   refine less_at (i:=j) (j:=a) rfl rfl (by omega) (by omega) h4 (.head _) fun w5 h5=>⟨_,rfl,?_⟩
   rw [f150_s9_eq,BIf_iff]
   refine ⟨fun hb'=>?_,fun hb'=>?_⟩
   ·rw [f150_s10_eq]
    refine ⟨j - 1,by omega,j - 1,by omega,rfl,?_,?_,h5⟩
    ·rw [← hdn]; exact (down_step (by omega) hle hb').symm
    ·rw [wrap_i64 (by omega) (by omega),show (j:Int) - 1=((j - 1:Nat):Int) by omega]
   ·refine after2 w5 ?_ h5
    rw [← hdn]; exact (down_stop (fun hh=>by rw [hh.2] at hb'; cases hb')).symm
  ·intro hgt
   have hgt:¬ I≤j:=by simpa using hgt
   rw [f150_s9_eq,BIf_false]
   refine after2 _ ?_ h4.drew
   rw [← hdn]; exact (down_stop (fun hh=>hgt hh.1)).symm
 constructor
 ·intro hle
  have hle:i≤b - 1:=by simp at hle; omega
  refine less_at (i:=i) (j:=a) rfl rfl (by omega) (by omega) h2 (.head _) fun w3 h3=>⟨_,rfl,?_⟩
  rw [f150_s5_eq,BIf_iff]
  refine ⟨fun hb'=>?_,fun hb'=>?_⟩
  ·rw [f150_s6_eq]
   refine ⟨b - 1+1 - (i+1),by omega,i+1,by omega,by omega,rfl,?_,?_,h3⟩
   ·rw [← hup]; exact (up_step hle hb').symm
   ·rw [wrap_i64 (by omega) (by omega)]; rfl
  ·have:i=I:=by rw [← hup]; exact (up_stop (fun hh=>by rw [hh.2] at hb'; cases hb')).symm
   rw [this]
   exact after w3 h3
 ·intro hgt
  have hgt:¬ i≤b - 1:=by simp at hgt; omega
  rw [f150_s5_eq,BIf_false]
  have:i=I:=by rw [← hup]; exact (up_stop (fun hh=>hgt hh.1)).symm
  rw [this]
  exact after _ h2.drew
abbrev peE (g c n a:Nat) (i j:Nat):Env:=Env.mk 84 [(9,(Value.int .i64 i)),(8,(Value.int .i64 0)),(10,(Value.int .i64 j)),(0,(Value.slice (some (Addr.mk g 0 none)) n c)),(1,(Value.int .i64 a))] []
abbrev peF (g c n a:Nat) (i j:Nat):Env:=Env.mk 84 [(10,(Value.int .i64 j)),(8,(Value.int .i64 0)),(9,(Value.int .i64 i)),(0,(Value.slice (some (Addr.mk g 0 none)) n c)),(1,(Value.int .i64 a))] []
def PeInv (w0:World) (H:HBL) (g c:Nat) (T:TypeId) (z:List Value) (n a b:Nat) (R:Nat × Array Int) (m:Nat) (ee:Env) (w:World):Prop:=
 ∃ (i j:Nat) (d:Array Int),a < i∧i≤b∧j < b∧m=j+1 - i∧d.size=n∧partEqLoop ltInt a i j d=R∧ee=peE g c n a i j∧St w0 w ((g,Cs (uCs d z) T)::H)
theorem parteq_loop {d:Array Int} {n a b i j:Nat} {R:Nat × Array Int} (h:St w0 w ((g,Cs (uCs d z) T)::H)) (ha:a < i) (hi:i≤b) (hj:j < b) (hd:d.size=n) (hb:b≤n) (hn:n < 1000000000000) (hR:partEqLoop ltInt a i j d=R)
  (hK:∀ w',St w0 w' ((g,Cs (uCs R.2 z) T)::H)→K (I64 (R.1:Nat)) w'):LoopE (f149_lp4 K) (peE g c n a i j) w:=by
 refine ⟨PeInv w0 H g c T z n a b R,⟨j+1 - i,i,j,d,ha,hi,hj,rfl,hd,hR,rfl,h⟩,?_⟩
 clear h ha hi hj hd hR
 rintro m ee w7 ⟨i',j',d2,ha',hi',hj',rfl,hd2,hR,rfl,h7⟩
 show f149_lb4 ..
 rw [f149_lb4_eq]
 rw [partEqLoop_eq] at hR
 subst hd2
 refine ⟨UpInv w0 ((g,Cs (uCs d2 z) T)::H) (fun i=>peE g c d2.size a i j') (fun x=>!ltInt d2[a]! x) d2 a b j' (scanUp (fun x=>!ltInt d2[a]! x) d2 j' i'),⟨j'+1 - i',i',ha',hi',rfl,rfl,rfl,h7⟩,?_⟩
 have gI:=up_le (p:=fun x=>!ltInt d2[a]! x) d2 i' j' b hi' hj'
 have gI0:=scanUp_ge (fun x=>!ltInt d2[a]! x) d2 j' i'
 generalize scanUp (fun x=>!ltInt d2[a]! x) d2 j' i'=I2 at hR gI gI0
 rintro m ee w8 ⟨i3,ha3,hi3,rfl,hup3,rfl,h8⟩
 show f149_lb5 ..
 rw [f149_lb5_eq,BIf_iff]
 have after3:∀ w9,St w0 w9 ((g,Cs (uCs d2 z) T)::H)→f149_s8 (j':Int) 0 I2 (some (Addr.mk g 0 none)) d2.size c a w9 K (fun e' w'=>∃ m,m < j'+1 - i'∧PeInv w0 H g c T z d2.size a b R m e' w'):=by
  intro w9 h9
  rw [f149_s8_eq]
  refine ⟨DnInv w0 ((g,Cs (uCs d2 z) T)::H) (fun j=>peF g c d2.size a I2 j) (fun x=>ltInt d2[a]! x) d2 b I2 (scanDown (fun x=>ltInt d2[a]! x) d2 I2 j'),⟨j',j',hj',rfl,rfl,rfl,h9⟩,?_⟩
  have gJ:=scanDown_le (fun x=>ltInt d2[a]! x) d2 I2 j'
  generalize scanDown (fun x=>ltInt d2[a]! x) d2 I2 j'=J2 at hR gJ
  rintro j4 ee w10 ⟨_,hj4,rfl,hdn4,rfl,h10⟩
  show f149_lb9 ..
  rw [f149_lb9_eq,BIf_iff]
  have after4:∀ w11,j4=J2→St w0 w11 ((g,Cs (uCs d2 z) T)::H)→f149_s12 0 I2 (j4:Int) (some (Addr.mk g 0 none)) d2.size c a w11 K (fun e' w'=>∃ m,m < j'+1 - i'∧PeInv w0 H g c T z d2.size a b R m e' w'):=by
   intro w11 hj h11
   subst hj
   rw [f149_s12_eq,BIf_iff]
   constructor
   ·intro hgt
    have hgt:I2 > j4:=by simpa using hgt
    rw [if_pos hgt] at hR
    subst hR
    rw [f149_s13_eq]
    exact hK w11 h11
   ·intro hle
    have hle:¬ I2 > j4:=by simpa using hle
    rw [if_neg hle] at hR
    rw [f149_s14_eq]
    refine swap_at (i:=I2) (j:=j4) rfl rfl (by omega) (by omega) h11 fun w12 h12=>?_
    have ej:IntKind.wrap .i64 ((j4:Int) - 1)=((j4 - 1:Nat):Int):=by rw [wrap_i64 (by omega) (by omega)]; omega
    have ei:IntKind.wrap .i64 ((I2:Int)+1)=((I2+1:Nat):Int):=by rw [wrap_i64 (by omega) (by omega)]; omega
    rw [f149_s15_eq,ei,ej]
    exact ⟨j4 - 1+1 - (I2+1),by omega,I2+1,j4 - 1,_,by omega,by omega,by omega,rfl,swp_size _ _ _,hR,rfl,h12⟩
  constructor
  ·intro hle
   have hle:I2≤j4:=by simpa using hle
   refine less_at (i:=a) (j:=j4) rfl rfl (by omega) (by omega) h10 (.head _) fun w11 h11=>⟨_,rfl,?_⟩
   rw [f149_s10_eq,BIf_iff]
   refine ⟨fun hb'=>?_,fun hb'=>?_⟩
   ·rw [f149_s11_eq]
    refine ⟨j4 - 1,by omega,j4 - 1,by omega,rfl,?_,?_,h11⟩
    ·rw [← hdn4]; exact (down_step (by omega) hle hb').symm
    ·rw [wrap_i64 (by omega) (by omega),show (j4:Int) - 1=((j4 - 1:Nat):Int) by omega]
   ·refine after4 w11 ?_ h11
    rw [← hdn4]; exact (down_stop (fun hh=>by rw [hh.2] at hb'; cases hb')).symm
  ·intro hgt
   have hgt:¬ I2≤j4:=by simpa using hgt
   rw [f149_s10_eq,BIf_false]
   refine after4 _ ?_ h10.drew
   rw [← hdn4]; exact (down_stop (fun hh=>hgt hh.1)).symm
 constructor
 ·intro hle
  have hle:i3≤j':=by simpa using hle
  refine less_at (i:=a) (j:=i3) rfl rfl (by omega) (by omega) h8 (.head _) fun w9 h9=>⟨_,rfl,?_⟩
  rw [f149_s6_eq,BIf_iff]
  refine ⟨fun hb'=>?_,fun hb'=>?_⟩
  ·rw [f149_s7_eq]
   refine ⟨j'+1 - (i3+1),by omega,i3+1,by omega,by omega,rfl,?_,?_,h9⟩
   ·rw [← hup3]; exact (up_step hle hb').symm
   ·rw [wrap_i64 (by omega) (by omega)]; rfl
  ·have:i3=I2:=by rw [← hup3]; exact (up_stop (fun hh=>by rw [hh.2] at hb'; cases hb')).symm
   rw [this]
   exact after3 w9 h9
 ·intro hgt
  have hgt:¬ i3≤j':=by simpa using hgt
  rw [f149_s6_eq,BIf_false]
  have:i3=I2:=by rw [← hup3]; exact (up_stop (fun hh=>hgt hh.1)).symm
  rw [this]
  exact after3 _ h8.drew
theorem partitionEqual_ok {d:Array Int} {a b pv:Nat} (h:St w0 w ((g,Cs (uCs d z) T)::H)) (hap:a≤pv) (hpb:pv < b) (hb:b≤d.size) (hn:d.size < 1000000000000)
  (hK:∀ w',St w0 w' ((g,Cs (uCs (partitionEqual ltInt d a b pv).2 z) T)::H)→K (I64 ((partitionEqual ltInt d a b pv).1:Nat)) w') :
  CallL P 149 [.slice (some (Addr.mk g 0 none)) d.size c,.int .i64 a,.int .i64 b,.int .i64 pv] w K:=by
 refine f149_ok _ _ _ _ _ _ _ _ ?_
 rw [f149_eq,f149_s0_eq,f149_s1_eq]
 refine swap_at (i:=a) (j:=pv) rfl rfl (by omega) (by omega) h fun w1 h1=>?_
 have hs1:(swp d a pv).size=d.size:=swp_size _ _ _
 unfold partitionEqual at hK
 generalize swp d a pv=d1 at h1 hs1 hK
 have ej:IntKind.wrap .i64 ((b:Int) - 1)=((b - 1:Nat):Int):=by rw [wrap_i64 (by omega) (by omega)]; omega
 have ei:IntKind.wrap .i64 ((a:Int)+1)=((a+1:Nat):Int):=by rw [wrap_i64 (by omega) (by omega)]; omega
 rw [f149_s2_eq,ej,ei,f149_s3_eq]
 exact parteq_loop h1 (by omega) (by omega) (by omega) hs1 hb hn rfl hK
end
end Go.Fx.Tryz
namespace Go.Fx.Tryz
set_option maxRecDepth 100000
open Go Go.Fx Go.Proofs
noncomputable def c147:Code:=bodyOf Tryz.f147
noncomputable def rs147:List ResultVar:=Tryz.f147.results.toList
abbrev f147_kb (K:KT):Exit→YT:=bodyK P rs147 K
def f147 (a:OA) (b c:Nat) (d e:Int) (w:World) (K:KT):Prop:=CS P c147 none [6] [6] (f147_kb K) (env0 133 [(VS a b c),(VI d),(VI e)]) w
def f147_s0 (a:OA) (b c:Nat) (d e:Int) (w:World) (K:KT):Prop:=CS P (cA c147 1) none [6] [6] (f147_kb K) (Env.mk 133 [(0,(VS a b c)),(1,(VI d)),(2,(VI e))] []) w
abbrev f147_k0 (K:KT):Exit→YT:=kseq P (cA c147 2) (cA c147 3) none [6] [6] (f147_kb K)
def f147_s1 (a:OA) (b c:Nat) (d e:Int) (w:World) (K:KT):Prop:=CS P (cA c147 3) none [6] [6] (f147_kb K) (Env.mk 133 [(6,(VB false)),(0,(VS a b c)),(1,(VI d)),(2,(VI e))] []) w
abbrev f147_k1 (K:KT):Exit→YT:=kseq P (cA c147 6) (cA c147 7) none [6] [6] (f147_kb K)
def f147_s2 (a b c:Int) (d:OA) (e f:Nat) (g h:Int) (w:World) (K:KT):Prop:=CS P (cA c147 7) none [6] [6] (f147_kb K) (Env.mk 133 [(7,(VI a)),(12,(VI b)),(11,(VI c)),(6,(VB false)),(0,(VS d e f)),(1,(VI g)),(2,(VI h))] []) w
abbrev f147_k2 (K:KT):Exit→YT:=kseq P (cA c147 14) (cA c147 15) none [6] [6] (f147_kb K)
abbrev f147_k3 (K:KT):Exit→YT:=kseq P (cA c147 28) (cA c147 29) none [] [6] (f147_k2 K)
def f147_s3 (a b c d:Int) (e:OA) (f g:Nat) (h i:Int) (w:World) (K:KT):Prop:=CS P (cA c147 29) none [] [6] (f147_k2 K) (Env.mk 133 [(8,(VI a)),(7,(VI b)),(12,(VI c)),(11,(VI d)),(6,(VB false)),(0,(VS e f g)),(1,(VI h)),(2,(VI i))] []) w
abbrev f147_k4 (K:KT):Exit→YT:=kblock 0 (f147_k2 K)
def f147_lp4 (K:KT) (Y4:YT) (e:Env) (w:World):Prop:=Join (fun e w=>CS P (cA c147 116) none [7,6,8,0,2,1] [6] (kloop [7,6,8,0,2,1] Y4 (f147_k4 K)) e w) e w
abbrev f147_kl4 (K:KT) (Y4:YT):Exit→YT:=kloop [7,6,8,0,2,1] Y4 (f147_k4 K)
def f147_lb4 (a:Int) (b:Bool) (c:Int) (d:OA) (f g:Nat) (h i:Int) (w:World) (K:KT) (Y4:YT):Prop:=SG P (cA c147 116) none [7,6,8,0,2,1] [6] (f147_kl4 K Y4) (Env.mk 133 [(7,(VI a)),(6,(VB b)),(8,(VI c)),(0,(VS d f g)),(2,(VI h)),(1,(VI i))] []) w
abbrev f147_k5 (K:KT) (Y4:YT):Exit→YT:=kseq P (cA c147 232) (cA c147 233) none [7,6,8,0,2,1] [6] (f147_kl4 K Y4)
abbrev f147_k6 (K:KT) (Y4:YT):Exit→YT:=kseq P (cA c147 464) (cA c147 465) none [7,6,0,2,1,8] [6] (f147_k5 K Y4)
def f147_s5 (a:Int) (b:Bool) (c:OA) (d f:Nat) (g h i:Int) (w:World) (K:KT) (Y4:YT):Prop:=SG P (cA c147 233) none [7,6,8,0,2,1] [6] (f147_kl4 K Y4) (Env.mk 133 [(7,(VI a)),(6,(VB b)),(0,(VS c d f)),(2,(VI g)),(1,(VI h)),(8,(VI i))] []) w
abbrev f147_k7 (K:KT) (Y4:YT):Exit→YT:=kseq P (cA c147 466) (cA c147 467) none [7,6,8,0,2,1] [6] (f147_kl4 K Y4)
abbrev f147_k8 (K:KT) (Y4:YT):Exit→YT:=kblock 1 (f147_k7 K Y4)
abbrev f147_k9 (K:KT) (Y4:YT):Exit→YT:=kseq P (cA c147 1864) (cA c147 1865) none [7,6,0,2,1,8] [6,7,0,2,1,8] (f147_k8 K Y4)
abbrev f147_k10 (K:KT) (Y4:YT):Exit→YT:=kblock 2 (f147_k9 K Y4)
def f147_lp6 (K:KT) (Y4 Y6:YT) (e:Env) (w:World):Prop:=Join (fun e w=>CS P (cA c147 7456) none [7,6,0,2,1,8] [6,7,0,2,1,8] (kloop [7,6,0,2,1,8] Y6 (f147_k10 K Y4)) e w) e w
abbrev f147_kl6 (K:KT) (Y4 Y6:YT):Exit→YT:=kloop [7,6,0,2,1,8] Y6 (f147_k10 K Y4)
def f147_lb6 (a:Int) (b:Bool) (c:OA) (d f:Nat) (g h i:Int) (w:World) (K:KT) (Y4 Y6:YT):Prop:=SG P (cA c147 7456) none [7,6,0,2,1,8] [6,7,0,2,1,8] (f147_kl6 K Y4 Y6) (Env.mk 133 [(7,(VI a)),(6,(VB b)),(0,(VS c d f)),(2,(VI g)),(1,(VI h)),(8,(VI i))] []) w
abbrev f147_k11 (K:KT) (Y4 Y6:YT):Exit→YT:=kseq P (cA c147 14912) (cA c147 14913) none [7,6,0,2,1,8] [6,7,0,2,1,8] (f147_kl6 K Y4 Y6)
abbrev f147_k12 (K:KT) (Y4 Y6:YT):Exit→YT:=kseq P (cA c147 29824) (cA c147 29825) none [6,0,2,1,8,7] [6,7,0,2,1,8] (f147_k11 K Y4 Y6)
def f147_s7 (a b:Bool) (c:OA) (d f:Nat) (g h i j:Int) (w:World) (K:KT) (Y4 Y6:YT):Prop:=SG P (cA c147 29825) none [6,0,2,1,8,7] [6,7,0,2,1,8] (f147_k11 K Y4 Y6) (Env.mk 133 [(32,(VB a)),(6,(VB b)),(0,(VS c d f)),(2,(VI g)),(1,(VI h)),(8,(VI i)),(7,(VI j))] []) w
def f147_s8 (a:Bool) (b:OA) (c d:Nat) (f g h i:Int) (w:World) (K:KT) (Y4 Y6:YT):Prop:=SG P (cA c147 14913) none [7,6,0,2,1,8] [6,7,0,2,1,8] (f147_kl6 K Y4 Y6) (Env.mk 133 [(6,(VB a)),(0,(VS b c d)),(2,(VI f)),(1,(VI g)),(8,(VI h)),(7,(VI i))] []) w
abbrev f147_k13 (K:KT) (Y4 Y6:YT):Exit→YT:=kblock 3 (f147_kl6 K Y4 Y6)
theorem f147_s8_eq (a:Bool) (c:OA) (d e:Nat) (f g h i:Int) (w:World) (K:KT) (Y4 Y6:YT):f147_s8 a c d e f g h i w K Y4 Y6=(Y6 (Env.mk 133 [(7,(Value.int .i64 (IntKind.wrap .i64 ((i:Int)+1)))),(6,(Value.bool a)),(0,(Value.slice c d e)),(2,(Value.int .i64 f)),(1,(Value.int .i64 g)),(8,(Value.int .i64 h))] []) w):=Eq.trans SGe (Eq.trans (CSb 3 [6,7,0,2,1,8] (f147_k13 K Y4 Y6) (by kernel_rfl)) (by kernel_rfl))
def f147_s9 (a:Int) (b:OA) (c d:Nat) (f g h:Int) (i:Bool) (w:World) (K:KT) (Y4:YT):Prop:=SG P (cA c147 1865) none [7,6,0,2,1,8] [6,7,0,2,1,8] (f147_k8 K Y4) (Env.mk 133 [(7,(VI a)),(0,(VS b c d)),(2,(VI f)),(1,(VI g)),(8,(VI h)),(6,(VB i))] []) w
abbrev f147_k14 (K:KT) (Y4:YT):Exit→YT:=kseq P (cA c147 3730) (cA c147 3731) none [7,6,0,2,1,8] [6,7,0,2,1,8] (f147_k8 K Y4)
abbrev f147_k15 (K:KT) (Y4:YT):Exit→YT:=kseq P (cA c147 7460) (cA c147 7461) none [7,0,2,1,8,6] [6,7,0,2,1,8] (f147_k14 K Y4)
def f147_s10 (a:Int) (b:OA) (c d:Nat) (f g h:Int) (i:Bool) (w:World) (K:KT) (Y4:YT):Prop:=SG P (cA c147 3731) none [7,6,0,2,1,8] [6,7,0,2,1,8] (f147_k8 K Y4) (Env.mk 133 [(7,(VI a)),(0,(VS b c d)),(2,(VI f)),(1,(VI g)),(8,(VI h)),(6,(VB i))] []) w
abbrev f147_k17 (K:KT) (Y4:YT):Exit→YT:=kseq P (cA c147 7462) (cA c147 7463) none [7,6,0,2,1,8] [6,7,0,2,1,8] (f147_k8 K Y4)
abbrev f147_k18 (K:KT) (Y4:YT):Exit→YT:=kseq P (cA c147 14924) (cA c147 14925) none [6,7,0,2,1,8] [6,7,0,2,1,8] (f147_k17 K Y4)
def f147_s11 (a:Bool) (b:Int) (c:OA) (d f:Nat) (g h i:Int) (w:World) (K:KT) (Y4:YT):Prop:=SG P (cA c147 7463) none [7,6,0,2,1,8] [6,7,0,2,1,8] (f147_k8 K Y4) (Env.mk 133 [(6,(VB a)),(7,(VI b)),(0,(VS c d f)),(2,(VI g)),(1,(VI h)),(8,(VI i))] []) w
abbrev f147_k20 (K:KT) (Y4:YT):Exit→YT:=kseq P (cA c147 14926) (cA c147 14927) none [7,6,0,2,1,8] [6,7,0,2,1,8] (f147_k8 K Y4)
def f147_s12 (a:Bool) (b:Int) (c:OA) (d f:Nat) (g h i:Int) (w:World) (K:KT) (Y4:YT):Prop:=SG P (cA c147 14927) none [7,6,0,2,1,8] [6,7,0,2,1,8] (f147_k8 K Y4) (Env.mk 133 [(6,(VB a)),(7,(VI b)),(0,(VS c d f)),(2,(VI g)),(1,(VI h)),(8,(VI i))] []) w
abbrev f147_k21 (K:KT) (Y4:YT):Exit→YT:=kseq P (cA c147 29854) (cA c147 29855) none [7,6,0,2,1,8] [6,7,0,2,1,8] (f147_k8 K Y4)
abbrev f147_k22 (K:KT) (Y4:YT):Exit→YT:=kseq P (cA c147 59708) (cA c147 59709) none [6,7,0,2,1,8] [6,7,0,2,1,8] (f147_k21 K Y4)
def f147_s13 (a:Bool) (b c d:Int) (e:Bool) (f:Int) (g:OA) (h i:Nat) (j k l:Int) (w:World) (K:KT) (Y4:YT):Prop:=CS P (cA c147 119418) none [6,7,0,2,1,8] [6,7,0,2,1,8] (f147_k21 K Y4) (Env.mk 133 [(61,(VB true)),(61,(VB a)),(60,(VI b)),(59,(VI c)),(58,(VI d)),(6,(VB e)),(7,(VI f)),(0,(VS g h i)),(2,(VI j)),(1,(VI k)),(8,(VI l))] []) w
abbrev f147_k23 (K:KT) (Y4:YT):Exit→YT:=kseq P (cA c147 238836) (cA c147 238837) none [6,7,0,2,1,8] [6,7,0,2,1,8] (f147_k21 K Y4)
def f147_s14 (a b c:Int) (d:Bool) (e f g:Int) (h:Bool) (i:Int) (j:OA) (k l:Nat) (m n o:Int) (w:World) (K:KT) (Y4:YT):Prop:=CS P (cA c147 238837) none [6,7,0,2,1,8] [6,7,0,2,1,8] (f147_k21 K Y4) (Env.mk 133 [(9,(VI a)),(63,(VI b)),(62,(VI c)),(61,(VB true)),(61,(VB d)),(60,(VI e)),(59,(VI f)),(58,(VI g)),(6,(VB h)),(7,(VI i)),(0,(VS j k l)),(2,(VI m)),(1,(VI n)),(8,(VI o))] []) w
abbrev f147_k24 (K:KT) (Y4:YT):Exit→YT:=kblock 4 (f147_k21 K Y4)
def f147_lp15 (K:KT) (Y4 Y15:YT) (e:Env) (w:World):Prop:=Join (fun e w=>CS P (cA c147 955348) none [6,7,0,2,1,8,9] [6,7,0,2,1,8] (kloop [6,7,0,2,1,8,9] Y15 (f147_k24 K Y4)) e w) e w
abbrev f147_kl15 (K:KT) (Y4 Y15:YT):Exit→YT:=kloop [6,7,0,2,1,8,9] Y15 (f147_k24 K Y4)
def f147_lb15 (a:Bool) (b:Int) (c:OA) (d f:Nat) (g h i j:Int) (w:World) (K:KT) (Y4 Y15:YT):Prop:=SG P (cA c147 955348) none [6,7,0,2,1,8,9] [6,7,0,2,1,8] (f147_kl15 K Y4 Y15) (Env.mk 133 [(6,(VB a)),(7,(VI b)),(0,(VS c d f)),(2,(VI g)),(1,(VI h)),(8,(VI i)),(9,(VI j))] []) w
abbrev f147_k25 (K:KT) (Y4 Y15:YT):Exit→YT:=kseq P (cA c147 1910696) (cA c147 1910697) none [6,7,0,2,1,8,9] [6,7,0,2,1,8] (f147_kl15 K Y4 Y15)
abbrev f147_k26 (K:KT) (Y4 Y15:YT):Exit→YT:=kseq P (cA c147 3821392) (cA c147 3821393) none [6,7,0,2,1,8,9] [6,7,0,2,1,8] (f147_k25 K Y4 Y15)
def f147_s16 (a:Bool) (b:Int) (c:OA) (d f:Nat) (g h i j:Int) (w:World) (K:KT) (Y4 Y15:YT):Prop:=SG P (cA c147 1910697) none [6,7,0,2,1,8,9] [6,7,0,2,1,8] (f147_kl15 K Y4 Y15) (Env.mk 133 [(6,(VB a)),(7,(VI b)),(0,(VS c d f)),(2,(VI g)),(1,(VI h)),(8,(VI i)),(9,(VI j))] []) w
abbrev f147_k27 (K:KT) (Y4 Y15:YT):Exit→YT:=kseq P (cA c147 3821394) (cA c147 3821395) none [6,7,0,2,1,8,9] [6,7,0,2,1,8] (f147_kl15 K Y4 Y15)
abbrev f147_k28 (K:KT) (Y4 Y15:YT):Exit→YT:=kblock 5 (f147_k27 K Y4 Y15)
abbrev f147_k29 (K:KT) (Y4 Y15:YT):Exit→YT:=kseq P (cA c147 15285576) (cA c147 15285577) none [6,7,0,2,1,8,9] [6,7,0,2,1,8,9] (f147_k28 K Y4 Y15)
abbrev f147_k30 (K:KT) (Y4 Y15:YT):Exit→YT:=kseq P (cA c147 30571152) (cA c147 30571153) none [6,7,0,2,1,8,9] [6,7,0,2,1,8,9] (f147_k29 K Y4 Y15)
def f147_s17 (a b:Bool) (c:Int) (d:OA) (f g:Nat) (h i j k:Int) (w:World) (K:KT) (Y4 Y15:YT):Prop:=SG P (cA c147 30571153) none [6,7,0,2,1,8,9] [6,7,0,2,1,8,9] (f147_k29 K Y4 Y15) (Env.mk 133 [(78,(VB a)),(6,(VB b)),(7,(VI c)),(0,(VS d f g)),(2,(VI h)),(1,(VI i)),(8,(VI j)),(9,(VI k))] []) w
def f147_s18 (a:Bool) (b:Int) (c:OA) (d f:Nat) (g h i:Int) (w:World) (K:KT) (Y4:YT):Prop:=SG P (cA c147 29855) none [7,6,0,2,1,8] [6,7,0,2,1,8] (f147_k8 K Y4) (Env.mk 133 [(6,(VB a)),(7,(VI b)),(0,(VS c d f)),(2,(VI g)),(1,(VI h)),(8,(VI i))] []) w
abbrev f147_k31 (K:KT) (Y4:YT):Exit→YT:=kseq P (cA c147 59710) (cA c147 59711) none [7,6,0,2,1,8] [6,7,0,2,1,8] (f147_k8 K Y4)
def f147_s19 (a:Bool) (b c d:Int) (e:Bool) (f:Int) (g:OA) (h i:Nat) (j k l:Int) (w:World) (K:KT) (Y4:YT):Prop:=CS P (cA c147 119422) none [7,6,0,2,1,8] [6,7,0,2,1,8] (f147_k8 K Y4) (Env.mk 133 [(98,(VB true)),(98,(VB a)),(97,(VI b)),(96,(VI c)),(95,(VI d)),(6,(VB e)),(7,(VI f)),(0,(VS g h i)),(2,(VI j)),(1,(VI k)),(8,(VI l))] []) w
abbrev f147_k32 (K:KT) (Y4:YT):Exit→YT:=kseq P (cA c147 238844) (cA c147 238845) none [7,6,0,2,1,8] [6,7,0,2,1,8] (f147_k8 K Y4)
def f147_s20 (a b c:Int) (d:Bool) (e f g:Int) (h:Bool) (i:Int) (j:OA) (k l:Nat) (m n o:Int) (w:World) (K:KT) (Y4:YT):Prop:=CS P (cA c147 238845) none [7,6,0,2,1,8] [6,7,0,2,1,8] (f147_k8 K Y4) (Env.mk 133 [(10,(VI a)),(100,(VI b)),(99,(VI c)),(98,(VB true)),(98,(VB d)),(97,(VI e)),(96,(VI f)),(95,(VI g)),(6,(VB h)),(7,(VI i)),(0,(VS j k l)),(2,(VI m)),(1,(VI n)),(8,(VI o))] []) w
abbrev f147_k33 (K:KT) (Y4:YT):Exit→YT:=kblock 6 (f147_k8 K Y4)
def f147_lp21 (K:KT) (Y4 Y21:YT) (e:Env) (w:World):Prop:=Join (fun e w=>CS P (cA c147 955380) none [6,7,0,2,1,8,10] [6,7,0,2,1,8] (kloop [6,7,0,2,1,8,10] Y21 (f147_k33 K Y4)) e w) e w
abbrev f147_kl21 (K:KT) (Y4 Y21:YT):Exit→YT:=kloop [6,7,0,2,1,8,10] Y21 (f147_k33 K Y4)
def f147_lb21 (a:Bool) (b:Int) (c:OA) (d f:Nat) (g h i j:Int) (w:World) (K:KT) (Y4 Y21:YT):Prop:=SG P (cA c147 955380) none [6,7,0,2,1,8,10] [6,7,0,2,1,8] (f147_kl21 K Y4 Y21) (Env.mk 133 [(6,(VB a)),(7,(VI b)),(0,(VS c d f)),(2,(VI g)),(1,(VI h)),(8,(VI i)),(10,(VI j))] []) w
abbrev f147_k34 (K:KT) (Y4 Y21:YT):Exit→YT:=kseq P (cA c147 1910760) (cA c147 1910761) none [6,7,0,2,1,8,10] [6,7,0,2,1,8] (f147_kl21 K Y4 Y21)
abbrev f147_k35 (K:KT) (Y4 Y21:YT):Exit→YT:=kseq P (cA c147 3821520) (cA c147 3821521) none [6,7,0,2,1,8,10] [6,7,0,2,1,8] (f147_k34 K Y4 Y21)
def f147_s22 (a:Bool) (b:Int) (c:OA) (d f:Nat) (g h i j:Int) (w:World) (K:KT) (Y4 Y21:YT):Prop:=SG P (cA c147 1910761) none [6,7,0,2,1,8,10] [6,7,0,2,1,8] (f147_kl21 K Y4 Y21) (Env.mk 133 [(6,(VB a)),(7,(VI b)),(0,(VS c d f)),(2,(VI g)),(1,(VI h)),(8,(VI i)),(10,(VI j))] []) w
abbrev f147_k36 (K:KT) (Y4 Y21:YT):Exit→YT:=kseq P (cA c147 3821522) (cA c147 3821523) none [6,7,0,2,1,8,10] [6,7,0,2,1,8] (f147_kl21 K Y4 Y21)
abbrev f147_k37 (K:KT) (Y4 Y21:YT):Exit→YT:=kblock 7 (f147_k36 K Y4 Y21)
abbrev f147_k38 (K:KT) (Y4 Y21:YT):Exit→YT:=kseq P (cA c147 15286088) (cA c147 15286089) none [6,7,0,2,1,8,10] [6,7,0,2,1,8,10] (f147_k37 K Y4 Y21)
abbrev f147_k39 (K:KT) (Y4 Y21:YT):Exit→YT:=kseq P (cA c147 30572176) (cA c147 30572177) none [6,7,0,2,1,8,10] [6,7,0,2,1,8,10] (f147_k38 K Y4 Y21)
def f147_s23 (a b:Bool) (c:Int) (d:OA) (f g:Nat) (h i j k:Int) (w:World) (K:KT) (Y4 Y21:YT):Prop:=SG P (cA c147 30572177) none [6,7,0,2,1,8,10] [6,7,0,2,1,8,10] (f147_k38 K Y4 Y21) (Env.mk 133 [(116,(VB a)),(6,(VB b)),(7,(VI c)),(0,(VS d f g)),(2,(VI h)),(1,(VI i)),(8,(VI j)),(10,(VI k))] []) w
def f147_s24 (a:Int) (b:Bool) (c:OA) (d f:Nat) (g h i:Int) (w:World) (K:KT) (Y4:YT):Prop:=SG P (cA c147 467) none [7,6,8,0,2,1] [6] (f147_kl4 K Y4) (Env.mk 133 [(7,(VI a)),(6,(VB b)),(0,(VS c d f)),(2,(VI g)),(1,(VI h)),(8,(VI i))] []) w
theorem f147_s24_eq (a:Int) (c:Bool) (d:OA) (e f:Nat) (g h i:Int) (w:World) (K:KT) (Y4:YT):f147_s24 a c d e f g h i w K Y4=(Y4 (Env.mk 133 [(7,(Value.int .i64 a)),(6,(Value.bool c)),(8,(Value.int .i64 (IntKind.wrap .i64 ((i:Int)+1)))),(0,(Value.slice d e f)),(2,(Value.int .i64 g)),(1,(Value.int .i64 h))] []) w):=Eq.trans SGe (by kernel_rfl)
def f147_s25 (a:Bool) (b:Int) (c:OA) (d f:Nat) (g h i j:Int) (w:World) (K:KT) (Y4 Y21:YT):Prop:=SG P (cA c147 15286089) none [6,7,0,2,1,8,10] [6,7,0,2,1,8,10] (f147_k37 K Y4 Y21) (Env.mk 133 [(6,(VB a)),(7,(VI b)),(0,(VS c d f)),(2,(VI g)),(1,(VI h)),(8,(VI i)),(10,(VI j))] []) w
def f147_s26 (a:Bool) (b:Int) (c:OA) (d f:Nat) (g h i j:Int) (w:World) (K:KT) (Y4 Y21:YT):Prop:=SG P (cA c147 3821523) none [6,7,0,2,1,8,10] [6,7,0,2,1,8] (f147_kl21 K Y4 Y21) (Env.mk 133 [(6,(VB a)),(7,(VI b)),(0,(VS c d f)),(2,(VI g)),(1,(VI h)),(8,(VI i)),(10,(VI j))] []) w
theorem f147_s26_eq (a:Bool) (c:Int) (d:OA) (e f:Nat) (g h i j:Int) (w:World) (K:KT) (Y4 Y21:YT):f147_s26 a c d e f g h i j w K Y4 Y21=(Y21 (Env.mk 133 [(6,(Value.bool a)),(7,(Value.int .i64 c)),(0,(Value.slice d e f)),(2,(Value.int .i64 g)),(1,(Value.int .i64 h)),(8,(Value.int .i64 i)),(10,(Value.int .i64 (IntKind.wrap .i64 ((j:Int)+1))))] []) w):=Eq.trans SGe (by kernel_rfl)
theorem f147_s25_eq (e:Bool) (f:Int) (c:OA) (d g:Nat) (h i j a:Int) (w:World) (K:KT) (Y4 Y21:YT):f147_s25 e f c d g h i j a w K Y4 Y21=(optS c (fun m=>0≤((IntKind.wrap .i64 ((a:Int) - 1)):Int)∧((IntKind.wrap .i64 ((a:Int) - 1)):Int) < (d:Nat)∧optS c (fun n=>0≤(a:Int)∧(a:Int) < (d:Nat)∧∃ k:Int,w.drew.cell? (m.add (Int.toNat (IntKind.wrap .i64 ((a:Int) - 1)) * 1))=some (.int .u32 k)∧∃ l:Int,w.drew.cell? (n.add (Int.toNat a * 1))=some (.int .u32 l)∧optS c (fun o=>0≤(a:Int)∧(a:Int) < (d:Nat)∧St1 (o.add (Int.toNat a * 1)) (Value.int .u32 k) w.drew (fun p=>optS c (fun q=>0≤((IntKind.wrap .i64 ((a:Int) - 1)):Int)∧((IntKind.wrap .i64 ((a:Int) - 1)):Int) < (d:Nat)∧St1 (q.add (Int.toNat (IntKind.wrap .i64 ((a:Int) - 1)) * 1)) (Value.int .u32 l) p (fun r=>f147_s26 e f c d g h i j a r K Y4 Y21))))))):=Eq.trans SGe (by kernel_rfl)
theorem f147_s23_eq (j a:Bool) (c:Int) (d:OA) (e f:Nat) (g h i k:Int) (w:World) (K:KT) (Y4 Y21:YT):f147_s23 j a c d e f g h i k w K Y4 Y21=(BIf j (f147_s24 c a d e f g h i w K Y4) (f147_s25 a c d e f g h i k w K Y4 Y21)):=Eq.trans SGe (by kernel_rfl)
theorem f147_s22_eq (f:Bool) (g:Int) (d:OA) (e h:Nat) (i j k c:Int) (w:World) (K:KT) (Y4 Y21:YT):f147_s22 f g d e h i j k c w K Y4 Y21=(optS d (fun o=>0≤(c:Int)∧(c:Int) < (e:Nat)∧optS d (fun p=>0≤((IntKind.wrap .i64 ((c:Int) - 1)):Int)∧((IntKind.wrap .i64 ((c:Int) - 1)):Int) < (e:Nat)∧∃ l:Int,w.drew.cell? (o.add (Int.toNat c * 1))=some (.int .u32 l)∧∃ m:Int,w.drew.cell? (p.add (Int.toNat (IntKind.wrap .i64 ((c:Int) - 1)) * 1))=some (.int .u32 m)∧CallL P 148 [(Value.int .u32 l),(Value.int .u32 m)] w.drew (fun q r=>∃ n:Bool,q=(.bool n)∧f147_s23 (!n) f g d e h i j k c r K Y4 Y21)))):=Eq.trans SGe (Eq.trans (CSs [6,7,0,2,1,8,10] (f147_k36 K Y4 Y21) (by kernel_rfl)) (Eq.trans (CSb 7 [6,7,0,2,1,8,10] (f147_k37 K Y4 Y21) (by kernel_rfl)) (Eq.trans (CSs [6,7,0,2,1,8,10] (f147_k38 K Y4 Y21) (by kernel_rfl)) (Eq.trans (CSs [116,6,7,0,2,1,8,10] (f147_k39 K Y4 Y21) (by kernel_rfl)) (by kernel_rfl)))))
theorem f147_lb21_eq (d:Bool) (e:Int) (f:OA) (g h:Nat) (c i j k:Int) (w:World) (K:KT) (Y4 Y21:YT):f147_lb21 d e f g h c i j k w K Y4 Y21=(BIf (decide ((k:Int) < c)) (f147_s22 d e f g h c i j k w K Y4 Y21) (f147_s24 e d f g h c i j w K Y4)):=Eq.trans SGe (Eq.trans (CSs [6,7,0,2,1,8,10] (f147_k34 K Y4 Y21) (by kernel_rfl)) (Eq.trans (CSs [103,6,7,0,2,1,8,10] (f147_k35 K Y4 Y21) (by kernel_rfl)) (by kernel_rfl)))
theorem f147_s20_eq (a k l:Int) (m:Bool) (n o p:Int) (c:Bool) (d:Int) (e:OA) (f g:Nat) (h i j:Int) (w:World) (K:KT) (Y4:YT):f147_s20 a k l m n o p c d e f g h i j w K Y4=(LoopE (f147_lp21 K Y4) (Env.mk 133 [(6,(Value.bool c)),(7,(Value.int .i64 d)),(0,(Value.slice e f g)),(2,(Value.int .i64 h)),(1,(Value.int .i64 i)),(8,(Value.int .i64 j)),(10,(Value.int .i64 a))] []) w):=Eq.trans (b:=CS P (cA c147 238845) none [7,6,0,2,1,8] [6,7,0,2,1,8] (f147_k8 K Y4) (Env.mk 133 [(10,(VI a)),(100,(VI k)),(99,(VI l)),(98,(VB true)),(98,(VB m)),(97,(VI n)),(96,(VI o)),(95,(VI p)),(6,(VB c)),(7,(VI d)),(0,(VS e f g)),(2,(VI h)),(1,(VI i)),(8,(VI j))] []) w) (by kernel_rfl) (Eq.trans (CSb 6 [6,7,0,2,1,8] (f147_k33 K Y4) (by kernel_rfl)) ((CS_loop' (b:=(cA c147 955380)) (X':=[6,7,0,2,1,8]) (H:=[6,7,0,2,1,8,10]) (by kernel_rfl) (by kernel_rfl) (by kernel_rfl)).trans (by kernel_rfl)))
theorem f147_s19_eq (d:Bool) (e f g:Int) (h:Bool) (c:Int) (i:OA) (j k:Nat) (l m n:Int) (w:World) (K:KT) (Y4:YT):f147_s19 d e f g h c i j k l m n w K Y4=(f147_s20 (IntKind.wrap .i64 ((c:Int)+1)) (IntKind.wrap .i64 ((c:Int)+1)) c d e f g h c i j k l m n w K Y4):=Eq.trans (b:=CS P (cA c147 119422) none [7,6,0,2,1,8] [6,7,0,2,1,8] (f147_k8 K Y4) (Env.mk 133 [(98,(VB true)),(98,(VB d)),(97,(VI e)),(96,(VI f)),(95,(VI g)),(6,(VB h)),(7,(VI c)),(0,(VS i j k)),(2,(VI l)),(1,(VI m)),(8,(VI n))] []) w) (by kernel_rfl) (Eq.trans (CSs [6,7,0,2,1,8,10] (f147_k32 K Y4) (by kernel_rfl)) (by kernel_rfl))
theorem f147_s18_eq (e:Bool) (c:Int) (f:OA) (g h:Nat) (d i j:Int) (w:World) (K:KT) (Y4:YT):f147_s18 e c f g h d i j w K Y4=(BIf (decide (((IntKind.wrap .i64 ((d:Int) - c)):Int)≥2)) (f147_s19 (decide (((IntKind.wrap .i64 ((d:Int) - c)):Int)≥2)) (IntKind.wrap .i64 ((d:Int) - c)) c d e c f g h d i j w K Y4) (f147_s24 c e f g h d i j w K Y4)):=Eq.trans SGe (Eq.trans (CSs [98,6,7,0,2,1,8] (f147_k31 K Y4) (by kernel_rfl)) (by kernel_rfl))
def f147_s27 (a:Bool) (b:Int) (c:OA) (d f:Nat) (g h i j:Int) (w:World) (K:KT) (Y4 Y15:YT):Prop:=SG P (cA c147 15285577) none [6,7,0,2,1,8,9] [6,7,0,2,1,8,9] (f147_k28 K Y4 Y15) (Env.mk 133 [(6,(VB a)),(7,(VI b)),(0,(VS c d f)),(2,(VI g)),(1,(VI h)),(8,(VI i)),(9,(VI j))] []) w
def f147_s28 (a:Bool) (b:Int) (c:OA) (d f:Nat) (g h i j:Int) (w:World) (K:KT) (Y4 Y15:YT):Prop:=SG P (cA c147 3821395) none [6,7,0,2,1,8,9] [6,7,0,2,1,8] (f147_kl15 K Y4 Y15) (Env.mk 133 [(6,(VB a)),(7,(VI b)),(0,(VS c d f)),(2,(VI g)),(1,(VI h)),(8,(VI i)),(9,(VI j))] []) w
theorem f147_s28_eq (a:Bool) (c:Int) (d:OA) (e f:Nat) (g h i j:Int) (w:World) (K:KT) (Y4 Y15:YT):f147_s28 a c d e f g h i j w K Y4 Y15=(Y15 (Env.mk 133 [(6,(Value.bool a)),(7,(Value.int .i64 c)),(0,(Value.slice d e f)),(2,(Value.int .i64 g)),(1,(Value.int .i64 h)),(8,(Value.int .i64 i)),(9,(Value.int .i64 (IntKind.wrap .i64 ((j:Int) - 1))))] []) w):=Eq.trans SGe (by kernel_rfl)
theorem f147_s27_eq (e:Bool) (f:Int) (c:OA) (d g:Nat) (h i j a:Int) (w:World) (K:KT) (Y4 Y15:YT):f147_s27 e f c d g h i j a w K Y4 Y15=(optS c (fun m=>0≤((IntKind.wrap .i64 ((a:Int) - 1)):Int)∧((IntKind.wrap .i64 ((a:Int) - 1)):Int) < (d:Nat)∧optS c (fun n=>0≤(a:Int)∧(a:Int) < (d:Nat)∧∃ k:Int,w.drew.cell? (m.add (Int.toNat (IntKind.wrap .i64 ((a:Int) - 1)) * 1))=some (.int .u32 k)∧∃ l:Int,w.drew.cell? (n.add (Int.toNat a * 1))=some (.int .u32 l)∧optS c (fun o=>0≤(a:Int)∧(a:Int) < (d:Nat)∧St1 (o.add (Int.toNat a * 1)) (Value.int .u32 k) w.drew (fun p=>optS c (fun q=>0≤((IntKind.wrap .i64 ((a:Int) - 1)):Int)∧((IntKind.wrap .i64 ((a:Int) - 1)):Int) < (d:Nat)∧St1 (q.add (Int.toNat (IntKind.wrap .i64 ((a:Int) - 1)) * 1)) (Value.int .u32 l) p (fun r=>f147_s28 e f c d g h i j a r K Y4 Y15))))))):=Eq.trans SGe (by kernel_rfl)
theorem f147_s17_eq (j a:Bool) (c:Int) (d:OA) (e f:Nat) (g h i k:Int) (w:World) (K:KT) (Y4 Y15:YT):f147_s17 j a c d e f g h i k w K Y4 Y15=(BIf j (f147_s18 a c d e f g h i w K Y4) (f147_s27 a c d e f g h i k w K Y4 Y15)):=Eq.trans SGe (by kernel_rfl)
theorem f147_s16_eq (f:Bool) (g:Int) (d:OA) (e h:Nat) (i j k c:Int) (w:World) (K:KT) (Y4 Y15:YT):f147_s16 f g d e h i j k c w K Y4 Y15=(optS d (fun o=>0≤(c:Int)∧(c:Int) < (e:Nat)∧optS d (fun p=>0≤((IntKind.wrap .i64 ((c:Int) - 1)):Int)∧((IntKind.wrap .i64 ((c:Int) - 1)):Int) < (e:Nat)∧∃ l:Int,w.drew.cell? (o.add (Int.toNat c * 1))=some (.int .u32 l)∧∃ m:Int,w.drew.cell? (p.add (Int.toNat (IntKind.wrap .i64 ((c:Int) - 1)) * 1))=some (.int .u32 m)∧CallL P 148 [(Value.int .u32 l),(Value.int .u32 m)] w.drew (fun q r=>∃ n:Bool,q=(.bool n)∧f147_s17 (!n) f g d e h i j k c r K Y4 Y15)))):=Eq.trans SGe (Eq.trans (CSs [6,7,0,2,1,8,9] (f147_k27 K Y4 Y15) (by kernel_rfl)) (Eq.trans (CSb 5 [6,7,0,2,1,8,9] (f147_k28 K Y4 Y15) (by kernel_rfl)) (Eq.trans (CSs [6,7,0,2,1,8,9] (f147_k29 K Y4 Y15) (by kernel_rfl)) (Eq.trans (CSs [78,6,7,0,2,1,8,9] (f147_k30 K Y4 Y15) (by kernel_rfl)) (by kernel_rfl)))))
theorem f147_lb15_eq (c:Bool) (d:Int) (e:OA) (f g:Nat) (h i j k:Int) (w:World) (K:KT) (Y4 Y15:YT):f147_lb15 c d e f g h i j k w K Y4 Y15=(BIf (decide ((k:Int)≥1)) (f147_s16 c d e f g h i j k w K Y4 Y15) (f147_s18 c d e f g h i j w K Y4)):=Eq.trans SGe (Eq.trans (CSs [6,7,0,2,1,8,9] (f147_k25 K Y4 Y15) (by kernel_rfl)) (Eq.trans (CSs [65,6,7,0,2,1,8,9] (f147_k26 K Y4 Y15) (by kernel_rfl)) (by kernel_rfl)))
theorem f147_s14_eq (a k l:Int) (m:Bool) (n o p:Int) (c:Bool) (d:Int) (e:OA) (f g:Nat) (h i j:Int) (w:World) (K:KT) (Y4:YT):f147_s14 a k l m n o p c d e f g h i j w K Y4=(LoopE (f147_lp15 K Y4) (Env.mk 133 [(6,(Value.bool c)),(7,(Value.int .i64 d)),(0,(Value.slice e f g)),(2,(Value.int .i64 h)),(1,(Value.int .i64 i)),(8,(Value.int .i64 j)),(9,(Value.int .i64 a))] []) w):=Eq.trans (b:=CS P (cA c147 238837) none [6,7,0,2,1,8] [6,7,0,2,1,8] (f147_k21 K Y4) (Env.mk 133 [(9,(VI a)),(63,(VI k)),(62,(VI l)),(61,(VB true)),(61,(VB m)),(60,(VI n)),(59,(VI o)),(58,(VI p)),(6,(VB c)),(7,(VI d)),(0,(VS e f g)),(2,(VI h)),(1,(VI i)),(8,(VI j))] []) w) (by kernel_rfl) (Eq.trans (CSb 4 [6,7,0,2,1,8] (f147_k24 K Y4) (by kernel_rfl)) ((CS_loop' (b:=(cA c147 955348)) (X':=[6,7,0,2,1,8]) (H:=[6,7,0,2,1,8,9]) (by kernel_rfl) (by kernel_rfl) (by kernel_rfl)).trans (by kernel_rfl)))
theorem f147_s13_eq (d:Bool) (e f g:Int) (h:Bool) (c:Int) (i:OA) (j k:Nat) (l m n:Int) (w:World) (K:KT) (Y4:YT):f147_s13 d e f g h c i j k l m n w K Y4=(f147_s14 (IntKind.wrap .i64 ((c:Int) - 1)) (IntKind.wrap .i64 ((c:Int) - 1)) c d e f g h c i j k l m n w K Y4):=Eq.trans (b:=CS P (cA c147 119418) none [6,7,0,2,1,8] [6,7,0,2,1,8] (f147_k21 K Y4) (Env.mk 133 [(61,(VB true)),(61,(VB d)),(60,(VI e)),(59,(VI f)),(58,(VI g)),(6,(VB h)),(7,(VI c)),(0,(VS i j k)),(2,(VI l)),(1,(VI m)),(8,(VI n))] []) w) (by kernel_rfl) (Eq.trans (CSs [6,7,0,2,1,8,9] (f147_k23 K Y4) (by kernel_rfl)) (by kernel_rfl))
theorem f147_s12_eq (e:Bool) (c:Int) (f:OA) (g h:Nat) (i d j:Int) (w:World) (K:KT) (Y4:YT):f147_s12 e c f g h i d j w K Y4=(BIf (decide (((IntKind.wrap .i64 ((c:Int) - d)):Int)≥2)) (f147_s13 (decide (((IntKind.wrap .i64 ((c:Int) - d)):Int)≥2)) (IntKind.wrap .i64 ((c:Int) - d)) d c e c f g h i d j w K Y4) (f147_s18 e c f g h i d j w K Y4)):=Eq.trans SGe (Eq.trans (CSs [6,7,0,2,1,8] (f147_k21 K Y4) (by kernel_rfl)) (Eq.trans (CSs [61,6,7,0,2,1,8] (f147_k22 K Y4) (by kernel_rfl)) (by kernel_rfl)))
theorem f147_s11_eq (f:Bool) (c:Int) (d:OA) (e g:Nat) (h i j:Int) (w:World) (K:KT) (Y4:YT):f147_s11 f c d e g h i j w K Y4=(optS d (fun m=>0≤((IntKind.wrap .i64 ((c:Int) - 1)):Int)∧((IntKind.wrap .i64 ((c:Int) - 1)):Int) < (e:Nat)∧optS d (fun n=>0≤(c:Int)∧(c:Int) < (e:Nat)∧∃ k:Int,w.drew.cell? (m.add (Int.toNat (IntKind.wrap .i64 ((c:Int) - 1)) * 1))=some (.int .u32 k)∧∃ l:Int,w.drew.cell? (n.add (Int.toNat c * 1))=some (.int .u32 l)∧optS d (fun o=>0≤(c:Int)∧(c:Int) < (e:Nat)∧St1 (o.add (Int.toNat c * 1)) (Value.int .u32 k) w.drew (fun p=>optS d (fun q=>0≤((IntKind.wrap .i64 ((c:Int) - 1)):Int)∧((IntKind.wrap .i64 ((c:Int) - 1)):Int) < (e:Nat)∧St1 (q.add (Int.toNat (IntKind.wrap .i64 ((c:Int) - 1)) * 1)) (Value.int .u32 l) p (fun r=>f147_s12 f c d e g h i j r K Y4))))))):=Eq.trans SGe (Eq.trans (CSs [6,7,0,2,1,8] (f147_k20 K Y4) (by kernel_rfl)) (by kernel_rfl))
theorem f147_s10_eq (e:Int) (f:OA) (g h:Nat) (c d i:Int) (j:Bool) (w:World) (K:KT) (Y4:YT):f147_s10 e f g h c d i j w K Y4=(BIf (decide (((IntKind.wrap .i64 ((c:Int) - d)):Int) < 50)) (K (Value.bool false) w) (f147_s11 j e f g h c d i w K Y4)):=Eq.trans SGe (Eq.trans (CSs [6,7,0,2,1,8] (f147_k17 K Y4) (by kernel_rfl)) (Eq.trans (CSs [41,7,0,2,1,8,6] (f147_k18 K Y4) (by kernel_rfl)) (by kernel_rfl)))
theorem f147_s9_eq (c:Int) (e:OA) (f g:Nat) (d h i:Int) (j:Bool) (w:World) (K:KT) (Y4:YT):f147_s9 c e f g d h i j w K Y4=(BIf ((c:Int) == d) (K (Value.bool true) w) (f147_s10 c e f g d h i j w K Y4)):=Eq.trans SGe (Eq.trans (CSs [7,0,2,1,8,6] (f147_k14 K Y4) (by kernel_rfl)) (Eq.trans (CSs [37,7,0,2,1,8,6] (f147_k15 K Y4) (by kernel_rfl)) (by kernel_rfl)))
theorem f147_s7_eq (j a:Bool) (c:OA) (d e:Nat) (f g h i:Int) (w:World) (K:KT) (Y4 Y6:YT):f147_s7 j a c d e f g h i w K Y4 Y6=(BIf j (f147_s8 a c d e f g h i w K Y4 Y6) (f147_s9 i c d e f g h a w K Y4)):=Eq.trans SGe (by kernel_rfl)
theorem f147_lb6_eq (c:Int) (g:Bool) (d:OA) (e h:Nat) (f i j:Int) (w:World) (K:KT) (Y4 Y6:YT):f147_lb6 c g d e h f i j w K Y4 Y6=(BIf (decide ((c:Int) < f)) (optS d (fun n=>0≤(c:Int)∧(c:Int) < (e:Nat)∧optS d (fun o=>0≤((IntKind.wrap .i64 ((c:Int) - 1)):Int)∧((IntKind.wrap .i64 ((c:Int) - 1)):Int) < (e:Nat)∧∃ k:Int,w.drew.cell? (n.add (Int.toNat c * 1))=some (.int .u32 k)∧∃ l:Int,w.drew.cell? (o.add (Int.toNat (IntKind.wrap .i64 ((c:Int) - 1)) * 1))=some (.int .u32 l)∧CallL P 148 [(Value.int .u32 k),(Value.int .u32 l)] w.drew (fun p q=>∃ m:Bool,p=(.bool m)∧f147_s7 (!m) g d e h f i j c q K Y4 Y6)))) (f147_s7 false g d e h f i j c w.drew K Y4 Y6)):=Eq.trans SGe (Eq.trans (CSs [6,0,2,1,8,7] (f147_k11 K Y4 Y6) (by kernel_rfl)) (Eq.trans (CSs [32,6,0,2,1,8,7] (f147_k12 K Y4 Y6) (by kernel_rfl)) (by kernel_rfl)))
theorem f147_s5_eq (c:Int) (d:Bool) (e:OA) (f g:Nat) (h i j:Int) (w:World) (K:KT) (Y4:YT):f147_s5 c d e f g h i j w K Y4=(LoopE (f147_lp6 K Y4) (Env.mk 133 [(7,(Value.int .i64 c)),(6,(Value.bool d)),(0,(Value.slice e f g)),(2,(Value.int .i64 h)),(1,(Value.int .i64 i)),(8,(Value.int .i64 j))] []) w):=Eq.trans SGe (Eq.trans (CSs [7,6,0,2,1,8] (f147_k7 K Y4) (by kernel_rfl)) (Eq.trans (CSb 1 [6,7,0,2,1,8] (f147_k8 K Y4) (by kernel_rfl)) (Eq.trans (CSs [7,0,2,1,8,6] (f147_k9 K Y4) (by kernel_rfl)) (Eq.trans (CSb 2 [6,7,0,2,1,8] (f147_k10 K Y4) (by kernel_rfl)) ((CS_loop' (b:=(cA c147 7456)) (X':=[6,7,0,2,1,8]) (H:=[7,6,0,2,1,8]) (by kernel_rfl) (by kernel_rfl) (by kernel_rfl)).trans (by kernel_rfl))))))
def f147_s29 (w:World) (K:KT):Prop:=SG P (cA c147 15) none [6] [6] (f147_kb K) (Env.mk 133 [] []) w
abbrev f147_k40 (K:KT):Exit→YT:=kseq P (cA c147 30) (cA c147 31) none [6] [6] (f147_kb K)
theorem f147_s29_eq (w:World) (K:KT):f147_s29 w K=(K (Value.bool false) w):=Eq.trans SGe (Eq.trans (CSs [6] (f147_k40 K) (by kernel_rfl)) (by kernel_rfl))
theorem f147_lb4_eq (d:Int) (e:Bool) (c:Int) (f:OA) (g h:Nat) (i j:Int) (w:World) (K:KT) (Y4:YT):f147_lb4 d e c f g h i j w K Y4=(BIf (decide ((c:Int) < 5)) (f147_s5 d e f g h i j c w K Y4) (f147_s29 w K)):=Eq.trans SGe (Eq.trans (CSs [7,6,0,2,1,8] (f147_k5 K Y4) (by kernel_rfl)) (Eq.trans (CSs [14,7,6,0,2,1,8] (f147_k6 K Y4) (by kernel_rfl)) (by kernel_rfl)))
theorem f147_s3_eq (a c i j:Int) (d:OA) (e f:Nat) (g h:Int) (w:World) (K:KT):f147_s3 a c i j d e f g h w K=(LoopE (f147_lp4 K) (Env.mk 133 [(7,(Value.int .i64 c)),(6,(Value.bool false)),(8,(Value.int .i64 a)),(0,(Value.slice d e f)),(2,(Value.int .i64 h)),(1,(Value.int .i64 g))] []) w):=Eq.trans (b:=CS P (cA c147 29) none [] [6] (f147_k2 K) (Env.mk 133 [(8,(VI a)),(7,(VI c)),(12,(VI i)),(11,(VI j)),(6,(VB false)),(0,(VS d e f)),(1,(VI g)),(2,(VI h))] []) w) (by kernel_rfl) (Eq.trans (CSb 0 [6] (f147_k4 K) (by kernel_rfl)) ((CS_loop' (b:=(cA c147 116)) (X':=[6]) (H:=[7,6,8,0,2,1]) (by kernel_rfl) (by kernel_rfl) (by kernel_rfl)).trans (by kernel_rfl)))
theorem f147_s2_eq (c d e:Int) (f:OA) (g h:Nat) (i j:Int) (w:World) (K:KT):f147_s2 c d e f g h i j w K=(f147_s3 0 c d e f g h i j w K):=Eq.trans (b:=CS P (cA c147 7) none [6] [6] (f147_kb K) (Env.mk 133 [(7,(VI c)),(12,(VI d)),(11,(VI e)),(6,(VB false)),(0,(VS f g h)),(1,(VI i)),(2,(VI j))] []) w) (by kernel_rfl) (Eq.trans (CSs [] (f147_k2 K) (by kernel_rfl)) (Eq.trans (CSs [7,6,8,0,2,1] (f147_k3 K) (by kernel_rfl)) (by kernel_rfl)))
theorem f147_s1_eq (d:OA) (e f:Nat) (c g:Int) (w:World) (K:KT):f147_s1 d e f c g w K=(f147_s2 (IntKind.wrap .i64 ((c:Int)+1)) (IntKind.wrap .i64 ((c:Int)+1)) c d e f c g w K):=Eq.trans (b:=CS P (cA c147 3) none [6] [6] (f147_kb K) (Env.mk 133 [(6,(VB false)),(0,(VS d e f)),(1,(VI c)),(2,(VI g))] []) w) (by kernel_rfl) (Eq.trans (CSs [7,6,0,2,1] (f147_k1 K) (by kernel_rfl)) (by kernel_rfl))
theorem f147_s0_eq (c:OA) (d e:Nat) (f g:Int) (w:World) (K:KT):f147_s0 c d e f g w K=(f147_s1 c d e f g w K):=Eq.trans (b:=CS P (cA c147 1) none [6] [6] (f147_kb K) (Env.mk 133 [(0,(VS c d e)),(1,(VI f)),(2,(VI g))] []) w) (by kernel_rfl) (Eq.trans (CSs [6,0,2,1] (f147_k0 K) (by kernel_rfl)) (by kernel_rfl))
theorem f147_eq (a:OA) (b c:Nat) (d e:Int) (w:World) (K:KT):f147 a b c d e w K=(f147_s0 a b c d e w K):=by kernel_rfl
theorem f147_ok (a:OA) (b c:Nat) (d e:Int) (w:World) (K:KT) (h:f147 a b c d e w K):CallL P 147 [(Value.slice a b c),(Value.int .i64 d),(Value.int .i64 e)] w K:=okCS c147 Tryz.func147 (by kernel_rfl) (by kernel_rfl) h
end Go.Fx.Tryz
namespace Go.Fx.Tryz
open Go Go.Fx
set_option linter.all false
open Go.Proofs
open Go.Sort (swp swp_size ltInt scanSorted shiftDown shiftUp partialIns partialInsertionSort)
variable {w0 w:World} {H X:HBL} {K:KT}
set_option maxRecDepth 20000
section
variable {g c:Nat} {T:TypeId} {z:List Value} {Y4:YT}
theorem shiftDown_size:∀ (j:Nat) (d:Array Int),(shiftDown ltInt j d).size=d.size
 | 0,d=>rfl
 | j+1,d=>by
  unfold shiftDown
  split
  ·rfl
  ·rw [shiftDown_size j,swp_size]
theorem shiftUp_size (b:Nat):∀ (m j:Nat) (d:Array Int),b - j=m→(shiftUp ltInt b j d).size=d.size
 | 0,j,d,h=>by rw [shiftUp,if_neg (by omega)]
 | m+1,j,d,h=>by
  rw [shiftUp,if_pos (by omega)]
  split
  ·rfl
  ·rw [shiftUp_size b m (j+1) _ (by omega),swp_size]
def PuInv (w0:World) (H:HBL) (g c:Nat) (T:TypeId) (z:List Value) (n a b i s:Nat) (D:Array Int) (m:Nat) (ee:Env) (w:World):Prop:=
 ∃ (k:Nat) (d:Array Int),i < k∧k≤b∧m=b - k∧d.size=n∧shiftUp ltInt b k d=D∧ee=Env.mk 133 [(6,(Value.bool false)),(7,(Value.int .i64 i)),(0,(Value.slice (some (Addr.mk g 0 none)) n c)),(2,(Value.int .i64 b)),(1,(Value.int .i64 a)),(8,(Value.int .i64 s)),(10,(Value.int .i64 k))] []∧St w0 w ((g,Cs (uCs d z) T)::H)
theorem pi_s18 {d:Array Int} {n a b i s:Nat} (h:St w0 w ((g,Cs (uCs d z) T)::H)) (hd:d.size=n) (hi:i < b) (hb:b≤n) (hn:n < 1000000000000)
  (hK:∀ w',St w0 w' ((g,Cs (uCs (if b - i≥2 then shiftUp ltInt b (i+1) d else d) z) T)::H)→f147_s24 i false (some (Addr.mk g 0 none)) n c b a s w' K Y4) :
  f147_s18 false i (some (Addr.mk g 0 none)) n c b a s w K Y4:=by
 have e1:IntKind.wrap .i64 ((b:Int) - (i:Int))=((b - i:Nat):Int):=by rw [wrap_i64 (by omega) (by omega)]; omega
 have e2:IntKind.wrap .i64 ((i:Int)+1)=((i+1:Nat):Int):=by rw [wrap_i64 (by omega) (by omega)]; omega
 rw [f147_s18_eq,e1,BIf_iff]
 refine ⟨fun h2=>?_,fun h2=>?_⟩
 ·have h2:b - i≥2:=by simp at h2; omega
  rw [if_pos h2] at hK
  rw [f147_s19_eq,e2,f147_s20_eq]
  refine ⟨PuInv w0 H g c T z n a b i s (shiftUp ltInt b (i+1) d),⟨b - (i+1),i+1,d,by omega,by omega,rfl,hd,rfl,rfl,h⟩,?_⟩
  generalize shiftUp ltInt b (i+1) d=D at hK
  clear h hd
  rintro m ee w1 ⟨k,d,hik,hkb,rfl,hd,hD,rfl,h1⟩
  show f147_lb21 ..
  subst hd
  rw [shiftUp] at hD
  rw [f147_lb21_eq,BIf_iff]
  constructor
  ·intro hlt
   have hlt:k < b:=by simpa using hlt
   rw [if_pos hlt] at hD
   have ek:IntKind.wrap .i64 ((k:Int) - 1)=((k - 1:Nat):Int):=by rw [wrap_i64 (by omega) (by omega)]; omega
   rw [f147_s22_eq]
   refine less_at (i:=k) (j:=k - 1) rfl ek (by omega) (by omega) h1 (.head _) fun w2 h2=>⟨_,rfl,?_⟩
   rw [f147_s23_eq,BIf_iff]
   refine ⟨fun hb'=>?_,fun hb'=>?_⟩
   ·rw [if_pos hb'] at hD
    subst hD
    exact hK w2 h2
   ·rw [if_neg (by simp [hb'])] at hD
    rw [f147_s25_eq]
    refine swap_at (i:=k) (j:=k - 1) rfl ek (by omega) (by omega) h2 fun w3 h3=>?_
    rw [f147_s26_eq]
    refine ⟨b - (k+1),by omega,k+1,_,by omega,by omega,rfl,swp_size _ _ _,hD,?_,h3⟩
    rw [wrap_i64 (by omega) (by omega)]; rfl
  ·intro hge
   have hge:¬ k < b:=by simpa using hge
   rw [if_neg hge] at hD
   subst hD
   exact hK w1 h1
 ·have h2:¬ b - i≥2:=by simp at h2; omega
  rw [if_neg h2] at hK
  exact hK w h
def PdInv (w0:World) (H:HBL) (g c:Nat) (T:TypeId) (z:List Value) (n a b i s:Nat) (D:Array Int) (m:Nat) (ee:Env) (w:World):Prop:=
 ∃ (k:Nat) (d:Array Int),k < i∧m=k∧d.size=n∧shiftDown ltInt k d=D∧ee=Env.mk 133 [(6,(Value.bool false)),(7,(Value.int .i64 i)),(0,(Value.slice (some (Addr.mk g 0 none)) n c)),(2,(Value.int .i64 b)),(1,(Value.int .i64 a)),(8,(Value.int .i64 s)),(9,(Value.int .i64 k))] []∧St w0 w ((g,Cs (uCs d z) T)::H)
theorem pi_s12 {d:Array Int} {n a b i s:Nat} (h:St w0 w ((g,Cs (uCs d z) T)::H)) (hd:d.size=n) (hai:a < i) (hi:i < b) (hb:b≤n) (hn:n < 1000000000000)
  (hK:∀ w',St w0 w' ((g,Cs (uCs (if i - a≥2 then shiftDown ltInt (i - 1) d else d) z) T)::H)→f147_s18 false i (some (Addr.mk g 0 none)) n c b a s w' K Y4) :
  f147_s12 false i (some (Addr.mk g 0 none)) n c b a s w K Y4:=by
 have e1:IntKind.wrap .i64 ((i:Int) - (a:Int))=((i - a:Nat):Int):=by rw [wrap_i64 (by omega) (by omega)]; omega
 have e2:IntKind.wrap .i64 ((i:Int) - 1)=((i - 1:Nat):Int):=by rw [wrap_i64 (by omega) (by omega)]; omega
 rw [f147_s12_eq,e1,BIf_iff]
 refine ⟨fun h2=>?_,fun h2=>?_⟩
 ·have h2:i - a≥2:=by simp at h2; omega
  rw [if_pos h2] at hK
  rw [f147_s13_eq,e2,f147_s14_eq]
  refine ⟨PdInv w0 H g c T z n a b i s (shiftDown ltInt (i - 1) d),⟨i - 1,i - 1,d,by omega,rfl,hd,rfl,rfl,h⟩,?_⟩
  generalize shiftDown ltInt (i - 1) d=D at hK
  clear h hd
  rintro k ee w1 ⟨_,d,hki,rfl,hd,hD,rfl,h1⟩
  show f147_lb15 ..
  subst hd
  rw [f147_lb15_eq,BIf_iff]
  constructor
  ·intro hge
   obtain ⟨q,rfl⟩:∃ q,k=q+1:=⟨k - 1,by simp at hge; omega⟩
   have ek:IntKind.wrap .i64 (((q+1:Nat):Int) - 1)=(q:Int):=by rw [wrap_i64 (by omega) (by omega)]; omega
   unfold shiftDown at hD
   rw [f147_s16_eq]
   refine less_at (i:=q+1) (j:=q) rfl ek (by omega) (by omega) h1 (.head _) fun w2 h2=>⟨_,rfl,?_⟩
   rw [f147_s17_eq,BIf_iff]
   refine ⟨fun hb'=>?_,fun hb'=>?_⟩
   ·rw [if_pos hb'] at hD
    subst hD
    exact hK w2 h2
   ·rw [if_neg (by simp [hb'])] at hD
    rw [f147_s27_eq]
    refine swap_at (i:=q+1) (j:=q) rfl ek (by omega) (by omega) h2 fun w3 h3=>?_
    rw [f147_s28_eq,ek]
    exact ⟨q,by omega,q,_,by omega,rfl,swp_size _ _ _,hD,rfl,h3⟩
  ·intro hlt
   have:k=0:=by simp at hlt; omega
   subst this
   have hD:d=D:=hD
   subst hD
   exact hK w1 h1
 ·have h2:¬ i - a≥2:=by simp at h2; omega
  rw [if_neg h2] at hK
  exact hK w h
def PsInv (w0:World) (X:HBL) (g c:Nat) (d:Array Int) (a b s I:Nat) (m:Nat) (ee:Env) (w:World):Prop:=
 ∃ i:Nat,a < i∧i≤b∧m=b - i∧scanSorted ltInt d b i=I∧ee=Env.mk 133 [(7,(Value.int .i64 i)),(6,(Value.bool false)),(0,(Value.slice (some (Addr.mk g 0 none)) d.size c)),(2,(Value.int .i64 b)),(1,(Value.int .i64 a)),(8,(Value.int .i64 s))] []∧St w0 w X
def PiInv (w0:World) (H:HBL) (g c:Nat) (T:TypeId) (z:List Value) (n a b:Nat) (R:Array Int × Bool) (m:Nat) (ee:Env) (w:World):Prop:=
 ∃ (i:Nat) (d:Array Int),a < i∧i≤b∧m≤5∧d.size=n∧partialIns ltInt a b m i d=R∧ee=Env.mk 133 [(7,(Value.int .i64 i)),(6,(Value.bool false)),(8,(Value.int .i64 ((5 - m:Nat):Int))),(0,(Value.slice (some (Addr.mk g 0 none)) n c)),(2,(Value.int .i64 b)),(1,(Value.int .i64 a))] []∧St w0 w ((g,Cs (uCs d z) T)::H)
theorem partial_ok {d:Array Int} {a b:Nat} (h:St w0 w ((g,Cs (uCs d z) T)::H)) (hab:a < b) (hb:b≤d.size) (hn:d.size < 1000000000000)
  (hK:∀ w',St w0 w' ((g,Cs (uCs (partialInsertionSort ltInt d a b).1 z) T)::H)→K (.bool (partialInsertionSort ltInt d a b).2) w') :
  CallL P 147 [.slice (some (Addr.mk g 0 none)) d.size c,.int .i64 a,.int .i64 b] w K:=by
 refine f147_ok _ _ _ _ _ _ _ ?_
 have ei:IntKind.wrap .i64 ((a:Int)+1)=((a+1:Nat):Int):=by rw [wrap_i64 (by omega) (by omega)]; omega
 rw [f147_eq,f147_s0_eq,f147_s1_eq,ei,f147_s2_eq,f147_s3_eq]
 unfold partialInsertionSort at hK
 refine ⟨PiInv w0 H g c T z d.size a b (partialIns ltInt a b 5 (a+1) d),⟨5,a+1,d,by omega,by omega,by omega,rfl,rfl,rfl,h⟩,?_⟩
 generalize hnn:d.size=n at hb hn
 generalize partialIns ltInt a b 5 (a+1) d=R at hK
 clear h hnn d
 rintro m ee w1 ⟨i,d,hai,hib,hm5,hd,hR,rfl,h1⟩
 show f147_lb4 ..
 subst hd
 rw [f147_lb4_eq,BIf_iff]
 constructor
 ·intro hlt
  obtain ⟨m,rfl⟩:∃ q,m=q+1:=⟨m - 1,by simp at hlt; omega⟩
  rw [f147_s5_eq]
  unfold partialIns at hR
  simp only at hR
  refine ⟨PsInv w0 ((g,Cs (uCs d z) T)::H) g c d a b (5 - (m+1)) (scanSorted ltInt d b i),⟨b - i,i,hai,hib,rfl,rfl,rfl,h1⟩,?_⟩
  generalize scanSorted ltInt d b i=I at hR
  clear h1
  rintro q ee w2 ⟨i2,hai2,hib2,rfl,hI,rfl,h2⟩
  show f147_lb6 ..
  rw [scanSorted] at hI
  rw [f147_lb6_eq,BIf_iff]
  have after:∀ w3,i2=I→St w0 w3 ((g,Cs (uCs d z) T)::H)→f147_s9 i2 (some (Addr.mk g 0 none)) d.size c b a ((5 - (m+1):Nat):Int) false w3 K (fun e' w'=>∃ m',m' < m+1∧PiInv w0 H g c T z d.size a b R m' e' w'):=by
   intro w3 hi h3
   subst hi
   rw [f147_s9_eq,BIf_iff]
   refine ⟨fun he=>?_,fun he=>?_⟩
   ·have he:i2=b:=by simp at he; omega
    rw [if_pos he] at hR
    subst hR
    exact hK w3 h3
   ·have he:i2≠b:=by simp at he; omega
    rw [if_neg he] at hR
    have e1:IntKind.wrap .i64 ((b:Int) - (a:Int))=((b - a:Nat):Int):=by rw [wrap_i64 (by omega) (by omega)]; omega
    rw [f147_s10_eq,e1,BIf_iff]
    refine ⟨fun h50=>?_,fun h50=>?_⟩
    ·have h50:b - a < 50:=by simp at h50; omega
     rw [if_pos h50] at hR
     subst hR
     exact hK w3 h3
    ·have h50:¬ b - a < 50:=by simp at h50; omega
     rw [if_neg h50] at hR
     have e2:IntKind.wrap .i64 ((i2:Int) - 1)=((i2 - 1:Nat):Int):=by rw [wrap_i64 (by omega) (by omega)]; omega
     rw [f147_s11_eq]
     refine swap_at (i:=i2) (j:=i2 - 1) rfl e2 (by omega) (by omega) h3 fun w4 h4=>?_
     refine pi_s12 h4 (swp_size _ _ _) hai2 (by omega) hb hn fun w5 h5=>?_
     have hsz:(if i2 - a≥2 then shiftDown ltInt (i2 - 1) (swp d i2 (i2 - 1)) else swp d i2 (i2 - 1)).size=d.size:=by
      split
      ·rw [shiftDown_size,swp_size]
      ·rw [swp_size]
     refine pi_s18 h5 hsz (by omega) hb hn fun w6 h6=>?_
     rw [f147_s24_eq]
     refine ⟨m,by omega,i2,_,hai2,hib2,by omega,?_,hR,?_,h6⟩
     ·split
      ·rw [shiftUp_size _ _ _ _ rfl,hsz]
      ·exact hsz
     ·have:IntKind.wrap .i64 (((5 - (m+1):Nat):Int)+1)=((5 - m:Nat):Int):=by rw [wrap_i64 (by omega) (by omega)]; omega
      rw [this]
  constructor
  ·intro hlt2
   have hlt2:i2 < b:=by simpa using hlt2
   have e2:IntKind.wrap .i64 ((i2:Int) - 1)=((i2 - 1:Nat):Int):=by rw [wrap_i64 (by omega) (by omega)]; omega
   refine less_at (i:=i2) (j:=i2 - 1) rfl e2 (by omega) (by omega) h2 (.head _) fun w3 h3=>⟨_,rfl,?_⟩
   rw [f147_s7_eq,BIf_iff]
   refine ⟨fun hb'=>?_,fun hb'=>?_⟩
   ·rw [if_pos (by simp [hlt2]; simpa using hb')] at hI
    rw [f147_s8_eq]
    refine ⟨b - (i2+1),by omega,i2+1,by omega,by omega,rfl,hI,?_,h3⟩
    rw [wrap_i64 (by omega) (by omega)]; rfl
   ·rw [if_neg (by rw [hb']; simp)] at hI
    exact after w3 hI h3
  ·intro hge
   have hge:¬ i2 < b:=by simpa using hge
   rw [if_neg (by simp [hge])] at hI
   rw [f147_s7_eq,BIf_false]
   exact after _ hI h2.drew
 ·intro hge
  have:m=0:=by simp at hge; omega
  subst this
  have hR:(d,false)=R:=hR
  subst hR
  rw [f147_s29_eq]
  exact hK w1 h1
end
end Go.Fx.Tryz
namespace Go.Fx.Tryz
set_option maxRecDepth 100000
open Go Go.Fx Go.Proofs
noncomputable def c106:Code:=bodyOf Tryz.f106
noncomputable def rs106:List ResultVar:=Tryz.f106.results.toList
abbrev f106_kb (K:KT):Exit→YT:=bodyK P rs106 K
def f106 (a:OA) (b c:Nat) (d e f:Int) (w:World) (K:KT):Prop:=CS P c106 none [] [] (f106_kb K) (env0 134 [(VS a b c),(VI d),(VI e),(VI f)]) w
def f106_s0 (a:OA) (b c:Nat) (d e f:Int) (w:World) (K:KT):Prop:=CS P (cA c106 1) none [] [] (f106_kb K) (Env.mk 134 [(0,(VS a b c)),(1,(VI d)),(2,(VI e)),(3,(VI f))] []) w
abbrev f106_k0 (K:KT):Exit→YT:=kseq P (cA c106 2) (cA c106 3) none [] [] (f106_kb K)
def f106_s1 (a:OA) (b c:Nat) (d e f:Int) (w:World) (K:KT):Prop:=CS P (cA c106 3) none [] [] (f106_kb K) (Env.mk 134 [(8,(VB true)),(0,(VS a b c)),(1,(VI d)),(2,(VI e)),(3,(VI f))] []) w
abbrev f106_k1 (K:KT):Exit→YT:=kseq P (cA c106 6) (cA c106 7) none [] [] (f106_kb K)
def f106_s2 (a:OA) (b c:Nat) (d e f:Int) (w:World) (K:KT):Prop:=CS P (cA c106 7) none [] [] (f106_kb K) (Env.mk 134 [(9,(VB true)),(8,(VB true)),(0,(VS a b c)),(1,(VI d)),(2,(VI e)),(3,(VI f))] []) w
abbrev f106_k2 (K:KT):Exit→YT:=kblock 0 (f106_kb K)
def f106_lp3 (K:KT) (Y3:YT) (e:Env) (w:World):Prop:=Join (fun e w=>CS P (cA c106 28) none [2,1,0,9,8,3] [] (kloop [2,1,0,9,8,3] Y3 (f106_k2 K)) e w) e w
abbrev f106_kl3 (K:KT) (Y3:YT):Exit→YT:=kloop [2,1,0,9,8,3] Y3 (f106_k2 K)
def f106_lb3 (a b:Int) (c:OA) (d f:Nat) (g h:Bool) (i:Int) (w:World) (K:KT) (Y3:YT):Prop:=SG P (cA c106 28) none [2,1,0,9,8,3] [] (f106_kl3 K Y3) (Env.mk 134 [(2,(VI a)),(1,(VI b)),(0,(VS c d f)),(9,(VB g)),(8,(VB h)),(3,(VI i))] []) w
abbrev f106_k3 (K:KT) (Y3:YT):Exit→YT:=kblock 1 (f106_kl3 K Y3)
abbrev f106_k4 (K:KT) (Y3:YT):Exit→YT:=kseq P (cA c106 112) (cA c106 113) none [2,1,0,9,8,3] [2,1,0,9,8,3] (f106_k3 K Y3)
def f106_s4 (a b:Int) (c:OA) (d f:Nat) (g h:Bool) (i j:Int) (w:World) (K:KT) (Y3:YT):Prop:=SG P (cA c106 227) none [2,1,0,9,8,3] [2,1,0,9,8,3] (f106_k3 K Y3) (Env.mk 134 [(2,(VI a)),(1,(VI b)),(0,(VS c d f)),(9,(VB g)),(8,(VB h)),(3,(VI i)),(10,(VI j))] []) w
abbrev f106_k8 (K:KT) (Y3:YT):Exit→YT:=kseq P (cA c106 454) (cA c106 455) none [2,1,0,9,8,3] [2,1,0,9,8,3] (f106_k3 K Y3)
abbrev f106_k9 (K:KT) (Y3:YT):Exit→YT:=kseq P (cA c106 908) (cA c106 909) none [2,1,0,9,8,10,3] [2,1,0,9,8,3] (f106_k8 K Y3)
def f106_s5 (a b:Int) (c:OA) (d f:Nat) (g h:Bool) (i j:Int) (w:World) (K:KT) (Y3:YT):Prop:=SG P (cA c106 455) none [2,1,0,9,8,3] [2,1,0,9,8,3] (f106_k3 K Y3) (Env.mk 134 [(2,(VI a)),(1,(VI b)),(0,(VS c d f)),(9,(VB g)),(8,(VB h)),(10,(VI i)),(3,(VI j))] []) w
abbrev f106_k11 (K:KT) (Y3:YT):Exit→YT:=kseq P (cA c106 910) (cA c106 911) none [2,1,0,9,8,3] [2,1,0,9,8,3] (f106_k3 K Y3)
abbrev f106_k12 (K:KT) (Y3:YT):Exit→YT:=kseq P (cA c106 1820) (cA c106 1821) none [2,1,0,9,8,3,10] [2,1,0,9,8,3] (f106_k11 K Y3)
def f106_s6 (a b:Int) (c:OA) (d f:Nat) (g h:Bool) (i j:Int) (w:World) (K:KT) (Y3:YT):Prop:=SG P (cA c106 911) none [2,1,0,9,8,3] [2,1,0,9,8,3] (f106_k3 K Y3) (Env.mk 134 [(2,(VI a)),(1,(VI b)),(0,(VS c d f)),(9,(VB g)),(8,(VB h)),(3,(VI i)),(10,(VI j))] []) w
abbrev f106_k14 (K:KT) (Y3:YT):Exit→YT:=kseq P (cA c106 1822) (cA c106 1823) none [2,1,0,9,8,3] [2,1,0,9,8,3] (f106_k3 K Y3)
def f106_s7 (a b:Int) (c:OA) (d f:Nat) (g h:Bool) (i j k l:Int) (w:World) (K:KT) (Y3:YT):Prop:=SG P (cA c106 3647) none [2,1,0,9,8,3] [2,1,0,9,8,3] (f106_k3 K Y3) (Env.mk 134 [(2,(VI a)),(1,(VI b)),(0,(VS c d f)),(9,(VB g)),(8,(VB h)),(3,(VI i)),(11,(VI j)),(10,(VI k)),(12,(VI l))] []) w
abbrev f106_k19 (K:KT) (Y3:YT):Exit→YT:=kseq P (cA c106 7294) (cA c106 7295) none [2,1,0,9,8,3] [2,1,0,9,8,3] (f106_k3 K Y3)
abbrev f106_k20 (K:KT) (Y3:YT):Exit→YT:=kseq P (cA c106 14588) (cA c106 14589) none [2,0,9,8,3,11,1,10] [2,1,0,9,8,3] (f106_k19 K Y3)
def f106_s8 (a:Bool) (b c:Int) (d:OA) (f g:Nat) (h i:Bool) (j k l:Int) (w:World) (K:KT) (Y3:YT):Prop:=SG P (cA c106 14589) none [2,0,9,8,3,11,1,10] [2,1,0,9,8,3] (f106_k19 K Y3) (Env.mk 134 [(68,(VB a)),(2,(VI b)),(1,(VI c)),(0,(VS d f g)),(9,(VB h)),(8,(VB i)),(3,(VI j)),(11,(VI k)),(10,(VI l))] []) w
def f106_s9 (a:Int) (b:OA) (c d:Nat) (f g:Bool) (h i j k:Int) (w:World) (K:KT) (Y3:YT):Prop:=SG P (cA c106 7295) none [2,1,0,9,8,3] [2,1,0,9,8,3] (f106_k3 K Y3) (Env.mk 134 [(2,(VI a)),(0,(VS b c d)),(9,(VB f)),(8,(VB g)),(3,(VI h)),(11,(VI i)),(1,(VI j)),(10,(VI k))] []) w
abbrev f106_k22 (K:KT) (Y3:YT):Exit→YT:=kseq P (cA c106 14590) (cA c106 14591) none [2,1,0,9,8,3] [2,1,0,9,8,3] (f106_k3 K Y3)
abbrev f106_k23 (K:KT) (Y3:YT):Exit→YT:=kseq P (cA c106 29180) (cA c106 29181) none [2,0,3,1,10,11] [2,1,0,9,8,3] (f106_k22 K Y3)
def f106_s10 (a:Bool) (b:Int) (c:OA) (d f:Nat) (g h:Bool) (i j k l:Int) (w:World) (K:KT) (Y3:YT):Prop:=SG P (cA c106 29181) none [2,0,3,1,10,11] [2,1,0,9,8,3] (f106_k22 K Y3) (Env.mk 134 [(87,(VB a)),(2,(VI b)),(0,(VS c d f)),(9,(VB g)),(8,(VB h)),(3,(VI i)),(11,(VI j)),(1,(VI k)),(10,(VI l))] []) w
def f106_s11 (a:Int) (b:OA) (c d:Nat) (f g h i:Int) (w:World) (K:KT) (Y3:YT):Prop:=SG P (cA c106 14591) none [2,1,0,9,8,3] [2,1,0,9,8,3] (f106_k3 K Y3) (Env.mk 134 [(2,(VI a)),(0,(VS b c d)),(3,(VI f)),(1,(VI g)),(10,(VI h)),(11,(VI i))] []) w
abbrev f106_k26 (K:KT) (Y3:YT):Exit→YT:=kseq P (cA c106 29182) (cA c106 29183) none [2,1,0,9,8,3] [2,1,0,9,8,3] (f106_k3 K Y3)
theorem f106_s11_eq (d:Int) (e:OA) (f g:Nat) (i h j k:Int) (w:World) (K:KT) (Y3:YT):f106_s11 d e f g i h j k w K Y3=(CallL P 150 [(Value.slice e f g),(Value.int .i64 h),(Value.int .i64 d),(Value.int .i64 k)] w (fun n m=>∃ c:Int,∃ l:Bool,n=(.tuple [(Value.int .i64 c),(Value.bool l)].toArray)∧(8:Int)≠0∧BIf (decide (((IntKind.wrap .i64 ((c:Int) - h)):Int) < (IntKind.wrap .i64 ((d:Int) - c)))) (CallL P 106 [(Value.slice e f g),(Value.int .i64 h),(Value.int .i64 c),(Value.int .i64 i)] m (fun o p=>o=(.tuple [].toArray)∧Y3 (Env.mk 134 [(2,(Value.int .i64 d)),(1,(Value.int .i64 (IntKind.wrap .i64 ((c:Int)+1)))),(0,(Value.slice e f g)),(9,(Value.bool l)),(8,(Value.bool (decide (((IntKind.wrap .i64 ((c:Int) - h)):Int)≥(IntKind.wrap .i64 ((j:Int).tdiv 8)))))),(3,(Value.int .i64 i))] []) p)) (CallL P 106 [(Value.slice e f g),(Value.int .i64 (IntKind.wrap .i64 ((c:Int)+1))),(Value.int .i64 d),(Value.int .i64 i)] m (fun q r=>q=(.tuple [].toArray)∧Y3 (Env.mk 134 [(2,(Value.int .i64 c)),(1,(Value.int .i64 h)),(0,(Value.slice e f g)),(9,(Value.bool l)),(8,(Value.bool (decide (((IntKind.wrap .i64 ((d:Int) - c)):Int)≥(IntKind.wrap .i64 ((j:Int).tdiv 8)))))),(3,(Value.int .i64 i))] []) r)))):=Eq.trans SGe (Eq.trans (CSs [2,0,3,14,1,10,15] (f106_k26 K Y3) (by kernel_rfl)) (by kernel_rfl))
theorem f106_s10_eq (i:Bool) (a:Int) (c:OA) (d e:Nat) (j k:Bool) (f g h l:Int) (w:World) (K:KT) (Y3:YT):f106_s10 i a c d e j k f g h l w K Y3=(BIf i (CallL P 149 [(Value.slice c d e),(Value.int .i64 h),(Value.int .i64 a),(Value.int .i64 g)] w (fun n o=>∃ m:Int,n=(.int .i64 m)∧Y3 (Env.mk 134 [(2,(Value.int .i64 a)),(1,(Value.int .i64 m)),(0,(Value.slice c d e)),(9,(Value.bool j)),(8,(Value.bool k)),(3,(Value.int .i64 f))] []) o)) (f106_s11 a c d e f h l g w K Y3)):=Eq.trans SGe (by kernel_rfl)
theorem f106_s9_eq (g:Int) (e:OA) (f h:Nat) (i j:Bool) (k d c l:Int) (w:World) (K:KT) (Y3:YT):f106_s9 g e f h i j k d c l w K Y3=(BIf (decide ((c:Int) > 0)) (optS e (fun p=>0≤((IntKind.wrap .i64 ((c:Int) - 1)):Int)∧((IntKind.wrap .i64 ((c:Int) - 1)):Int) < (f:Nat)∧optS e (fun q=>0≤(d:Int)∧(d:Int) < (f:Nat)∧∃ m:Int,w.drew.cell? (p.add (Int.toNat (IntKind.wrap .i64 ((c:Int) - 1)) * 1))=some (.int .u32 m)∧∃ n:Int,w.drew.cell? (q.add (Int.toNat d * 1))=some (.int .u32 n)∧CallL P 148 [(Value.int .u32 m),(Value.int .u32 n)] w.drew (fun r s=>∃ o:Bool,r=(.bool o)∧f106_s10 (!o) g e f h i j k d c l s K Y3)))) (f106_s10 false g e f h i j k d c l w.drew K Y3)):=Eq.trans SGe (Eq.trans (CSs [2,0,3,1,10,11] (f106_k22 K Y3) (by kernel_rfl)) (Eq.trans (CSs [87,2,0,9,8,3,11,1,10] (f106_k23 K Y3) (by kernel_rfl)) (by kernel_rfl)))
theorem f106_s8_eq (l:Bool) (a c:Int) (d:OA) (e f:Nat) (g h:Bool) (i j k:Int) (w:World) (K:KT) (Y3:YT):f106_s8 l a c d e f g h i j k w K Y3=(BIf l (CallL P 147 [(Value.slice d e f),(Value.int .i64 c),(Value.int .i64 a)] w (fun o m=>∃ n:Bool,o=(.bool n)∧BIf n (K (Value.tuple [].toArray) m) (f106_s9 a d e f g h i j c k m K Y3))) (f106_s9 a d e f g h i j c k w K Y3)):=Eq.trans SGe (by kernel_rfl)
theorem f106_s7_eq (e f:Int) (g:OA) (h i:Nat) (c d:Bool) (j k l m:Int) (w:World) (K:KT) (Y3:YT):f106_s7 e f g h i c d j k l m w K Y3=(BIf d (BIf c (f106_s8 ((m:Int) == 1) e f g h i c d j k l w K Y3) (f106_s8 false e f g h i c d j k l w K Y3)) (f106_s8 false e f g h i c d j k l w K Y3)):=Eq.trans SGe (Eq.trans (CSs [2,0,9,8,3,11,1,10] (f106_k19 K Y3) (by kernel_rfl)) (Eq.trans (CSs [68,2,1,0,9,8,3,11,10] (f106_k20 K Y3) (by kernel_rfl)) (by kernel_rfl)))
theorem f106_s6_eq (c d:Int) (e:OA) (f g:Nat) (h i:Bool) (j k:Int) (w:World) (K:KT) (Y3:YT):f106_s6 c d e f g h i j k w K Y3=(CallL P 145 [(Value.slice e f g),(Value.int .i64 d),(Value.int .i64 c)] w (fun o n=>∃ l:Int,∃ m:Int,o=(.tuple [(Value.int .i64 l),(Value.int .i64 m)].toArray)∧BIf ((m:Int) == 2) (CallL P 146 [(Value.slice e f g),(Value.int .i64 d),(Value.int .i64 c)] n (fun p q=>p=(.tuple [].toArray)∧f106_s7 c d e f g h i j (IntKind.wrap .i64 (((IntKind.wrap .i64 ((c:Int) - 1)):Int) - (IntKind.wrap .i64 ((l:Int) - d)))) k 1 q K Y3)) (f106_s7 c d e f g h i j l k m n K Y3))):=Eq.trans SGe (Eq.trans (CSs [2,1,0,9,8,3,10,11,12] (f106_k14 K Y3) (by kernel_rfl)) (by kernel_rfl))
theorem f106_s5_eq (c d:Int) (e:OA) (f g:Nat) (i h:Bool) (j k:Int) (w:World) (K:KT) (Y3:YT):f106_s5 c d e f g i h j k w K Y3=(BIf (!h) (CallL P 144 [(Value.slice e f g),(Value.int .i64 d),(Value.int .i64 c)] w (fun l m=>l=(.tuple [].toArray)∧f106_s6 c d e f g i h (IntKind.wrap .i64 ((k:Int) - 1)) j m K Y3)) (f106_s6 c d e f g i h k j w K Y3)):=Eq.trans SGe (Eq.trans (CSs [2,1,0,9,8,3,10] (f106_k11 K Y3) (by kernel_rfl)) (Eq.trans (CSs [35,2,1,0,9,8,10,3] (f106_k12 K Y3) (by kernel_rfl)) (by kernel_rfl)))
theorem f106_s4_eq (c d:Int) (e:OA) (f g:Nat) (i j:Bool) (h k:Int) (w:World) (K:KT) (Y3:YT):f106_s4 c d e f g i j h k w K Y3=(BIf ((h:Int) == 0) (CallL P 143 [(Value.slice e f g),(Value.int .i64 d),(Value.int .i64 c)] w (fun l m=>l=(.tuple [].toArray)∧K (Value.tuple [].toArray) m)) (f106_s5 c d e f g i j k h w K Y3)):=Eq.trans SGe (Eq.trans (CSs [2,1,0,9,8,10,3] (f106_k8 K Y3) (by kernel_rfl)) (Eq.trans (CSs [29,2,1,0,9,8,3,10] (f106_k9 K Y3) (by kernel_rfl)) (by kernel_rfl)))
theorem f106_lb3_eq (c d:Int) (e:OA) (f g:Nat) (h i:Bool) (j:Int) (w:World) (K:KT) (Y3:YT):f106_lb3 c d e f g h i j w K Y3=(BIf (decide (((IntKind.wrap .i64 ((c:Int) - d)):Int)≤12)) (CallL P 142 [(Value.slice e f g),(Value.int .i64 d),(Value.int .i64 c)] w (fun k l=>k=(.tuple [].toArray)∧K (Value.tuple [].toArray) l)) (f106_s4 c d e f g h i j (IntKind.wrap .i64 ((c:Int) - d)) w K Y3)):=Eq.trans SGe (Eq.trans (CSb 1 [2,1,0,9,8,3] (f106_k3 K Y3) (by kernel_rfl)) (Eq.trans (CSs [2,1,0,9,8,3,10] (f106_k4 K Y3) (by kernel_rfl)) (by kernel_rfl)))
theorem f106_s2_eq (a:OA) (c d:Nat) (e f g:Int) (w:World) (K:KT):f106_s2 a c d e f g w K=(LoopE (f106_lp3 K) (Env.mk 134 [(2,(Value.int .i64 f)),(1,(Value.int .i64 e)),(0,(Value.slice a c d)),(9,(Value.bool true)),(8,(Value.bool true)),(3,(Value.int .i64 g))] []) w):=Eq.trans (b:=CS P (cA c106 7) none [] [] (f106_kb K) (Env.mk 134 [(9,(VB true)),(8,(VB true)),(0,(VS a c d)),(1,(VI e)),(2,(VI f)),(3,(VI g))] []) w) (by kernel_rfl) (Eq.trans (CSb 0 [] (f106_k2 K) (by kernel_rfl)) ((CS_loop' (b:=(cA c106 28)) (X':=[]) (H:=[2,1,0,9,8,3]) (by kernel_rfl) (by kernel_rfl) (by kernel_rfl)).trans (by kernel_rfl)))
theorem f106_s1_eq (c:OA) (d e:Nat) (f g h:Int) (w:World) (K:KT):f106_s1 c d e f g h w K=(f106_s2 c d e f g h w K):=Eq.trans (b:=CS P (cA c106 3) none [] [] (f106_kb K) (Env.mk 134 [(8,(VB true)),(0,(VS c d e)),(1,(VI f)),(2,(VI g)),(3,(VI h))] []) w) (by kernel_rfl) (Eq.trans (CSs [2,1,0,9,8,3] (f106_k1 K) (by kernel_rfl)) (by kernel_rfl))
theorem f106_s0_eq (c:OA) (d e:Nat) (f g h:Int) (w:World) (K:KT):f106_s0 c d e f g h w K=(f106_s1 c d e f g h w K):=Eq.trans (b:=CS P (cA c106 1) none [] [] (f106_kb K) (Env.mk 134 [(0,(VS c d e)),(1,(VI f)),(2,(VI g)),(3,(VI h))] []) w) (by kernel_rfl) (Eq.trans (CSs [2,1,0,8,3] (f106_k0 K) (by kernel_rfl)) (by kernel_rfl))
theorem f106_eq (a:OA) (b c:Nat) (d e f:Int) (w:World) (K:KT):f106 a b c d e f w K=(f106_s0 a b c d e f w K):=by kernel_rfl
theorem f106_ok (a:OA) (b c:Nat) (d e f:Int) (w:World) (K:KT) (h:f106 a b c d e f w K):CallL P 106 [(Value.slice a b c),(Value.int .i64 d),(Value.int .i64 e),(Value.int .i64 f)] w K:=okCS c106 Tryz.func106 (by kernel_rfl) (by kernel_rfl) h
end Go.Fx.Tryz
namespace Go.Fx.Tryz
open Go Go.Fx
set_option linter.all false
open Go.Proofs
open Go.Sort (swp ltInt pdq Below rd SWO swo_ltInt insertionSort_holds heapSort_holds partialInsertionSort_holds partition_holds partitionEqual_holds reverseRange_holds breakPatterns_holds choosePivot_holds pdq_sorts Hint rd_facts round_eq round_part pdq_small pdq_heap pdq_done pdq_eq pdq_left pdq_right choosePivot breakPatterns reverseRange partialInsertionSort partition partitionEqual)
variable {w0 w:World} {H X:HBL} {K:KT}
set_option maxRecDepth 20000
section
variable {g c:Nat} {T:TypeId} {z:List Value}
def PqInv (w0:World) (H:HBL) (g c:Nat) (T:TypeId) (z:List Value) (n M:Nat) (D:Array Int) (m:Nat) (ee:Env) (w:World):Prop:=
 ∃ (a b limit:Nat) (wb wp:Bool) (d:Array Int),m=b - a∧m≤M∧a≤b∧b≤n∧limit≤100∧d.size=n∧Below ltInt a b d∧pdq ltInt d a b limit wb wp=D∧
  ee=Env.mk 134 [(2,(Value.int .i64 b)),(1,(Value.int .i64 a)),(0,(Value.slice (some (Addr.mk g 0 none)) n c)),(9,(Value.bool wp)),(8,(Value.bool wb)),(3,(Value.int .i64 limit))] []∧St w0 w ((g,Cs (uCs d z) T)::H)
theorem hint2 (h:Hint):(hintI h == 2)=decide (h=.decreasing):=by cases h <;> rfl
theorem hint1 (h:Hint):(hintI h == 1)=decide (h=.increasing):=by cases h <;> rfl
theorem pdq_s9 {N n M:Nat} {D:Array Int} {d3:Array Int} {a b lim pv:Nat} {wb wp:Bool} {m:Nat}
  (ih:∀ {w:World} {K:KT} {d:Array Int} {a b limit:Nat},b - a < N→St w0 w ((g,Cs (uCs d z) T)::H)→a≤b→b≤d.size→d.size < 1000000000000→limit≤100→Below ltInt a b d→
   (∀ w',St w0 w' ((g,Cs (uCs (pdq ltInt d a b limit true true) z) T)::H)→K (.tuple [].toArray) w')→CallL P 106 [.slice (some (Addr.mk g 0 none)) d.size c,.int .i64 a,.int .i64 b,.int .i64 limit] w K)
  (h:St w0 w ((g,Cs (uCs d3 z) T)::H)) (hd:d3.size=n) (hab:12 < b - a) (hb:b≤n) (hn:n < 1000000000000) (hlim:lim≤100) (hp:a≤pv∧pv < b) (hB:Below ltInt a b d3) (hM:b - a≤M) (hN:b - a≤N) (hm:m=b - a)
  (he:(decide (a > 0) && !ltInt d3[a - 1]! d3[pv]!)=true→pdq ltInt (partitionEqual ltInt d3 a b pv).2 (partitionEqual ltInt d3 a b pv).1 b lim wb wp=D)
  (hl:(decide (a > 0) && !ltInt d3[a - 1]! d3[pv]!)=false→(partition ltInt d3 a b pv).1 - a < b - (partition ltInt d3 a b pv).1→pdq ltInt (pdq ltInt (partition ltInt d3 a b pv).2.2 a (partition ltInt d3 a b pv).1 lim true true) ((partition ltInt d3 a b pv).1+1) b lim (decide ((partition ltInt d3 a b pv).1 - a≥(b - a) / 8)) (partition ltInt d3 a b pv).2.1=D)
  (hr:(decide (a > 0) && !ltInt d3[a - 1]! d3[pv]!)=false→¬ (partition ltInt d3 a b pv).1 - a < b - (partition ltInt d3 a b pv).1→pdq ltInt (pdq ltInt (partition ltInt d3 a b pv).2.2 ((partition ltInt d3 a b pv).1+1) b lim true true) a (partition ltInt d3 a b pv).1 lim (decide (b - (partition ltInt d3 a b pv).1≥(b - a) / 8)) (partition ltInt d3 a b pv).2.1=D) :
  f106_s9 b (some (Addr.mk g 0 none)) n c wp wb lim pv a ((b - a:Nat):Int) w K (fun e' w'=>∃ m',m' < m∧PqInv w0 H g c T z n M D m' e' w'):=by
 subst hd
 have s11:∀ w1,(decide (a > 0) && !ltInt d3[a - 1]! d3[pv]!)=false→St w0 w1 ((g,Cs (uCs d3 z) T)::H)→f106_s11 b (some (Addr.mk g 0 none)) d3.size c lim a ((b - a:Nat):Int) pv w1 K (fun e' w'=>∃ m',m' < m∧PqInv w0 H g c T z d3.size M D m' e' w'):=by
  intro w1 hc h1
  rw [f106_s11_eq]
  refine partition_ok h1 hp.1 hp.2 hb hn fun w2 h2=>⟨_,_,rfl,by omega,?_⟩
  obtain ⟨r1,r2,r3,r4,r5,r6,r7⟩:=round_part swo_ltInt (partition_holds ltInt) (d3:=d3) (d4:=(partition ltInt d3 a b pv).2.2) (mid:=(partition ltInt d3 a b pv).1) (ap:=(partition ltInt d3 a b pv).2.1) hp.1 hp.2 hb hB rfl
  have hl:=hl hc
  have hr:=hr hc
  generalize (partition ltInt d3 a b pv).1=mid at *
  generalize (partition ltInt d3 a b pv).2.1=ap at *
  generalize (partition ltInt d3 a b pv).2.2=d4 at *
  have e1:IntKind.wrap .i64 ((mid:Int) - (a:Int))=((mid - a:Nat):Int):=by rw [wrap_i64 (by omega) (by omega)]; omega
  have e2:IntKind.wrap .i64 ((b:Int) - (mid:Int))=((b - mid:Nat):Int):=by rw [wrap_i64 (by omega) (by omega)]; omega
  have e3:IntKind.wrap .i64 (((b - a:Nat):Int).tdiv 8)=(((b - a) / 8:Nat):Int):=by rw [Int.tdiv_eq_ediv_of_nonneg (by omega),wrap_i64 (by omega) (by omega)]; omega
  have e4:IntKind.wrap .i64 ((mid:Int)+1)=((mid+1:Nat):Int):=by rw [wrap_i64 (by omega) (by omega)]; omega
  rw [e1,e2,e3,e4,BIf_iff,← r3]
  refine ⟨fun hlt=>?_,fun hge=>?_⟩
  ·have hlt:mid - a < b - mid:=by simp at hlt; omega
   refine ih (by omega) h2 r1 (by omega) (by omega) hlim r4 fun w3 h3=>⟨rfl,?_⟩
   obtain ⟨q1,q2⟩:=pdq_sorts ltInt swo_ltInt d4 a mid lim true true r1 (by omega) r4
   have q3:=(r6 _ q1 q2).1
   refine ⟨b - (mid+1),by omega,mid+1,b,lim,_,_,_,rfl,by omega,by omega,by omega,hlim,q1.1,q3,hl hlt,?_,h3⟩
   have:decide (((mid - a:Nat):Int)≥(((b - a) / 8:Nat):Int))=decide (mid - a≥(b - a) / 8):=by
    rw [Bool.eq_iff_iff]; simp only [decide_eq_true_eq]; omega
   rw [this]
  ·have hge:¬ mid - a < b - mid:=by simp at hge; omega
   refine ih (by omega) h2 (by omega) (by omega) (by omega) hlim r5 fun w3 h3=>⟨rfl,?_⟩
   obtain ⟨q1,q2⟩:=pdq_sorts ltInt swo_ltInt d4 (mid+1) b lim true true (by omega) (by omega) r5
   have q3:=(r7 _ q1 q2).1
   refine ⟨mid - a,by omega,a,mid,lim,_,_,_,rfl,by omega,by omega,by omega,hlim,q1.1,q3,hr hge,?_,h3⟩
   have:decide (((b - mid:Nat):Int)≥(((b - a) / 8:Nat):Int))=decide (b - mid≥(b - a) / 8):=by
    rw [Bool.eq_iff_iff]; simp only [decide_eq_true_eq]; omega
   rw [this]
 rw [f106_s9_eq,BIf_iff]
 constructor
 ·intro ha0
  have ha0:a > 0:=by simp at ha0; omega
  have e1:IntKind.wrap .i64 ((a:Int) - 1)=((a - 1:Nat):Int):=by rw [wrap_i64 (by omega) (by omega)]; omega
  refine less_at (i:=a - 1) (j:=pv) e1 rfl (by omega) (by omega) h (.head _) fun w1 h1=>⟨_,rfl,?_⟩
  rw [f106_s10_eq,BIf_iff]
  refine ⟨fun hn'=>?_,fun hn'=>?_⟩
  ·have hc:(decide (a > 0) && !ltInt d3[a - 1]! d3[pv]!)=true:=by simp [ha0]; simpa using hn'
   have he:=he hc
   refine partitionEqual_ok h1 hp.1 hp.2 hb hn fun w2 h2=>⟨_,rfl,?_⟩
   obtain ⟨r1,r2,r3,r4,_⟩:=round_eq swo_ltInt (partitionEqual_holds (lt:=ltInt)) (d3:=d3) (d4:=(partitionEqual ltInt d3 a b pv).2) (mid:=(partitionEqual ltInt d3 a b pv).1) ha0 hp.1 hp.2 hb hB (by simpa using hn') rfl
   exact ⟨b - (partitionEqual ltInt d3 a b pv).1,by omega,_,b,lim,wb,wp,_,rfl,by omega,r2,hb,hlim,r3,r4,he,rfl,h2⟩
  ·exact s11 w1 (by rw [hn',Bool.and_false]) h1
 ·intro ha0
  have ha0:¬ a > 0:=by simp at ha0; omega
  rw [f106_s10_eq,BIf_false]
  exact s11 _ (by simp [ha0]) h.drew
theorem pdq_ok:∀ (N:Nat) {w:World} {K:KT} {d:Array Int} {a b limit:Nat},b - a < N→St w0 w ((g,Cs (uCs d z) T)::H)→a≤b→b≤d.size→d.size < 1000000000000→limit≤100→Below ltInt a b d→
  (∀ w',St w0 w' ((g,Cs (uCs (pdq ltInt d a b limit true true) z) T)::H)→K (.tuple [].toArray) w')→CallL P 106 [.slice (some (Addr.mk g 0 none)) d.size c,.int .i64 a,.int .i64 b,.int .i64 limit] w K
 | 0,_,_,_,_,_,_,hN,_,_,_,_,_,_,_=>absurd hN (Nat.not_lt_zero _)
 | N+1,w,K,d,a,b,limit,hN,h,hab,hb,hn,hlim,hB,hK=>by
  refine f106_ok _ _ _ _ _ _ _ _ ?_
  rw [f106_eq,f106_s0_eq,f106_s1_eq,f106_s2_eq]
  refine ⟨PqInv w0 H g c T z d.size (b - a) (pdq ltInt d a b limit true true),⟨b - a,a,b,limit,true,true,d,rfl,Nat.le_refl _,hab,hb,hlim,rfl,hB,rfl,rfl,h⟩,?_⟩
  generalize pdq ltInt d a b limit true true=D at hK
  have hM:b - a≤N:=by omega
  generalize b - a=M at hM
  generalize hnn:d.size=n at hb hn
  clear h hab hb hB hN hlim hnn
  rintro m ee w1 ⟨a,b,limit,wb,wp,d,hm,hmM,hab,hb,hlim,hd,hB,hD,rfl,h1⟩
  show f106_lb3 ..
  have el:IntKind.wrap .i64 ((b:Int) - (a:Int))=((b - a:Nat):Int):=by rw [wrap_i64 (by omega) (by omega)]; omega
  subst hd
  rw [f106_lb3_eq,el,BIf_iff]
  constructor
  ·intro h12
   have h12:b - a≤12:=by simp at h12; omega
   rw [pdq_small h12] at hD
   subst hD
   exact insertion_ok h1 hab hb hn fun w2 h2=>⟨rfl,hK w2 h2⟩
  ·intro h12
   have h12:¬ b - a≤12:=by simp at h12; omega
   rw [f106_s4_eq,BIf_iff]
   constructor
   ·intro h0
    have h0:limit=0:=by simp at h0; omega
    rw [pdq_heap h12 h0] at hD
    subst hD
    exact heap_ok h1 hab hb hn fun w2 h2=>⟨rfl,hK w2 h2⟩
   ·intro h0
    have h0:¬ limit=0:=by simp at h0; omega
    obtain ⟨k1,k2,k3,k4,k5,k6,k7,k8⟩:=rd_facts (lt:=ltInt) (d:=d) (a:=a) (b:=b) (limit:=limit) (wb:=wb) (wp:=wp) swo_ltInt partialInsertionSort_holds reverseRange_holds (by omega) hb hB
    have kl:(rd ltInt d a b limit wb wp).lim≤100:=Nat.le_trans Go.Sort.rd_lim_le hlim
    have t9:∀ w2,(rd ltInt d a b limit wb wp).pi.2=false→St w0 w2 ((g,Cs (uCs (rd ltInt d a b limit wb wp).pi.1 z) T)::H)→
      f106_s9 b (some (Addr.mk g 0 none)) d.size c wp wb (rd ltInt d a b limit wb wp).lim (rd ltInt d a b limit wb wp).pivot a ((b - a:Nat):Int) w2 K (fun e' w'=>∃ m',m' < m∧PqInv w0 H g c T z d.size M D m' e' w'):=by
     intro w2 hpi h2
     refine pdq_s9 (N:=N) (fun q1 q2 q3 q4 q5 q6 q7 q8=>pdq_ok N q1 q2 q3 q4 q5 q6 q7 q8) h2 k7 (by omega) hb hn kl k6 k8 (by omega) (by omega) hm (fun hc=>?_) (fun hc hlt=>?_) (fun hc hge=>?_)
     ·rw [← hD]
      have ha0:a > 0:=by simp at hc; exact hc.1
      have hnl:ltInt (rd ltInt d a b limit wb wp).pi.1[a - 1]! (rd ltInt d a b limit wb wp).pi.1[(rd ltInt d a b limit wb wp).pivot]! = false:=by simp at hc; exact hc.2
      obtain ⟨r1,r2,_⟩:=round_eq swo_ltInt (partitionEqual_holds (lt:=ltInt)) (d3:=(rd ltInt d a b limit wb wp).pi.1) (pivot:=(rd ltInt d a b limit wb wp).pivot) (d4:=(partitionEqual ltInt (rd ltInt d a b limit wb wp).pi.1 a b (rd ltInt d a b limit wb wp).pivot).2) (mid:=(partitionEqual ltInt (rd ltInt d a b limit wb wp).pi.1 a b (rd ltInt d a b limit wb wp).pivot).1) ha0 k6.1 k6.2 (by rw [k7]; exact hb) k8 hnl rfl
      exact (pdq_eq h12 h0 hpi hc ⟨r1,r2⟩).symm
     ·rw [← hD]
      obtain ⟨r1,r2,_⟩:=partition_holds ltInt swo_ltInt (rd ltInt d a b limit wb wp).pi.1 a b (rd ltInt d a b limit wb wp).pivot k6.1 k6.2 (by rw [k7]; exact hb)
      exact (pdq_left h12 h0 hpi hc ⟨r1,r2⟩ hlt).symm
     ·rw [← hD]
      obtain ⟨r1,r2,_⟩:=partition_holds ltInt swo_ltInt (rd ltInt d a b limit wb wp).pi.1 a b (rd ltInt d a b limit wb wp).pivot k6.1 k6.2 (by rw [k7]; exact hb)
      exact (pdq_right h12 h0 hpi hc ⟨r1,r2⟩ hge).symm
    have t7:∀ w2,St w0 w2 ((g,Cs (uCs (rd ltInt d a b limit wb wp).d2 z) T)::H)→
      f106_s7 b a (some (Addr.mk g 0 none)) d.size c wp wb (rd ltInt d a b limit wb wp).lim (rd ltInt d a b limit wb wp).pivot ((b - a:Nat):Int) (hintI (rd ltInt d a b limit wb wp).hint) w2 K (fun e' w'=>∃ m',m' < m∧PqInv w0 H g c T z d.size M D m' e' w'):=by
     intro w2 h2
     have no:(wb && wp && decide ((rd ltInt d a b limit wb wp).hint=.increasing))=false→f106_s8 false b a (some (Addr.mk g 0 none)) d.size c wp wb (rd ltInt d a b limit wb wp).lim (rd ltInt d a b limit wb wp).pivot ((b - a:Nat):Int) w2 K (fun e' w'=>∃ m',m' < m∧PqInv w0 H g c T z d.size M D m' e' w'):=by
      intro hc
      have hp:=Go.Sort.rd_pi_no hc
      rw [f106_s8_eq,BIf_false]
      refine t9 w2 (by rw [hp]) ?_
      rw [hp]
      exact h2
     rw [f106_s7_eq,BIf_iff]
     refine ⟨fun hwb=>?_,fun hwb=>no (by rw [hwb]; rfl)⟩
     rw [BIf_iff]
     refine ⟨fun hwp=>?_,fun hwp=>no (by rw [hwp,Bool.and_false]; rfl)⟩
     rw [hint1]
     cases hh:decide ((rd ltInt d a b limit wb wp).hint=.increasing) with
     | false=>exact no (by rw [hh,Bool.and_false])
     | true=>
      have hp:=Go.Sort.rd_pi_yes (lt:=ltInt) (d:=d) (a:=a) (b:=b) (limit:=limit) (wb:=wb) (wp:=wp) (by rw [hwb,hwp] at hh ⊢; rw [hh]; rfl)
      rw [f106_s8_eq,BIf_true,← k4]
      refine partial_ok h2 (by omega) (by omega) (by omega) fun w3 h3=>⟨_,rfl,?_⟩
      rw [BIf_iff]
      refine ⟨fun hy=>?_,fun hy=>?_⟩
      ·rw [pdq_done h12 h0 (by rw [hp]; exact hy)] at hD
       subst hD
       rw [hp] at hK
       exact hK w3 h3
      ·rw [k4]
       refine t9 w3 (by rw [hp]; exact hy) ?_
       rw [hp]
       exact h3
    have t6:∀ w2,St w0 w2 ((g,Cs (uCs (rd ltInt d a b limit wb wp).d1 z) T)::H)→
      f106_s6 b a (some (Addr.mk g 0 none)) d.size c wp wb (rd ltInt d a b limit wb wp).lim ((b - a:Nat):Int) w2 K (fun e' w'=>∃ m',m' < m∧PqInv w0 H g c T z d.size M D m' e' w'):=by
     intro w2 h2
     rw [f106_s6_eq,← k1]
     refine pivot_ok (.head _) h2 (by omega) (by omega) (by omega) fun w3 h3=>⟨_,_,rfl,?_⟩
     have hc:(rd ltInt d a b limit wb wp).c=choosePivot ltInt (rd ltInt d a b limit wb wp).d1 a b:=Go.Sort.rd_c
     rw [← hc,hint2,BIf_iff]
     refine ⟨fun hdec=>?_,fun hdec=>?_⟩
     ·have hdec:(rd ltInt d a b limit wb wp).c.2=.decreasing:=by simpa using hdec
      obtain ⟨x1,x2,x3⟩:=Go.Sort.rd_dec hdec
      refine reverse_ok h3 (by omega) (by omega) (by omega) fun w4 h4=>⟨rfl,?_⟩
      have e1:IntKind.wrap .i64 (IntKind.wrap .i64 ((b:Int) - 1) - IntKind.wrap .i64 (((rd ltInt d a b limit wb wp).c.1:Int) - (a:Int)))=((rd ltInt d a b limit wb wp).pivot:Int):=by
       rw [x2,wrap_i64 (x:=(b:Int) - 1) (by omega) (by omega),wrap_i64 (x:=((rd ltInt d a b limit wb wp).c.1:Int) - (a:Int)) (by omega) (by omega),wrap_i64 (by omega) (by omega)]
       omega
      rw [e1,k1]
      have:=t7 w4 (by rw [x1]; exact h4)
      rw [x3] at this
      exact this
     ·have hdec:(rd ltInt d a b limit wb wp).c.2≠.decreasing:=by simpa using hdec
      obtain ⟨x1,x2,x3⟩:=Go.Sort.rd_not hdec
      have:=t7 w3 (by rw [x1]; exact h3)
      rw [x2,x3] at this
      rw [k1]
      exact this
    rw [f106_s5_eq,BIf_iff]
    refine ⟨fun hwb=>?_,fun hwb=>?_⟩
    ·have hwb:wb=false:=by simpa using hwb
     subst hwb
     obtain ⟨x1,x2⟩:=Go.Sort.rd_false (lt:=ltInt) (d:=d) (a:=a) (b:=b) (limit:=limit) (wp:=wp)
     refine break_ok h1 hab hb hn fun w2 h2=>⟨rfl,?_⟩
     have e1:IntKind.wrap .i64 ((limit:Int) - 1)=((limit - 1:Nat):Int):=by rw [wrap_i64 (by omega) (by omega)]; omega
     rw [e1]
     have:=t6 w2 (by rw [x1]; exact h2)
     rw [x2] at this
     exact this
    ·have hwb:wb=true:=by simpa using hwb
     subst hwb
     obtain ⟨x1,x2⟩:=Go.Sort.rd_true (lt:=ltInt) (d:=d) (a:=a) (b:=b) (limit:=limit) (wp:=wp)
     have:=t6 w1 (by rw [x1]; exact h1)
     rw [x2] at this
     exact this
end
end Go.Fx.Tryz
namespace Go.Fx.Tryz
set_option maxRecDepth 100000
open Go Go.Fx Go.Proofs
noncomputable def c61:Code:=bodyOf Tryz.f61
noncomputable def rs61:List ResultVar:=Tryz.f61.results.toList
abbrev f61_kb (K:KT):Exit→YT:=bodyK P rs61 K
def f61 (a:OA) (b c:Nat) (w:World) (K:KT):Prop:=CS P c61 none [] [] (f61_kb K) (env0 11 [(VS a b c)]) w
theorem f61_eq (b:OA) (a c:Nat) (w:World) (K:KT):f61 b a c w K=(CallL P 107 [(Value.int .u64 (IntKind.wrap .u64 ((a:Nat):Int)))] w (fun e f=>∃ d:Int,e=(.int .i64 d)∧CallL P 106 [(Value.slice b a c),(Value.int .i64 0),(Value.int .i64 ((a:Nat):Int)),(Value.int .i64 d)] f (fun g h=>g=(.tuple [].toArray)∧K (Value.tuple [].toArray) h))):=by kernel_rfl
theorem f61_ok (a:OA) (b c:Nat) (w:World) (K:KT) (h:f61 a b c w K):CallL P 61 [(Value.slice a b c)] w K:=okCS c61 Tryz.func61 (by kernel_rfl) (by kernel_rfl) h
noncomputable def c28:Code:=bodyOf Tryz.f28
noncomputable def rs28:List ResultVar:=Tryz.f28.results.toList
abbrev f28_kb (K:KT):Exit→YT:=bodyK P rs28 K
def f28 (a:OA) (b:Int) (w:World) (K:KT):Prop:=CS P c28 none [4,5] [4,5] (f28_kb K) (env0 25 [(VP a),(Value.int .u32 b)]) w
def f28_s0 (a:Addr) (b:Int) (c:OA) (w:World) (K:KT):Prop:=SG P (cA c28 7) none [4,5] [4,5] (f28_kb K) (Env.mk 25 [(4,(VP (some a))),(1,(Value.int .u32 b)),(0,(VP c))] []) w
def f28_s1 (a b:Addr) (w:World) (K:KT):Prop:=SG P (cA c28 31) none [4,5] [4,5] (f28_kb K) (Env.mk 25 [(4,(VP (some a))),(6,(VP (some b)))] []) w
theorem f28_s1_eq (a b:Addr) (w:World) (K:KT):f28_s1 a b w K=(LdA 3 b w (fun e=>CallL P 62 [(Value.agg e)] w (fun f g=>∃ c:Array Value,f=(.agg c)∧StA 3 a c g (fun d=>LdA 3 a d (fun h=>K (Value.tuple [(Value.agg h),(Value.int .i64 0)].toArray) d))))):=by kernel_rfl
theorem f28_s0_eq (a:Addr) (b:Int) (c:OA) (w:World) (K:KT):f28_s0 a b c w K=(optS c (fun k=>∃ d:Option Nat,w.cell? (k.add 3)=some (.map d)∧∃ e:Array Value,∃ f:Bool,(∀ wq,Ext w wq→(Instr.lookup 105 (Value.map d) (Value.int .u32 b) true).run P wq=.ok (.tuple [(Value.agg e),(Value.bool f)].toArray) wq)∧NewC (zcells P 41) 41 w (fun g l=>StA 3 (Addr.mk g 0 none) e l (fun h=>BIf (!f) (∃ i:Array Value,(∀ wq,(Instr.build 41 [].toArray).run P wq=.ok (.agg i) wq)∧StA 3 a i h (fun j=>LdA 3 a j (fun m=>K (Value.tuple [(Value.agg m),(Value.int .i64 211)].toArray) j))) (f28_s1 a (Addr.mk g 0 none) h K))))):=by kernel_rfl
theorem f28_eq (a:OA) (c:Int) (w:World) (K:KT):f28 a c w K=(NewC (zcells P 41) 41 w (fun b h=>CallL P 53 [(Value.pointer a)] h (fun i d=>∃ e:Bool,i=(.bool e)∧BIf e (∃ f:Array Value,(∀ wq,(Instr.build 41 [].toArray).run P wq=.ok (.agg f) wq)∧StA 3 (Addr.mk b 0 none) f d (fun g=>LdA 3 (Addr.mk b 0 none) g (fun j=>K (Value.tuple [(Value.agg j),(Value.int .i64 5)].toArray) g))) (f28_s0 (Addr.mk b 0 none) c a d K)))):=by kernel_rfl
theorem f28_ok (a:OA) (b:Int) (w:World) (K:KT) (h:f28 a b w K):CallL P 28 [(Value.pointer a),(Value.int .u32 b)] w K:=okCS c28 Tryz.func28 (by kernel_rfl) (by kernel_rfl) h
noncomputable def c31:Code:=bodyOf Tryz.f31
noncomputable def rs31:List ResultVar:=Tryz.f31.results.toList
abbrev f31_kb (K:KT):Exit→YT:=bodyK P rs31 K
def f31 (a:OA) (w:World) (K:KT):Prop:=CS P c31 none [] [] (f31_kb K) (env0 17 [(VP a)]) w
theorem f31_eq (a:OA) (w:World) (K:KT):f31 a w K=(CallL P 53 [(Value.pointer a)] w (fun l c=>∃ e:Bool,l=(.bool e)∧BIf (!e) (optS a (fun d=>∃ b:Int,c.drew.cell? (d.add 10)=some (.int .i64 b)∧CallL P 27 [(Value.pointer a)] c.drew (fun m f=>∃ (g:OA) (h i:Nat),m=(.slice g h i)∧f.cell? (d.add 10)=some (.int .i64 b)∧CallL P 60 [(Value.pointer a),(Value.slice g h i)] f (fun n j=>∃ (o:OA) (k p:Nat),n=(.slice o k p)∧j.cell? (d.add 10)=some (.int .i64 b)∧optS a (fun q=>St1 (q.add 10) (Value.int .i64 (IntKind.wrap .i64 ((b:Int)+((k:Nat):Int)))) j (fun r=>K (Value.tuple [].toArray) r)))))) (K (Value.tuple [].toArray) c))):=by kernel_rfl
theorem f31_ok (a:OA) (w:World) (K:KT) (h:f31 a w K):CallL P 31 [(Value.pointer a)] w K:=okCS c31 Tryz.func31 (by kernel_rfl) (by kernel_rfl) h
noncomputable def c35:Code:=bodyOf Tryz.f35
noncomputable def rs35:List ResultVar:=Tryz.f35.results.toList
abbrev f35_kb (K:KT):Exit→YT:=bodyK P rs35 K
def f35 (a:OA) (w:World) (K:KT):Prop:=CS P c35 none [2] [2] (f35_kb K) (env0 74 [(VP a)]) w
def f35_s0 (a:OA) (b:Addr) (w:World) (K:KT):Prop:=SG P (cA c35 7) none [2] [2] (f35_kb K) (Env.mk 74 [(0,(VP a)),(2,(VP (some b)))] []) w
theorem f35_eq (a:OA) (w:World) (K:KT):f35 a w K=(NewC (zcells P 73) 73 w (fun b g=>CallL P 53 [(Value.pointer a)] g (fun h c=>∃ d:Bool,h=(.bool d)∧BIf d (∃ e:Array Value,(∀ wq,(Instr.build 73 [].toArray).run P wq=.ok (.agg e) wq)∧StA 9 (Addr.mk b 0 none) e c (fun f=>LdA 9 (Addr.mk b 0 none) f (fun i=>K (Value.agg i) f))) (f35_s0 a (Addr.mk b 0 none) c K)))):=by kernel_rfl
theorem f35_ok (a:OA) (w:World) (K:KT) (h:f35 a w K):CallL P 35 [(Value.pointer a)] w K:=okCS c35 Tryz.func35 (by kernel_rfl) (by kernel_rfl) h
noncomputable def c39:Code:=bodyOf Tryz.f39
noncomputable def rs39:List ResultVar:=Tryz.f39.results.toList
abbrev f39_kb (K:KT):Exit→YT:=bodyK P rs39 K
def f39 (a:OA) (w:World) (K:KT):Prop:=CS P c39 none [2] [2] (f39_kb K) (env0 8 [(VP a)]) w
def f39_s0 (a:OA) (w:World) (K:KT):Prop:=SG P (cA c39 7) none [2] [2] (f39_kb K) (Env.mk 8 [(0,(VP a))] []) w
theorem f39_eq (a:OA) (w:World) (K:KT):f39 a w K=(CallL P 53 [(Value.pointer a)] w (fun d b=>∃ c:Bool,d=(.bool c)∧BIf c (K (Value.pointer none) b) (f39_s0 a b K))):=by kernel_rfl
theorem f39_ok (a:OA) (w:World) (K:KT) (h:f39 a w K):CallL P 39 [(Value.pointer a)] w K:=okCS c39 Tryz.func39 (by kernel_rfl) (by kernel_rfl) h
noncomputable def c41:Code:=bodyOf Tryz.f41
noncomputable def rs41:List ResultVar:=Tryz.f41.results.toList
abbrev f41_kb (K:KT):Exit→YT:=bodyK P rs41 K
def f41 (a:OA) (b c:Int) (w:World) (K:KT):Prop:=CS P c41 none [6,7] [6,7] (f41_kb K) (env0 48 [(VP a),(Value.int .u32 b),(VI c)]) w
def f41_s0 (a b:Int) (c:OA) (d:Addr) (w:World) (K:KT):Prop:=SG P (cA c41 15) none [6,7] [6,7] (f41_kb K) (Env.mk 48 [(2,(VI a)),(1,(Value.int .u32 b)),(0,(VP c)),(8,(VP (some d)))] []) w
abbrev f41_k6 (K:KT):Exit→YT:=kseq P (cA c41 62) (cA c41 63) none [6,7] [6,7] (f41_kb K)
def f41_s1 (a:Bool) (b c d:Int) (f:OA) (w:World) (K:KT):Prop:=SG P (cA c41 125) none [10,2,1,0] [6,7] (f41_k6 K) (Env.mk 48 [(35,(VB a)),(10,(Value.int .u32 b)),(2,(VI c)),(1,(Value.int .u32 d)),(0,(VP f))] []) w
def f41_s2 (a b c:Int) (d:OA) (w:World) (K:KT):Prop:=SG P (cA c41 63) none [6,7] [6,7] (f41_kb K) (Env.mk 48 [(10,(Value.int .u32 a)),(2,(VI b)),(1,(Value.int .u32 c)),(0,(VP d))] []) w
theorem f41_s2_eq (a b c:Int) (d:OA) (w:World) (K:KT):f41_s2 a b c d w K=(∃ e:Array Value,(∀ wq,(Instr.build 142 [(0,(Value.int .u32 c)),(1,(Value.int .i64 b))].toArray).run P wq=.ok (.agg e) wq)∧CallL P 80 [(Value.pointer d),(Value.agg e),(Value.int .u32 a)] w (fun g h=>g=(.tuple [].toArray)∧∃ f:Array Value,(∀ wq,(Instr.build 142 [(0,(Value.int .u32 c)),(1,(Value.int .i64 b))].toArray).run P wq=.ok (.agg f) wq)∧CallL P 81 [(Value.pointer d),(Value.agg f),(Value.int .u32 a)] h (fun i j=>i=(.tuple [].toArray)∧K (Value.tuple [(Value.bool true),(Value.int .i64 0)].toArray) j))):=by kernel_rfl
theorem f41_s1_eq (a:Bool) (b c d:Int) (e:OA) (w:World) (K:KT):f41_s1 a b c d e w K=(BIf a (K (Value.tuple [(Value.bool false),(Value.int .i64 0)].toArray) w) (f41_s2 b c d e w K)):=by kernel_rfl
theorem f41_s0_eq (b c:Int) (a:OA) (d:Addr) (w:World) (K:KT):f41_s0 b c a d w K=(∃ g:Int,w.cell? (d.add 2)=some (.int .u32 g)∧CallL P 21 [(Value.pointer a),(Value.int .u32 g)] w (fun j e=>∃ f:Int,∃ h:Bool,j=(.tuple [(Value.int .u32 f),(Value.bool h)].toArray)∧BIf (!h) (f41_s1 true f b c a e K) (LdA 5 d e (fun k=>CallL P 79 [(Value.agg k)] e (fun l m=>∃ i:Bool,l=(.bool i)∧f41_s1 (!i) f b c a m K))))):=by kernel_rfl
theorem f41_eq (a:OA) (b c:Int) (w:World) (K:KT):f41 a b c w K=(CallL P 78 [(Value.pointer a),(Value.int .u32 b),(Value.int .i64 c)] w (fun h i=>∃ e:Array Value,∃ d:Int,h=(.tuple [(Value.agg e),(Value.int .i64 d)].toArray)∧NewC (zcells P 62) 62 i (fun f j=>StA 5 (Addr.mk f 0 none) e j (fun g=>BIf ((d:Int) != 0) (K (Value.tuple [(Value.bool false),(Value.int .i64 d)].toArray) g) (f41_s0 c b a (Addr.mk f 0 none) g K))))):=by kernel_rfl
theorem f41_ok (a:OA) (b c:Int) (w:World) (K:KT) (h:f41 a b c w K):CallL P 41 [(Value.pointer a),(Value.int .u32 b),(Value.int .i64 c)] w K:=okCS c41 Tryz.func41 (by kernel_rfl) (by kernel_rfl) h
noncomputable def c42:Code:=bodyOf Tryz.f42
noncomputable def rs42:List ResultVar:=Tryz.f42.results.toList
abbrev f42_kb (K:KT):Exit→YT:=bodyK P rs42 K
def f42 (a:OA) (b c:Int) (w:World) (K:KT):Prop:=CS P c42 none [6] [6] (f42_kb K) (env0 31 [(VP a),(Value.int .u32 b),(VI c)]) w
def f42_s0 (a:Addr) (b c:Int) (d:OA) (w:World) (K:KT):Prop:=SG P (cA c42 15) none [6] [6] (f42_kb K) (Env.mk 31 [(7,(VP (some a))),(2,(VI b)),(1,(Value.int .u32 c)),(0,(VP d))] []) w
theorem f42_eq (a:OA) (b c:Int) (w:World) (K:KT):f42 a b c w K=(CallL P 78 [(Value.pointer a),(Value.int .u32 b),(Value.int .i64 c)] w (fun h i=>∃ e:Array Value,∃ d:Int,h=(.tuple [(Value.agg e),(Value.int .i64 d)].toArray)∧NewC (zcells P 62) 62 i (fun f j=>StA 5 (Addr.mk f 0 none) e j (fun g=>BIf ((d:Int) != 0) (K (Value.int .i64 d) g) (f42_s0 (Addr.mk f 0 none) c b a g K))))):=by kernel_rfl
theorem f42_ok (a:OA) (b c:Int) (w:World) (K:KT) (h:f42 a b c w K):CallL P 42 [(Value.pointer a),(Value.int .u32 b),(Value.int .i64 c)] w K:=okCS c42 Tryz.func42 (by kernel_rfl) (by kernel_rfl) h
end Go.Fx.Tryz
namespace Go.Fx.Tryz
open Go Go.Fx
set_option linter.all false
open Go.Proofs
open Go.Sort (ltInt pdq bitsLen)
variable {w0 w:World} {H:HBL} {K:KT}
set_option maxRecDepth 20000
theorem lenN_ok (h:St w0 w H) {n:Nat} (hn:n < 4611686018427387904) (hK:∀ w',St w0 w' H→K (I64 (bitsLen n:Nat)) w'):CallL P 107 [.int .u64 (n:Nat)] w K:=by
 refine CallL_of (Any.bits_Len (Go.Proofs.SlLaysF0.n15.bits (P:=P) (ρ:=Tryz.sort_ren) { Tryz.sortPow with }) (n:Int) w (by omega) (by omega)) ?_
 rintro e w' ⟨rfl,rfl⟩
 refine ⟨_,rfl,?_⟩
 have:=hK w' h
 rw [Int.toNat_natCast,Go.Proofs.bitLen_eq _ (by omega)]
 exact this
theorem sortN_ok {a:Option Addr} {c:Nat} {ks:List Int} {Lo:HBL} (h:St w0 w (Lo++H)) (hS:SlO 1 24 (.slice a ks.length c) ks.length (ks.map encU) Lo) (hn:ks.length < 1000000)
  (hK:∀ w' Lo',SlO 1 24 (.slice a ks.length c) ks.length ((ks.mergeSort fun x y=>decide (x≤y)).map encU) Lo'→(New w0 Lo→New w0 Lo')→St w0 w' (Lo'++H)→K (.tuple [].toArray) w') :
  CallL P 61 [.slice a ks.length c] w K:=by
 refine f61_ok _ _ _ _ _ ?_
 rw [f61_eq]
 have e6:IntKind.wrap .u64 (ks.length:Int)=(ks.length:Int):=by
  simp only [IntKind.wrap,IntKind.bits,IntKind.signed]
  simp
  omega
 rw [e6]
 refine lenN_ok h (by omega) fun w1 h1=>⟨_,rfl,?_⟩
 have hbl:bitsLen ks.length≤62:=(Go.Sort.bitsLen_le_iff _ 62).2 (by omega)
 rcases hS.2 with ⟨e1,e2,e3⟩ | ⟨g,cap,cur,e1,rfl,h3,h4,h5,h6⟩
 ·-- no number
  have hz:ks=[]:=List.eq_nil_of_length_eq_zero e2
  subst hz
  obtain ⟨rfl,rfl⟩:a=none∧c=0:=by simpa using e1
  subst e3
  refine f106_ok _ _ _ _ _ _ _ _ ?_
  rw [f106_eq,f106_s0_eq,f106_s1_eq,f106_s2_eq]
  refine ⟨fun m ee w=>m=0∧ee=Env.mk 134 [(2,(Value.int .i64 0)),(1,(Value.int .i64 0)),(0,(Value.slice none 0 0)),(9,(Value.bool true)),(8,(Value.bool true)),(3,(Value.int .i64 (bitsLen 0:Nat)))] []∧St w0 w H,⟨0,rfl,rfl,h1⟩,?_⟩
  rintro m ee w2 ⟨rfl,rfl,h2⟩
  show f106_lb3 ..
  rw [f106_lb3_eq,show IntKind.wrap .i64 ((0:Int) - 0)=0 by decide,show decide ((0:Int)≤12)=true by decide,BIf_true]
  refine f142_ok _ _ _ _ _ _ _ ?_
  rw [f142_eq,f142_s0_eq,f142_s1_eq]
  refine ⟨fun m ee w=>m=0∧ee=Env.mk 49 [(0,(Value.slice none 0 0)),(6,(Value.int .i64 1)),(1,(Value.int .i64 0)),(2,(Value.int .i64 0))] []∧St w0 w H,⟨0,rfl,rfl,h2⟩,?_⟩
  rintro m ee w3 ⟨rfl,rfl,h3⟩
  show f142_lb2 ..
  rw [f142_lb2_eq,show decide ((1:Int) < 0)=false by decide,BIf_false]
  exact ⟨rfl,rfl,hK w3 [] (by simpa using hS) (fun hN=>hN) h3⟩
 ·obtain ⟨rfl,rfl⟩:a=some ⟨g,0,none⟩∧c=cap:=by simpa using e1
  have hcur:cur=uCs ks.toArray (cur.drop ks.length):=by
   have:cur.take (ks.length * 1)=ks.map encU:=h6
   rw [Nat.mul_one] at this
   show cur=ks.toArray.toList.map encU++cur.drop ks.length
   rw [List.toList_toArray,← this,List.take_append_drop]
  have h1:St w0 w1 ((g,Cs cur 24)::H):=h1
  generalize hz:cur.drop ks.length=z at hcur
  have hzl:z.length=c - ks.length:=by rw [← hz,List.length_drop,h5]; omega
  subst hcur
  have hsz:ks.toArray.size=ks.length:=by simp
  rw [← hsz]
  rw [← hsz] at hbl
  refine pdq_ok (a:=0) (b:=ks.toArray.size) (limit:=bitsLen ks.toArray.size) (ks.toArray.size+1) (by omega) h1 (by omega) (by omega) (by omega) (by omega) (.inl rfl) fun w2 h2=>⟨rfl,?_⟩
  have hs:(pdq ltInt ks.toArray 0 ks.toArray.size (bitsLen ks.toArray.size) true true).toList=ks.mergeSort (fun x y=>decide (x≤y)):=Go.Sort.sortInt ks
  refine hK w2 [(g,Cs (uCs (pdq ltInt ks.toArray 0 ks.toArray.size (bitsLen ks.toArray.size) true true) z) 24)] ?_ (fun hN=>by simpa [New] using hN) h2
  rw [hsz] at hs ⊢
  refine ⟨by simp,.inr ⟨g,c,_,rfl,rfl,h3,h4,?_,?_⟩⟩
  ·show (List.map encU _++z).length=_
   rw [hs,List.length_append,List.length_map,List.length_mergeSort,hzl]
   omega
  ·show (List.map encU _++z).take _=_
   rw [hs,List.take_left' (by simp)]
end Go.Fx.Tryz
namespace Go.Fx.Tryz
set_option maxRecDepth 100000
open Go Go.Fx Go.Proofs
noncomputable def c18:Code:=bodyOf Tryz.f18
noncomputable def rs18:List ResultVar:=Tryz.f18.results.toList
abbrev f18_kb (K:KT):Exit→YT:=bodyK P rs18 K
def f18 (a:OA) (b:Array Value) (w:World) (K:KT):Prop:=CS P c18 none [4,5,6] [4,5,6] (f18_kb K) (env0 173 [(VP a),(Value.agg b)]) w
def f18_s0 (a:OA) (b:Array Value) (w:World) (K:KT):Prop:=CS P (cA c18 1) none [4,5,6] [4,5,6] (f18_kb K) (Env.mk 173 [(0,(VP a)),(1,(Value.agg b))] []) w
abbrev f18_k0 (K:KT):Exit→YT:=kseq P (cA c18 2) (cA c18 3) none [4,5,6] [4,5,6] (f18_kb K)
def f18_s1 (a:Int) (b:OA) (c d:Nat) (e:Int) (f:Addr) (g:OA) (h:Array Value) (w:World) (K:KT):Prop:=CS P (cA c18 3) none [4,5,6] [4,5,6] (f18_kb K) (Env.mk 173 [(6,(VI a)),(5,(VS b c d)),(4,(Value.int .u32 e)),(3,(VP (some f))),(0,(VP g)),(1,(Value.agg h))] []) w
abbrev f18_k1 (K:KT):Exit→YT:=kseq P (cA c18 6) (cA c18 7) none [4,5,6] [4,5,6] (f18_kb K)
abbrev f18_k2 (K:KT):Exit→YT:=kseq P (cA c18 12) (cA c18 13) none [5,0,4,6,3] [4,5,6] (f18_k1 K)
def f18_s2 (a:OA) (b c:Nat) (d:OA) (f g:Int) (h:Addr) (w:World) (K:KT):Prop:=SG P (cA c18 7) none [4,5,6] [4,5,6] (f18_kb K) (Env.mk 173 [(5,(VS a b c)),(0,(VP d)),(4,(Value.int .u32 f)),(6,(VI g)),(3,(VP (some h)))] []) w
abbrev f18_k4 (K:KT):Exit→YT:=kseq P (cA c18 14) (cA c18 15) none [4,5,6] [4,5,6] (f18_kb K)
def f18_s3 (a:Int) (b:OA) (c d:Nat) (e:Int) (f:OA) (g h:Nat) (i:OA) (j k:Nat) (l:Int) (m:OA) (n o:Nat) (p:Int) (q:OA) (r s:Nat) (t:Addr) (u:OA) (v x:Nat) (y:OA) (z a0:Int) (b0:Addr) (w:World) (K:KT):Prop:=CS P (cA c18 15) none [4,5,6] [4,5,6] (f18_kb K) (Env.mk 173 [(8,(VI a)),(7,(VS b c d)),(19,(VI e)),(18,(VS f g h)),(14,(Value.tuple [(VS i j k),(VI l)].toArray)),(17,(Value.tuple [(VS m n o),(VI p)].toArray)),(16,(VS q r s)),(15,(VP (some t))),(5,(VS u v x)),(0,(VP y)),(4,(Value.int .u32 z)),(6,(VI a0)),(3,(VP (some b0)))] []) w
abbrev f18_k5 (K:KT):Exit→YT:=kseq P (cA c18 30) (cA c18 31) none [4,5,6] [4,5,6] (f18_kb K)
abbrev f18_k6 (K:KT):Exit→YT:=kseq P (cA c18 60) (cA c18 61) none [5,0,4,6,3,7] [4,5,6] (f18_k5 K)
def f18_s4 (a:OA) (b c:Nat) (d:OA) (f g:Int) (h:Addr) (i:OA) (j k:Nat) (w:World) (K:KT):Prop:=SG P (cA c18 31) none [4,5,6] [4,5,6] (f18_kb K) (Env.mk 173 [(5,(VS a b c)),(0,(VP d)),(4,(Value.int .u32 f)),(6,(VI g)),(3,(VP (some h))),(7,(VS i j k))] []) w
abbrev f18_k8 (K:KT):Exit→YT:=kseq P (cA c18 62) (cA c18 63) none [4,5,6] [4,5,6] (f18_kb K)
abbrev f18_k9 (K:KT):Exit→YT:=kseq P (cA c18 124) (cA c18 125) none [5,0,4,6,3] [4,5,6] (f18_k8 K)
def f18_s5 (a:Bool) (b:OA) (c d:Nat) (f:OA) (g h:Int) (i:Addr) (w:World) (K:KT):Prop:=SG P (cA c18 125) none [5,0,4,6,3] [4,5,6] (f18_k8 K) (Env.mk 173 [(29,(VB a)),(5,(VS b c d)),(0,(VP f)),(4,(Value.int .u32 g)),(6,(VI h)),(3,(VP (some i)))] []) w
def f18_s6 (a:OA) (b c:Nat) (d:OA) (f g:Int) (h:Addr) (w:World) (K:KT):Prop:=SG P (cA c18 63) none [4,5,6] [4,5,6] (f18_kb K) (Env.mk 173 [(5,(VS a b c)),(0,(VP d)),(4,(Value.int .u32 f)),(6,(VI g)),(3,(VP (some h)))] []) w
abbrev f18_k11 (K:KT):Exit→YT:=kseq P (cA c18 126) (cA c18 127) none [4,5,6] [4,5,6] (f18_kb K)
abbrev f18_k12 (K:KT):Exit→YT:=kseq P (cA c18 252) (cA c18 253) none [5,0,4,6,3] [4,5,6] (f18_k11 K)
def f18_s7 (a:OA) (b c:Nat) (d:OA) (f g:Int) (h:Addr) (w:World) (K:KT):Prop:=SG P (cA c18 127) none [4,5,6] [4,5,6] (f18_kb K) (Env.mk 173 [(5,(VS a b c)),(0,(VP d)),(4,(Value.int .u32 f)),(6,(VI g)),(3,(VP (some h)))] []) w
abbrev f18_k15 (K:KT):Exit→YT:=kseq P (cA c18 254) (cA c18 255) none [4,5,6] [4,5,6] (f18_kb K)
abbrev f18_k16 (K:KT):Exit→YT:=kseq P (cA c18 508) (cA c18 509) none [5,0,4,6,3] [4,5,6] (f18_k15 K)
def f18_s8 (a:Bool) (b:OA) (c d:Nat) (f:OA) (g h:Int) (i:Addr) (w:World) (K:KT):Prop:=SG P (cA c18 509) none [5,0,4,6,3] [4,5,6] (f18_k15 K) (Env.mk 173 [(53,(VB a)),(5,(VS b c d)),(0,(VP f)),(4,(Value.int .u32 g)),(6,(VI h)),(3,(VP (some i)))] []) w
def f18_s9 (a:OA) (b c:Nat) (d:OA) (f g:Int) (h:Addr) (w:World) (K:KT):Prop:=SG P (cA c18 255) none [4,5,6] [4,5,6] (f18_kb K) (Env.mk 173 [(5,(VS a b c)),(0,(VP d)),(4,(Value.int .u32 f)),(6,(VI g)),(3,(VP (some h)))] []) w
abbrev f18_k18 (K:KT):Exit→YT:=kseq P (cA c18 510) (cA c18 511) none [4,5,6] [4,5,6] (f18_kb K)
abbrev f18_k19 (K:KT):Exit→YT:=kblock 0 (f18_k18 K)
def f18_lp10 (K:KT) (Y10:YT) (e:Env) (w:World):Prop:=Join (fun e w=>CS P (cA c18 2040) none [5,0,4,6,3] [4,5,6,0,3] (kloop [5,0,4,6,3] Y10 (f18_k19 K)) e w) e w
abbrev f18_kl10 (K:KT) (Y10:YT):Exit→YT:=kloop [5,0,4,6,3] Y10 (f18_k19 K)
def f18_lb10 (a:OA) (b c:Nat) (d:OA) (f g:Int) (h:Addr) (w:World) (K:KT) (Y10:YT):Prop:=SG P (cA c18 2040) none [5,0,4,6,3] [4,5,6,0,3] (f18_kl10 K Y10) (Env.mk 173 [(5,(VS a b c)),(0,(VP d)),(4,(Value.int .u32 f)),(6,(VI g)),(3,(VP (some h)))] []) w
abbrev f18_k20 (K:KT) (Y10:YT):Exit→YT:=kseq P (cA c18 4080) (cA c18 4081) none [5,0,4,6,3] [4,5,6,0,3] (f18_kl10 K Y10)
abbrev f18_k21 (K:KT) (Y10:YT):Exit→YT:=kseq P (cA c18 8160) (cA c18 8161) none [0,4,6,3,5] [4,5,6,0,3] (f18_k20 K Y10)
def f18_s11 (a:Bool) (b:OA) (c d:Int) (f:Addr) (g:OA) (h i:Nat) (w:World) (K:KT) (Y10:YT):Prop:=SG P (cA c18 8161) none [0,4,6,3,5] [4,5,6,0,3] (f18_k20 K Y10) (Env.mk 173 [(79,(VB a)),(0,(VP b)),(4,(Value.int .u32 c)),(6,(VI d)),(3,(VP (some f))),(5,(VS g h i))] []) w
def f18_s12 (a:OA) (b c:Int) (d:Addr) (f:OA) (g h:Nat) (w:World) (K:KT) (Y10:YT):Prop:=SG P (cA c18 4081) none [5,0,4,6,3] [4,5,6,0,3] (f18_kl10 K Y10) (Env.mk 173 [(0,(VP a)),(4,(Value.int .u32 b)),(6,(VI c)),(3,(VP (some d))),(5,(VS f g h))] []) w
abbrev f18_k22 (K:KT) (Y10:YT):Exit→YT:=kblock 1 (f18_kl10 K Y10)
abbrev f18_k23 (K:KT) (Y10:YT):Exit→YT:=kseq P (cA c18 16324) (cA c18 16325) none [5,0,4,6,3] [4,5,6,0,3] (f18_k22 K Y10)
def f18_s13 (a:OA) (b c:Int) (d:Addr) (f:OA) (g h:Nat) (w:World) (K:KT) (Y10:YT):Prop:=SG P (cA c18 16325) none [5,0,4,6,3] [4,5,6,0,3] (f18_k22 K Y10) (Env.mk 173 [(0,(VP a)),(4,(Value.int .u32 b)),(6,(VI c)),(3,(VP (some d))),(5,(VS f g h))] []) w
abbrev f18_k24 (K:KT) (Y10:YT):Exit→YT:=kseq P (cA c18 32650) (cA c18 32651) none [5,0,4,6,3] [4,5,6,0,3] (f18_k22 K Y10)
def f18_s14 (a:OA) (b c:Int) (d:Addr) (f:OA) (g h:Nat) (i:OA) (j k:Nat) (w:World) (K:KT) (Y10:YT):Prop:=SG P (cA c18 32651) none [5,0,4,6,3] [4,5,6,0,3] (f18_k22 K Y10) (Env.mk 173 [(0,(VP a)),(4,(Value.int .u32 b)),(6,(VI c)),(3,(VP (some d))),(11,(VS f g h)),(5,(VS i j k))] []) w
abbrev f18_k25 (K:KT) (Y10:YT):Exit→YT:=kseq P (cA c18 65302) (cA c18 65303) none [5,0,4,6,3] [4,5,6,0,3] (f18_k22 K Y10)
theorem f18_s14_eq (c:OA) (e f:Int) (g:Addr) (h:OA) (d i:Nat) (j:OA) (k l:Nat) (w:World) (K:KT) (Y10:YT):f18_s14 c e f g h d i j k l w K Y10=(optS c (fun r=>∃ m:Int,w.cell? (r.add 9)=some (.int .i64 m)∧optS c (fun s=>St1 (s.add 9) (Value.int .i64 (IntKind.wrap .i64 ((m:Int)+((d:Nat):Int)))) w (fun t=>∃ (n:OA) (o p:Nat),∃ q:World,(Builtin.append_ #[22,22] 22 [(Value.slice j k l),(Value.slice h d i)].toArray).run P t=.ok (.slice n o p) q∧Y10 (Env.mk 173 [(5,(Value.slice n o p)),(0,(Value.pointer c)),(4,(Value.int .u32 e)),(6,(Value.int .i64 f)),(3,(Value.pointer (some g)))] []) q)))):=Eq.trans SGe (Eq.trans (CSs [0,4,6,3,11,5] (f18_k25 K Y10) (by kernel_rfl)) (by kernel_rfl))
theorem f18_s13_eq (c:OA) (d e:Int) (f:Addr) (g:OA) (h i:Nat) (w:World) (K:KT) (Y10:YT):f18_s13 c d e f g h i w K Y10=(optS c (fun s=>optS c (fun t=>∃ (k:OA) (l u:Nat),w.drew.cell? (s.add 4)=some (.slice k l u)∧∃ j:Int,w.drew.cell? (t.add 7)=some (.int .i64 j)∧optS k (fun v=>0≤(j:Int)∧(j:Int) < (l:Nat)∧∃ (m:OA) (n o:Nat),w.drew.cell? (v.add (Int.toNat j * 1))=some (.slice m n o)∧CallL P 60 [(Value.pointer c),(Value.slice m n o)] w.drew (fun x y=>∃ (p:OA) (q r:Nat),x=(.slice p q r)∧f18_s14 c d e f p q r g h i y K Y10))))):=Eq.trans SGe (Eq.trans (CSs [0,4,6,3,11,5] (f18_k24 K Y10) (by kernel_rfl)) (by kernel_rfl))
theorem f18_s12_eq (c:OA) (d e:Int) (f:Addr) (g:OA) (h i:Nat) (w:World) (K:KT) (Y10:YT):f18_s12 c d e f g h i w K Y10=(optS c (fun l=>optS c (fun m=>∃ k:Int,w.drew.cell? (l.add 7)=some (.int .i64 k)∧∃ j:Int,w.drew.cell? m=some (.int .i64 j)∧(j:Int)≠0∧optS c (fun n=>St1 (n.add 7) (Value.int .i64 (((IntKind.wrap .i64 ((k:Int)+1)):Int).tmod j)) w.drew (fun o=>f18_s13 c d e f g h i o K Y10))))):=Eq.trans SGe (Eq.trans (CSb 1 [4,5,6,0,3] (f18_k22 K Y10) (by kernel_rfl)) (Eq.trans (CSs [0,4,6,3,5] (f18_k23 K Y10) (by kernel_rfl)) (by kernel_rfl)))
def f18_s15 (a:OA) (b c:Nat) (d:OA) (f:Addr) (w:World) (K:KT):Prop:=SG P (cA c18 511) none [4,5,6] [4,5,6] (f18_kb K) (Env.mk 173 [(5,(VS a b c)),(0,(VP d)),(3,(VP (some f)))] []) w
abbrev f18_k26 (K:KT):Exit→YT:=kseq P (cA c18 1022) (cA c18 1023) none [4,5,6] [4,5,6] (f18_kb K)
def f18_s16 (a:OA) (b c:Nat) (d:OA) (w:World) (K:KT):Prop:=SG P (cA c18 4095) none [4,5,6] [4,5,6] (f18_kb K) (Env.mk 173 [(5,(VS a b c)),(0,(VP d))] []) w
abbrev f18_k29 (K:KT):Exit→YT:=kseq P (cA c18 8190) (cA c18 8191) none [4,5,6] [4,5,6] (f18_kb K)
def f18_s17 (a:OA) (b c:Nat) (d:OA) (w:World) (K:KT):Prop:=SG P (cA c18 8191) none [4,5,6] [4,5,6] (f18_kb K) (Env.mk 173 [(5,(VS a b c)),(0,(VP d))] []) w
abbrev f18_k30 (K:KT):Exit→YT:=kseq P (cA c18 16382) (cA c18 16383) none [4,5,6] [4,5,6] (f18_kb K)
theorem f18_s17_eq (d:OA) (e f:Nat) (c:OA) (w:World) (K:KT):f18_s17 d e f c w K=(optS c (fun j=>∃ g:Int,w.cell? (j.add 8)=some (.int .u32 g)∧CallL P 63 [(Value.pointer c),(Value.int .u32 g)] w (fun k h=>k=(.tuple [].toArray)∧optS c (fun l=>∃ i:Int,h.cell? (l.add 8)=some (.int .u32 i)∧K (Value.tuple [(Value.int .u32 i),(Value.slice d e f),(Value.int .i64 0)].toArray) h)))):=Eq.trans SGe (Eq.trans (CSs [5,0] (f18_k30 K) (by kernel_rfl)) (by kernel_rfl))
theorem f18_s16_eq (g:OA) (h i:Nat) (c:OA) (w:World) (K:KT):f18_s16 g h i c w K=(optS c (fun m=>optS c (fun n=>optS c (fun x=>optS c (fun y=>optS c (fun e0=>∃ (j:OA) (k o:Nat),w.drew.cell? (m.add 4)=some (.slice j k o)∧∃ d:Int,w.drew.cell? (n.add 7)=some (.int .i64 d)∧∃ (p:OA) (q z:Nat),w.drew.cell? (x.add 4)=some (.slice p q z)∧∃ e:Int,w.drew.cell? (y.add 7)=some (.int .i64 e)∧optS p (fun a0=>0≤(e:Int)∧(e:Int) < (q:Nat)∧∃ (r:OA) (s t:Nat),w.drew.cell? (a0.add (Int.toNat e * 1))=some (.slice r s t)∧∃ u:Int,w.drew.cell? (e0.add 8)=some (.int .u32 u)∧sizesAre 1 [(Value.int .u32 u)]∧NewC (([(Value.int .u32 u)].map fun (v:Value)=>v.cells.toList).flatten.toArray) 24 w.drew (fun f0 f=>f.cell? (a0.add (Int.toNat e * 1))=some (.slice r s t)∧f.cell? (y.add 7)=some (.int .i64 e)∧f.cell? (x.add 4)=some (.slice p q z)∧f.cell? (n.add 7)=some (.int .i64 d)∧f.cell? (m.add 4)=some (.slice j k o)∧∃ (b0:OA) (c0 d0:Nat),∃ l:World,(Builtin.append_ #[22,22] 22 [(Value.slice r s t),(Value.slice (some (Addr.mk f0 0 none)) 1 1)].toArray).run P f=.ok (.slice b0 c0 d0) l∧l.cell? (n.add 7)=some (.int .i64 d)∧l.cell? (m.add 4)=some (.slice j k o)∧optS j (fun g0=>0≤(d:Int)∧(d:Int) < (k:Nat)∧St1 (g0.add (Int.toNat d * 1)) (Value.slice b0 c0 d0) l (fun h0=>f18_s17 g h i c h0 K)))))))))):=Eq.trans SGe (Eq.trans (CSs [5,0] (f18_k29 K) (by kernel_rfl)) (by kernel_rfl))
theorem f18_s15_eq (d:OA) (e f:Nat) (c:OA) (g:Addr) (w:World) (K:KT):f18_s15 d e f c g w K=(CallL P 61 [(Value.slice d e f)] w (fun r l=>r=(.tuple [].toArray)∧optS c (fun s=>∃ m:Int,l.cell? (s.add 8)=some (.int .u32 m)∧optS c (fun t=>St1 (t.add 8) (Value.int .u32 (IntKind.wrap .u32 ((m:Int)+1))) l (fun h=>optS c (fun n=>optS c (fun o=>∃ i:Option Nat,h.drew.cell? (n.add 3)=some (.map i)∧∃ j:Int,h.drew.cell? (o.add 8)=some (.int .u32 j)∧LdA 3 g h.drew (fun u=>CallL P 62 [(Value.agg u)] h.drew (fun v k=>∃ p:Array Value,v=(.agg p)∧k.cell? (o.add 8)=some (.int .u32 j)∧k.cell? (n.add 3)=some (.map i)∧∃ q:World,(Instr.mapUpdate 105 (Value.map i) (Value.int .u32 j) (Value.agg p)).run P k=.ok () q∧f18_s16 d e f c q K))))))))):=Eq.trans SGe (Eq.trans (CSs [5,0,3] (f18_k26 K) (by kernel_rfl)) (by kernel_rfl))
theorem f18_s11_eq (g:Bool) (a:OA) (h i:Int) (c:Addr) (d:OA) (e f:Nat) (w:World) (K:KT) (Y10:YT):f18_s11 g a h i c d e f w K Y10=(BIf g (f18_s12 a h i c d e f w K Y10) (f18_s15 d e f a c w K)):=Eq.trans SGe (by kernel_rfl)
theorem f18_lb10_eq (e:OA) (f g:Nat) (c:OA) (h i:Int) (d:Addr) (w:World) (K:KT) (Y10:YT):f18_lb10 e f g c h i d w K Y10=(optS c (fun u=>optS c (fun m=>∃ n:Int,w.drew.cell? (u.add 7)=some (.int .i64 n)∧∃ (o:OA) (k p:Nat),w.drew.cell? (d.add 2)=some (.slice o k p)∧∃ l:Int,w.drew.cell? (m.add 1)=some (.int .i64 l)∧CallL P 58 [(Value.pointer c),(Value.int .i64 n)] w.drew (fun v j=>∃ q:Int,v=(.int .i64 q)∧j.cell? (m.add 1)=some (.int .i64 l)∧j.cell? (d.add 2)=some (.slice o k p)∧BIf (decide (((IntKind.wrap .i64 ((q:Int)+((k:Nat):Int))):Int) > l)) (f18_s11 true c h i d e f g j K Y10) (optS c (fun x=>∃ r:Option Nat,j.cell? (x.add 3)=some (.map r)∧∃ s:Int,(∀ wq,Ext j wq→(Builtin.len_ #[105] 3 [(Value.map r)].toArray).run P wq=.ok (.int .i64 s) wq)∧CallL P 59 [(Value.pointer c)] j (fun y z=>∃ t:Int,y=(.int .i64 t)∧f18_s11 (decide ((s:Int)≥t)) c h i d e f g z K Y10))))))):=Eq.trans SGe (Eq.trans (CSs [0,4,6,3,5] (f18_k20 K Y10) (by kernel_rfl)) (Eq.trans (CSs [79,0,4,6,3,5] (f18_k21 K Y10) (by kernel_rfl)) (by kernel_rfl)))
theorem f18_s9_eq (c:OA) (d e:Nat) (f:OA) (g h:Int) (i:Addr) (w:World) (K:KT):f18_s9 c d e f g h i w K=(LoopE (f18_lp10 K) (Env.mk 173 [(5,(Value.slice c d e)),(0,(Value.pointer f)),(4,(Value.int .u32 g)),(6,(Value.int .i64 h)),(3,(Value.pointer (some i)))] []) w):=Eq.trans SGe (Eq.trans (CSs [5,0,3] (f18_k18 K) (by kernel_rfl)) (Eq.trans (CSb 0 [4,5,6,0,3] (f18_k19 K) (by kernel_rfl)) ((CS_loop' (b:=(cA c18 2040)) (X':=[4,5,6,0,3]) (H:=[5,0,4,6,3]) (by kernel_rfl) (by kernel_rfl) (by kernel_rfl)).trans (by kernel_rfl))))
theorem f18_s8_eq (a:Bool) (c:OA) (d e:Nat) (f:OA) (g h:Int) (i:Addr) (w:World) (K:KT):f18_s8 a c d e f g h i w K=(BIf a (K (Value.tuple [(Value.int .u32 0),(Value.slice none 0 0),(Value.int .i64 2)].toArray) w) (f18_s9 c d e f g h i w K)):=Eq.trans SGe (by kernel_rfl)
theorem f18_s7_eq (e:OA) (f g:Nat) (c:OA) (h i:Int) (d:Addr) (w:World) (K:KT):f18_s7 e f g c h i d w K=(optS c (fun m=>∃ (n:OA) (j o:Nat),w.drew.cell? (d.add 2)=some (.slice n j o)∧∃ k:Int,w.drew.cell? (m.add 1)=some (.int .i64 k)∧BIf (decide ((((j:Nat):Int):Int) > k)) (f18_s8 true e f g c h i d w.drew K) (optS c (fun p=>∃ l:Int,w.drew.cell? (p.add 8)=some (.int .u32 l)∧f18_s8 ((l:Int) == 2147483647) e f g c h i d w.drew K)))):=Eq.trans SGe (Eq.trans (CSs [5,0,4,6,3] (f18_k15 K) (by kernel_rfl)) (Eq.trans (CSs [53,5,0,4,6,3] (f18_k16 K) (by kernel_rfl)) (by kernel_rfl)))
theorem f18_s6_eq (e:OA) (f g:Nat) (c:OA) (h i:Int) (d:Addr) (w:World) (K:KT):f18_s6 e f g c h i d w K=(∃ j:Int,w.cell? d=some (.int .u32 j)∧CallL P 21 [(Value.pointer c),(Value.int .u32 j)] w (fun m k=>∃ n:Int,∃ l:Bool,m=(.tuple [(Value.int .u32 n),(Value.bool l)].toArray)∧BIf l (K (Value.tuple [(Value.int .u32 0),(Value.slice none 0 0),(Value.int .i64 5)].toArray) k) (f18_s7 e f g c h i d k K))):=Eq.trans SGe (Eq.trans (CSs [5,0,4,6,3] (f18_k11 K) (by kernel_rfl)) (Eq.trans (CSs [5,0,4,6,3,10] (f18_k12 K) (by kernel_rfl)) (by kernel_rfl)))
theorem f18_s5_eq (a:Bool) (c:OA) (d e:Nat) (f:OA) (g h:Int) (i:Addr) (w:World) (K:KT):f18_s5 a c d e f g h i w K=(BIf a (K (Value.tuple [(Value.int .u32 0),(Value.slice none 0 0),(Value.int .i64 1)].toArray) w) (f18_s6 c d e f g h i w K)):=Eq.trans SGe (by kernel_rfl)
theorem f18_s4_eq (d:OA) (e f:Nat) (g:OA) (h i:Int) (c:Addr) (j:OA) (k l:Nat) (w:World) (K:KT):f18_s4 d e f g h i c j k l w K=(∃ (m:OA) (n o:Nat),w.cell? (c.add 1)=some (.slice m n o)∧CallL P 55 [(Value.slice m n o)] w (fun s p=>∃ q:Bool,s=(.bool q)∧BIf (!q) (f18_s5 true d e f g h i c p K) (CallL P 56 [(Value.slice j k l),(Value.func (.func 57) #[] #[])] p (fun t u=>∃ r:Bool,t=(.bool r)∧f18_s5 r d e f g h i c u K)))):=Eq.trans SGe (Eq.trans (CSs [5,0,4,6,3] (f18_k8 K) (by kernel_rfl)) (Eq.trans (CSs [29,5,0,4,6,3] (f18_k9 K) (by kernel_rfl)) (by kernel_rfl)))
theorem f18_s3_eq (c:Int) (d:OA) (e f:Nat) (n:Int) (o:OA) (p q:Nat) (r:OA) (s t:Nat) (u:Int) (v:OA) (x y:Nat) (z:Int) (a0:OA) (b0 c0:Nat) (d0:Addr) (g:OA) (h i:Nat) (j:OA) (k l:Int) (m:Addr) (w:World) (K:KT):f18_s3 c d e f n o p q r s t u v x y z a0 b0 c0 d0 g h i j k l m w K=(BIf ((c:Int) != 0) (K (Value.tuple [(Value.int .u32 0),(Value.slice none 0 0),(Value.int .i64 170)].toArray) w) (f18_s4 g h i j k l m d e f w K)):=Eq.trans (b:=CS P (cA c18 15) none [4,5,6] [4,5,6] (f18_kb K) (Env.mk 173 [(8,(VI c)),(7,(VS d e f)),(19,(VI n)),(18,(VS o p q)),(14,(Value.tuple [(VS r s t),(VI u)].toArray)),(17,(Value.tuple [(VS v x y),(VI z)].toArray)),(16,(VS a0 b0 c0)),(15,(VP (some d0))),(5,(VS g h i)),(0,(VP j)),(4,(Value.int .u32 k)),(6,(VI l)),(3,(VP (some m)))] []) w) (by kernel_rfl) (Eq.trans (CSs [5,0,4,6,3,7] (f18_k5 K) (by kernel_rfl)) (Eq.trans (CSs [21,5,0,4,6,3,7] (f18_k6 K) (by kernel_rfl)) (by kernel_rfl)))
theorem f18_s2_eq (h:OA) (i j:Nat) (k:OA) (l m:Int) (c:Addr) (w:World) (K:KT):f18_s2 h i j k l m c w K=(∃ (n:OA) (o p:Nat),w.cell? (c.add 2)=some (.slice n o p)∧CallL P 54 [(Value.slice n o p)] w (fun q r=>∃ (d:OA) (e f:Nat),∃ g:Int,q=(.tuple [(Value.slice d e f),(Value.int .i64 g)].toArray)∧f18_s3 g d e f g d e f d e f g d e f g n o p (c.add 2) h i j k l m c r K)):=Eq.trans SGe (Eq.trans (CSs [5,0,4,6,3,7,8] (f18_k4 K) (by kernel_rfl)) (by kernel_rfl))
theorem f18_s1_eq (d:Int) (e:OA) (f g:Nat) (h:Int) (i:Addr) (c:OA) (j:Array Value) (w:World) (K:KT):f18_s1 d e f g h i c j w K=(CallL P 53 [(Value.pointer c)] w (fun m k=>∃ l:Bool,m=(.bool l)∧BIf l (K (Value.tuple [(Value.int .u32 0),(Value.slice none 0 0),(Value.int .i64 5)].toArray) k) (f18_s2 e f g c h d i k K))):=Eq.trans (b:=CS P (cA c18 3) none [4,5,6] [4,5,6] (f18_kb K) (Env.mk 173 [(6,(VI d)),(5,(VS e f g)),(4,(Value.int .u32 h)),(3,(VP (some i))),(0,(VP c)),(1,(Value.agg j))] []) w) (by kernel_rfl) (Eq.trans (CSs [5,0,4,6,3] (f18_k1 K) (by kernel_rfl)) (Eq.trans (CSs [13,5,0,4,6,3] (f18_k2 K) (by kernel_rfl)) (by kernel_rfl)))
theorem f18_s0_eq (d:OA) (c:Array Value) (w:World) (K:KT):f18_s0 d c w K=(NewC c 41 w (fun e f=>f18_s1 0 none 0 0 0 (Addr.mk e 0 none) d c f K)):=Eq.trans (b:=CS P (cA c18 1) none [4,5,6] [4,5,6] (f18_kb K) (Env.mk 173 [(0,(VP d)),(1,(Value.agg c))] []) w) (by kernel_rfl) (Eq.trans (CSs [5,0,4,6,3] (f18_k0 K) (by kernel_rfl)) (by kernel_rfl))
theorem f18_eq (a:OA) (b:Array Value) (w:World) (K:KT):f18 a b w K=(f18_s0 a b w K):=by kernel_rfl
theorem f18_ok (a:OA) (b:Array Value) (w:World) (K:KT) (h:f18 a b w K):CallL P 18 [(Value.pointer a),(Value.agg b)] w K:=okCS c18 Tryz.func18 (by kernel_rfl) (by kernel_rfl) h
noncomputable def c20:Code:=bodyOf Tryz.f20
noncomputable def rs20:List ResultVar:=Tryz.f20.results.toList
abbrev f20_kb (K:KT):Exit→YT:=bodyK P rs20 K
def f20 (a:OA) (b:Array Value) (w:World) (K:KT):Prop:=CS P c20 none [4] [4] (f20_kb K) (env0 41 [(VP a),(Value.agg b)]) w
def f20_s0 (a:Addr) (b:OA) (c d:Nat) (f:OA) (w:World) (K:KT):Prop:=SG P (cA c20 7) none [4] [4] (f20_kb K) (Env.mk 41 [(3,(VP (some a))),(4,(VS b c d)),(0,(VP f))] []) w
abbrev f20_k5 (K:KT):Exit→YT:=kseq P (cA c20 30) (cA c20 31) none [4] [4] (f20_kb K)
abbrev f20_k7 (K:KT):Exit→YT:=kblock 0 (f20_k5 K)
def f20_lp1 (K:KT) (Y1:YT) (e:Env) (w:World):Prop:=Join (fun e w=>CS P (cA c20 244) none [5,3,14,4,0] [4,0,5] (kloop [5,3,14,4,0] Y1 (f20_k7 K)) e w) e w
abbrev f20_kl1 (K:KT) (Y1:YT):Exit→YT:=kloop [5,3,14,4,0] Y1 (f20_k7 K)
def f20_lb1 (a:OA) (b c:Nat) (d f:Addr) (g:OA) (h i:Nat) (j:OA) (w:World) (K:KT) (Y1:YT):Prop:=SG P (cA c20 244) none [5,3,14,4,0] [4,0,5] (f20_kl1 K Y1) (Env.mk 41 [(5,(VS a b c)),(3,(VP (some d))),(14,(VP (some f))),(4,(VS g h i)),(0,(VP j))] []) w
def f20_s2 (a b:OA) (c d:Nat) (w:World) (K:KT):Prop:=SG P (cA c20 31) none [4] [4] (f20_kb K) (Env.mk 41 [(0,(VP a)),(5,(VS b c d))] []) w
theorem f20_s2_eq (a c:OA) (d e:Nat) (w:World) (K:KT):f20_s2 a c d e w K=(CallL P 60 [(Value.pointer a),(Value.slice c d e)] w (fun j f=>∃ (g:OA) (b h:Nat),j=(.slice g b h)∧optS a (fun k=>∃ i:Int,f.cell? (k.add 10)=some (.int .i64 i)∧optS a (fun l=>St1 (l.add 10) (Value.int .i64 (IntKind.wrap .i64 ((i:Int)+((b:Nat):Int)))) f (fun m=>K (Value.slice g b h) m))))):=by kernel_rfl
def f20_s3 (a b:Addr) (c:OA) (d f:Nat) (g h:OA) (i j:Nat) (w:World) (K:KT) (Y1:YT):Prop:=SG P (cA c20 979) none [5,3,14,4,0] [4,0,5] (f20_kl1 K Y1) (Env.mk 41 [(3,(VP (some a))),(14,(VP (some b))),(4,(VS c d f)),(0,(VP g)),(5,(VS h i j))] []) w
theorem f20_s3_eq (a b:Addr) (c:OA) (d e:Nat) (f g:OA) (h i:Nat) (w:World) (K:KT) (Y1:YT):f20_s3 a b c d e f g h i w K Y1=(∃ (k38 k:Value) (l:World),(Instr.entry (Value.pointer (some b))).run P w=.ok (.tuple #[k38,k]) l∧∃ j:Int,k38=(.int .u32 j)∧∃ m:Array Value,k=(.agg m)∧NewC (zcells P 41) 41 l (fun n a0=>StA 3 (Addr.mk n 0 none) m a0 (fun o=>∃ (p:OA) (q r:Nat),o.cell? ((Addr.mk n 0 none).add 1)=some (.slice p q r)∧CallL P 65 [(Value.slice p q r),(Value.func (.func 66) #[] #[(Value.pointer (some a))])] o (fun b0 s=>∃ t:Bool,b0=(.bool t)∧BIf t (sizesAre 1 [(Value.int .u32 j)]∧NewC (([(Value.int .u32 j)].map fun (v:Value)=>v.cells.toList).flatten.toArray) 24 s (fun c0 d0=>∃ (u:OA) (x y:Nat),∃ z:World,(Builtin.append_ #[22,22] 22 [(Value.slice g h i),(Value.slice (some (Addr.mk c0 0 none)) 1 1)].toArray).run P d0=.ok (.slice u x y) z∧Y1 (Env.mk 41 [(5,(Value.slice u x y)),(3,(Value.pointer (some a))),(14,(Value.pointer (some b))),(4,(Value.slice c d e)),(0,(Value.pointer f))] []) z)) (Y1 (Env.mk 41 [(5,(Value.slice g h i)),(3,(Value.pointer (some a))),(14,(Value.pointer (some b))),(4,(Value.slice c d e)),(0,(Value.pointer f))] []) s))))):=by kernel_rfl
theorem f20_lb1_eq (b:OA) (c d:Nat) (f a:Addr) (g:OA) (h i:Nat) (e:OA) (w:World) (K:KT) (Y1:YT):f20_lb1 b c d f a g h i e w K Y1=((∃ j:World,(Instr.next (Value.pointer (some a)) false 0).run P w=.ok (.tuple #[.bool false]) j∧f20_s2 e b c d j K)∨∃ (k21 l:Value) (k:World),(Instr.next (Value.pointer (some a)) false 0).run P w=.ok (.tuple #[.bool true,k21,l]) k∧f20_s3 f a g h i e b c d k K Y1):=by kernel_rfl
theorem f20_s0_eq (b:Addr) (c:OA) (d e:Nat) (a:OA) (w:World) (K:KT):f20_s0 b c d e a w K=(optS a (fun i=>∃ f:Option Nat,w.cell? (i.add 3)=some (.map f)∧∃ (g:Nat) (h:World),(Instr.range 105 (Value.map f)).run P w=.ok (.pointer (some (Addr.mk g 0 none))) h∧LoopE (f20_lp1 K) (Env.mk 41 [(5,(Value.slice none 0 0)),(3,(Value.pointer (some b))),(14,(Value.pointer (some (Addr.mk g 0 none)))),(4,(Value.slice c d e)),(0,(Value.pointer a))] []) h)):=by kernel_rfl
theorem f20_eq (a:OA) (b:Array Value) (w:World) (K:KT):f20 a b w K=(NewC b 36 w (fun e f=>CallL P 53 [(Value.pointer a)] f (fun g c=>∃ d:Bool,g=(.bool d)∧BIf d (K (Value.slice none 0 0) c) (f20_s0 (Addr.mk e 0 none) none 0 0 a c K)))):=by kernel_rfl
theorem f20_ok (a:OA) (b:Array Value) (w:World) (K:KT) (h:f20 a b w K):CallL P 20 [(Value.pointer a),(Value.agg b)] w K:=okCS c20 Tryz.func20 (by kernel_rfl) (by kernel_rfl) h
noncomputable def c21:Code:=bodyOf Tryz.f21
noncomputable def rs21:List ResultVar:=Tryz.f21.results.toList
abbrev f21_kb (K:KT):Exit→YT:=bodyK P rs21 K
def f21 (a:OA) (b:Int) (w:World) (K:KT):Prop:=CS P c21 none [4,5] [4,5] (f21_kb K) (env0 19 [(VP a),(Value.int .u32 b)]) w
def f21_s0 (a:Int) (b:OA) (w:World) (K:KT):Prop:=SG P (cA c21 7) none [4,5] [4,5] (f21_kb K) (Env.mk 19 [(1,(Value.int .u32 a)),(0,(VP b))] []) w
theorem f21_s0_eq (b:Int) (c:OA) (w:World) (K:KT):f21_s0 b c w K=(CallL P 68 [(Value.pointer c),(Value.int .u32 b)] w (fun d e=>∃ a:Int,∃ f:Int,d=(.tuple [(Value.int .u32 a),(Value.int .i64 f)].toArray)∧K (Value.tuple [(Value.int .u32 a),(Value.bool ((a:Int) != 0))].toArray) e)):=by kernel_rfl
theorem f21_eq (a:OA) (b:Int) (w:World) (K:KT):f21 a b w K=(CallL P 53 [(Value.pointer a)] w (fun e c=>∃ d:Bool,e=(.bool d)∧BIf d (K (Value.tuple [(Value.int .u32 0),(Value.bool false)].toArray) c) (f21_s0 b a c K))):=by kernel_rfl
theorem f21_ok (a:OA) (b:Int) (w:World) (K:KT) (h:f21 a b w K):CallL P 21 [(Value.pointer a),(Value.int .u32 b)] w K:=okCS c21 Tryz.func21 (by kernel_rfl) (by kernel_rfl) h
noncomputable def c22:Code:=bodyOf Tryz.f22
noncomputable def rs22:List ResultVar:=Tryz.f22.results.toList
abbrev f22_kb (K:KT):Exit→YT:=bodyK P rs22 K
def f22 (a:OA) (b:Int) (w:World) (K:KT):Prop:=CS P c22 none [4] [4] (f22_kb K) (env0 16 [(VP a),(Value.int .u32 b)]) w
def f22_s0 (a:Int) (b:OA) (w:World) (K:KT):Prop:=SG P (cA c22 7) none [4] [4] (f22_kb K) (Env.mk 16 [(1,(Value.int .u32 a)),(0,(VP b))] []) w
theorem f22_eq (a:OA) (b:Int) (w:World) (K:KT):f22 a b w K=(CallL P 53 [(Value.pointer a)] w (fun e c=>∃ d:Bool,e=(.bool d)∧BIf d (K (Value.int .i64 0) c) (f22_s0 b a c K))):=by kernel_rfl
theorem f22_ok (a:OA) (b:Int) (w:World) (K:KT) (h:f22 a b w K):CallL P 22 [(Value.pointer a),(Value.int .u32 b)] w K:=okCS c22 Tryz.func22 (by kernel_rfl) (by kernel_rfl) h
noncomputable def c23:Code:=bodyOf Tryz.f23
noncomputable def rs23:List ResultVar:=Tryz.f23.results.toList
abbrev f23_kb (K:KT):Exit→YT:=bodyK P rs23 K
def f23 (a:OA) (w:World) (K:KT):Prop:=CS P c23 none [2] [2] (f23_kb K) (env0 56 [(VP a)]) w
def f23_s0 (a:OA) (b:Addr) (w:World) (K:KT):Prop:=SG P (cA c23 7) none [2] [2] (f23_kb K) (Env.mk 56 [(0,(VP a)),(2,(VP (some b)))] []) w
def f23_s1 (a:Addr) (b:OA) (c:Addr) (w:World) (K:KT):Prop:=SG P (cA c23 15) none [2] [2] (f23_kb K) (Env.mk 56 [(3,(VP (some a))),(0,(VP b)),(2,(VP (some c)))] []) w
abbrev f23_k5 (K:KT):Exit→YT:=kseq P (cA c23 30) (cA c23 31) none [2] [2] (f23_kb K)
abbrev f23_k7 (K:KT):Exit→YT:=kblock 0 (f23_k5 K)
def f23_lp2 (K:KT) (Y2:YT) (e:Env) (w:World):Prop:=Join (fun e w=>CS P (cA c23 244) none [29,3,0,2,28] [2,3,0] (kloop [29,3,0,2,28] Y2 (f23_k7 K)) e w) e w
abbrev f23_kl2 (K:KT) (Y2:YT):Exit→YT:=kloop [29,3,0,2,28] Y2 (f23_k7 K)
def f23_lb2 (a:Int) (b:Addr) (c:OA) (d:Addr) (f:Int) (w:World) (K:KT) (Y2:YT):Prop:=SG P (cA c23 244) none [29,3,0,2,28] [2,3,0] (f23_kl2 K Y2) (Env.mk 56 [(29,(VI a)),(3,(VP (some b))),(0,(VP c)),(2,(VP (some d))),(28,(VI f))] []) w
def f23_s3 (a:Addr) (b:OA) (c:Addr) (d f:Int) (w:World) (K:KT) (Y2:YT):Prop:=SG P (cA c23 979) none [29,3,0,2,28] [2,3,0] (f23_kl2 K Y2) (Env.mk 56 [(3,(VP (some a))),(0,(VP b)),(2,(VP (some c))),(28,(VI d)),(29,(VI f))] []) w
def f23_s4 (a:Addr) (b:OA) (c:Addr) (d f:Int) (w:World) (K:KT) (Y2:YT):Prop:=SG P (cA c23 1959) none [29,3,0,2,28] [2,3,0] (f23_kl2 K Y2) (Env.mk 56 [(3,(VP (some a))),(0,(VP b)),(2,(VP (some c))),(28,(VI d)),(29,(VI f))] []) w
theorem f23_s4_eq (a:Addr) (b:OA) (c:Addr) (d e:Int) (w:World) (K:KT) (Y2:YT):f23_s4 a b c d e w K Y2=(Y2 (Env.mk 56 [(29,(Value.int .i64 (IntKind.wrap .i64 ((e:Int)+1)))),(3,(Value.pointer (some a))),(0,(Value.pointer b)),(2,(Value.pointer (some c))),(28,(Value.int .i64 d))] []) w):=by kernel_rfl
theorem f23_s3_eq (a:Addr) (b:OA) (e:Addr) (f c:Int) (w:World) (K:KT) (Y2:YT):f23_s3 a b e f c w K Y2=(∃ d:Int,w.drew.cell? (a.add 1)=some (.int .i64 d)∧CallL P 58 [(Value.pointer b),(Value.int .i64 c)] w.drew (fun i g=>∃ h:Int,i=(.int .i64 h)∧g.cell? (a.add 1)=some (.int .i64 d)∧St1 (a.add 1) (Value.int .i64 (IntKind.wrap .i64 ((d:Int)+h))) g (fun j=>f23_s4 a b e f c j K Y2))):=by kernel_rfl
def f23_s5 (a b:Addr) (c:OA) (w:World) (K:KT):Prop:=SG P (cA c23 31) none [2] [2] (f23_kb K) (Env.mk 56 [(3,(VP (some a))),(2,(VP (some b))),(0,(VP c))] []) w
abbrev f23_k13 (K:KT):Exit→YT:=kseq P (cA c23 62) (cA c23 63) none [2] [2] (f23_kb K)
abbrev f23_k15 (K:KT):Exit→YT:=kblock 2 (f23_k13 K)
def f23_lp6 (K:KT) (Y6:YT) (e:Env) (w:World):Prop:=Join (fun e w=>CS P (cA c23 500) none [3,44,2] [2,3] (kloop [3,44,2] Y6 (f23_k15 K)) e w) e w
abbrev f23_kl6 (K:KT) (Y6:YT):Exit→YT:=kloop [3,44,2] Y6 (f23_k15 K)
def f23_lb6 (a b c:Addr) (w:World) (K:KT) (Y6:YT):Prop:=SG P (cA c23 500) none [3,44,2] [2,3] (f23_kl6 K Y6) (Env.mk 56 [(3,(VP (some a))),(44,(VP (some b))),(2,(VP (some c)))] []) w
def f23_s7 (a b:Addr) (w:World) (K:KT):Prop:=SG P (cA c23 63) none [2] [2] (f23_kb K) (Env.mk 56 [(2,(VP (some a))),(3,(VP (some b)))] []) w
theorem f23_s7_eq (a b:Addr) (w:World) (K:KT):f23_s7 a b w K=(LdA 5 b w (fun d=>StA 5 a d w (fun c=>LdA 5 a c (fun e=>K (Value.agg e) c)))):=by kernel_rfl
def f23_s8 (a b c:Addr) (w:World) (K:KT) (Y6:YT):Prop:=SG P (cA c23 2003) none [3,44,2] [2,3] (f23_kl6 K Y6) (Env.mk 56 [(3,(VP (some a))),(44,(VP (some b))),(2,(VP (some c)))] []) w
theorem f23_s8_eq (a c d:Addr) (w:World) (K:KT) (Y6:YT):f23_s8 a c d w K Y6=(∃ (k70 e:Value) (b:World),(Instr.entry (Value.pointer (some c))).run P w=.ok (.tuple #[k70,e]) b∧∃ f:Option Nat,e=(.map f)∧∃ g:Int,b.cell? (a.add 2)=some (.int .i64 g)∧∃ h:Int,(∀ wq,Ext b wq→(Builtin.len_ #[124] 3 [(Value.map f)].toArray).run P wq=.ok (.int .i64 h) wq)∧St1 (a.add 2) (Value.int .i64 (IntKind.wrap .i64 ((g:Int)+h))) b (fun i=>Y6 (Env.mk 56 [(3,(Value.pointer (some a))),(44,(Value.pointer (some c))),(2,(Value.pointer (some d)))] []) i)):=by kernel_rfl
theorem f23_lb6_eq (b a c:Addr) (w:World) (K:KT) (Y6:YT):f23_lb6 b a c w K Y6=((∃ d:World,(Instr.next (Value.pointer (some a)) false 0).run P w=.ok (.tuple #[.bool false]) d∧f23_s7 c b d K)∨∃ (k59 f:Value) (e:World),(Instr.next (Value.pointer (some a)) false 0).run P w=.ok (.tuple #[.bool true,k59,f]) e∧f23_s8 b a c e K Y6):=by kernel_rfl
theorem f23_s5_eq (a b:Addr) (c:OA) (w:World) (K:KT):f23_s5 a b c w K=(optS c (fun g=>∃ d:Option Nat,w.cell? (g.add 6)=some (.map d)∧∃ (e:Nat) (f:World),(Instr.range 107 (Value.map d)).run P w=.ok (.pointer (some (Addr.mk e 0 none))) f∧LoopE (f23_lp6 K) (Env.mk 56 [(3,(Value.pointer (some a))),(44,(Value.pointer (some (Addr.mk e 0 none)))),(2,(Value.pointer (some b)))] []) f)):=by kernel_rfl
theorem f23_lb2_eq (a:Int) (b:Addr) (c:OA) (d:Addr) (e:Int) (w:World) (K:KT) (Y2:YT):f23_lb2 a b c d e w K Y2=(BIf (decide ((a:Int) < e)) (f23_s3 b c d e a w K Y2) (f23_s5 b d c w K)):=by kernel_rfl
theorem f23_s1_eq (b:Addr) (a:OA) (c:Addr) (w:World) (K:KT):f23_s1 b a c w K=(optS a (fun e=>∃ (f:OA) (d g:Nat),w.cell? (e.add 4)=some (.slice f d g)∧LoopE (f23_lp2 K) (Env.mk 56 [(29,(Value.int .i64 0)),(3,(Value.pointer (some b))),(0,(Value.pointer a)),(2,(Value.pointer (some c))),(28,(Value.int .i64 ((d:Nat):Int)))] []) w)):=by kernel_rfl
theorem f23_s0_eq (a:OA) (b:Addr) (w:World) (K:KT):f23_s0 a b w K=(optS a (fun i=>optS a (fun j=>optS a (fun k=>∃ c:Option Nat,w.drew.cell? (i.add 3)=some (.map c)∧∃ d:Int,(∀ wq,Ext w.drew wq→(Builtin.len_ #[105] 3 [(Value.map c)].toArray).run P wq=.ok (.int .i64 d) wq)∧∃ e:Int,w.drew.cell? (j.add 9)=some (.int .i64 e)∧∃ f:Int,w.drew.cell? (k.add 10)=some (.int .i64 f)∧∃ g:Array Value,(∀ wq,(Instr.build 47 [(0,(Value.int .i64 d)),(3,(Value.int .i64 e)),(4,(Value.int .i64 f))].toArray).run P wq=.ok (.agg g) wq)∧NewC (zcells P 47) 47 w.drew (fun h l=>StA 5 (Addr.mk h 0 none) g l (fun m=>f23_s1 (Addr.mk h 0 none) a b m K)))))):=by kernel_rfl
theorem f23_eq (a:OA) (w:World) (K:KT):f23 a w K=(NewC (zcells P 47) 47 w (fun b g=>CallL P 53 [(Value.pointer a)] g (fun h c=>∃ d:Bool,h=(.bool d)∧BIf d (∃ e:Array Value,(∀ wq,(Instr.build 47 [].toArray).run P wq=.ok (.agg e) wq)∧StA 5 (Addr.mk b 0 none) e c (fun f=>LdA 5 (Addr.mk b 0 none) f (fun i=>K (Value.agg i) f))) (f23_s0 a (Addr.mk b 0 none) c K)))):=by kernel_rfl
theorem f23_ok (a:OA) (w:World) (K:KT) (h:f23 a w K):CallL P 23 [(Value.pointer a)] w K:=okCS c23 Tryz.func23 (by kernel_rfl) (by kernel_rfl) h
noncomputable def c27:Code:=bodyOf Tryz.f27
noncomputable def rs27:List ResultVar:=Tryz.f27.results.toList
abbrev f27_kb (K:KT):Exit→YT:=bodyK P rs27 K
def f27 (a:OA) (w:World) (K:KT):Prop:=CS P c27 none [2] [2] (f27_kb K) (env0 11 [(VP a)]) w
def f27_s0 (a:OA) (w:World) (K:KT):Prop:=SG P (cA c27 7) none [2] [2] (f27_kb K) (Env.mk 11 [(0,(VP a))] []) w
theorem f27_eq (a:OA) (w:World) (K:KT):f27 a w K=(CallL P 53 [(Value.pointer a)] w (fun d b=>∃ c:Bool,d=(.bool c)∧BIf c (K (Value.slice none 0 0) b) (f27_s0 a b K))):=by kernel_rfl
theorem f27_ok (a:OA) (w:World) (K:KT) (h:f27 a w K):CallL P 27 [(Value.pointer a)] w K:=okCS c27 Tryz.func27 (by kernel_rfl) (by kernel_rfl) h
end Go.Fx.Tryz
namespace Go.Fx.Ch
def EX.zero:EX:=⟨0,0,0,0,0⟩
def exitS (s:CState) (id slot:Int):EX × Int:=match lk s.items id with
 | none=>(EX.zero,211)
 | some _=>match (exitsS s.items id).find? fun e=>e.slot == slot with
  | none=>(EX.zero,1)
  | some x=>(x,0)
end Go.Fx.Ch
namespace Go.Fx.Tryz
open Go Go.Fx Go.Fx.Ch
open Go.Proofs
set_option linter.all false
set_option maxRecDepth 20000
variable {w0 w:World} {H G:HBL} {K:KT} {s:CState} {L:Lay} {q:LB}
theorem row_of (hL:L.Ok w0 q s) {c:Nat} (hc:c < s.rows.length):∃ sa sc,(L.rv.map (·.1))[c]?=some (.slice sa s.rows[c].length sc)∧∀ w',St w0 w' (L.bl q s++H)→Row w' 1 (.slice sa s.rows[c].length sc) s.rows[c].length (s.rows[c].map U):=by
 obtain ⟨a,v,b,e0,hal,hv,hset⟩:=hL.rows.split (List.getElem?_eq_getElem hc)
 obtain ⟨sa,sc,hsv⟩:=hv.form
 refine ⟨sa,sc,?_,fun w' h'=>?_⟩
 ·rw [e0,List.map_append,List.getElem?_append_right (by simp; omega)]
  simp [hal,hsv]
 ·rw [← hsv]
  refine hv.row fun u hu=>h'.has _ _ (List.mem_append_left _ (.tail _ (.tail _ (.tail _ (.tail _ (.tail _ (List.mem_append_left _ ?_)))))))
  rw [e0]
  simp only [List.map_append,List.map_cons,List.flatten_append,List.flatten_cons,List.mem_append]
  exact .inr (.inl hu)
def filledL (items:List (Int × TR)) (l:List Int):Int:=(l.map fun id=>((itemOf items id).code.length:Int)).sum
theorem filledL_bound {items:List (Int × TR)} (h:∀ id,(itemOf items id).code.length < 1000000):∀ l:List Int,0≤filledL items l∧filledL items l≤l.length * 1000000
 | []=>by simp [filledL]
 | x::l=>by
  obtain ⟨h1,h2⟩:=filledL_bound h l
  have:=h x
  unfold filledL at *
  simp only [List.map_cons,List.sum_cons,List.length_cons]
  omega
theorem Lay.Ok.codeLen (hL:L.Ok w0 q s) (h:St w0 w (L.bl q s++H)) (id:Int):(itemOf s.items id).code.length < 1000000:=by
 obtain ⟨v,hv,_⟩:=hL.its.look (w:=w) (h.get (k:=2) rfl) id
 obtain ⟨⟨sv,cv,_,_,hB⟩,_,_⟩:=hv
 exact hB.len
theorem filled_ok (h:St w0 w (L.bl q s++H)) (hL:L.Ok w0 q s) {c:Nat} (hc:c < s.rows.length) (hr:s.rows[c].length < 1000000000)
  (hK:∀ w',St w0 w' (L.bl q s++H)→K (J (filledS s c)) w'):CallL P 58 [.pointer (some ⟨q.cb,0,none⟩),J c] w K:=by
 refine f58_ok _ _ _ _ ?_
 rw [f58_eq]
 obtain ⟨sa,sc,hrv,hrow⟩:=row_of (H:=H) hL hc
 refine ⟨some ⟨q.rb,0,none⟩,s.rows.length,s.rows.length,by rw [add_lit']; exact h.cell (k:=1) rfl,by omega,by omega,sa,s.rows[c].length,sc,?_,?_⟩
 ·rw [add_lit',Int.toNat_natCast,Nat.mul_one,Nat.zero_add]
  rw [h.cell (k:=4) rfl]; exact hrv
 have hfs:filledS s c=filledL s.items s.rows[c]:=by unfold filledS filledL; rw [List.getElem?_eq_getElem hc]; rfl
 rw [hfs] at hK
 generalize s.rows[c]=r at *
 have hcode:=hL.codeLen h
 refine ⟨fun m e' w'=>∃ j:Nat,j≤r.length∧m=r.length - j∧e'=Env.mk 32 [(16,J j),(0,.pointer (some ⟨q.cb,0,none⟩)),(5,J (filledL s.items (r.take j))),(14,.slice sa r.length sc),(4,J 0),(15,J r.length)] []∧St w0 w' (L.bl q s++H),⟨_,0,by omega,rfl,rfl,h⟩,?_⟩
 rintro m e' w' ⟨j,hj,rfl,rfl,hs⟩
 show f58_lb0 ..
 rw [f58_lb0_eq,BIf_iff]
 refine ⟨fun hlt=>?_,fun hge=>?_⟩
 ·have hlt:j < r.length:=by have:=of_decide_eq_true hlt; omega
  rw [f58_s1_eq]
  obtain ⟨ad,cp,hac,_⟩:=(hrow w' hs).ldA hlt
  injection hac with hac _ _
  subst hac
  obtain ⟨v,hv,hlk,_⟩:=hL.its.look (w:=w') (hs.get (k:=2) rfl) r[j]
  obtain ⟨⟨sv,cv,rfl,hS,hB⟩,_,_⟩:=hv
  obtain ⟨ca,cc,rfl⟩:=((hB.bytes (w0:=w0) (H:=L.bl q s++H) fun u hu=>List.mem_append_left _ (L.G_mem q s u hu)).row w' hs).form
  refine ⟨by omega,by omega,r[j],by rw [Int.toNat_natCast]; exact row1_cell (hrow w' hs) hlt,some q.ib,by rw [add_lit']; exact hs.cell (k:=1) rfl,_,hlk,ca,(itemOf s.items r[j]).code.length,cc,rfl,?_⟩
  rw [f58_s2_eq]
  have hb:=filledL_bound hcode (r.take j)
  have hb2:=filledL_bound hcode (r.take (j+1))
  have hst:filledL s.items (r.take (j+1))=filledL s.items (r.take j)+((itemOf s.items r[j]).code.length:Nat):=by
   rw [take_succ' r hlt]
   unfold filledL
   rw [List.map_append,List.sum_append]
   show _+(_+0)=_
   rw [Int.add_zero]
  have hl1:(r.take j).length≤r.length:=by rw [List.length_take]; omega
  have hl2:(r.take (j+1)).length≤r.length:=by rw [List.length_take]; omega
  refine ⟨r.length - (j+1),by omega,j+1,by omega,rfl,?_,hs⟩
  rw [hst,wrap_i64 (x:=(j:Int)+1) (by omega) (by omega),wrap_i64 (by omega) (by omega)]; rfl
 ·have:j=r.length:=by have:=of_decide_eq_false hge; omega
  subst this
  rw [List.take_length,f58_s3_eq]
  exact hK w' hs
theorem none53 (h:St w0 w (L.bl q s++H)) (hK:K (.bool false) w):CallL P 53 [.pointer (some ⟨q.cb,0,none⟩)] w K:=by
 refine none_ok (slots:=((2 ^ s.k:Nat):Int)) (fun b hb=>by cases hb; rw [add_lit']; exact h.cell (k:=1) rfl) ?_
 have:(((2 ^ s.k:Nat):Int) == 0)=false:=by
  have:0 < 2 ^ s.k:=Nat.pow_pos (by decide)
  generalize 2 ^ s.k=x at *
  simp; omega
 rw [this]; exact hK
theorem find_ok (h:St w0 w (L.bl q s++H)) (hL:L.Ok w0 q s) (hg:Glob H) {at_:Int} (h0:0≤at_) (h1:at_ < 4294967296)
  (hK:∀ w',St w0 w' (L.bl q s++H)→K (.tuple [U (lookS s at_).1,.bool ((lookS s at_).1 != 0)].toArray) w'):CallL P 21 [.pointer (some ⟨q.cb,0,none⟩),U at_] w K:=by
 refine f21_ok _ _ _ _ ?_
 rw [f21_eq]
 refine none53 h ⟨_,rfl,?_⟩
 simp only [BIf_false]
 rw [f21_s0_eq]
 exact look_ok h (hL.known hg) (fun u hu=>List.mem_append_left _ (L.G_mem q s u hu)) h0 h1 fun w' h'=>⟨_,_,rfl,hK w' h'⟩
theorem build41 (wq:World):(Instr.build 41 ([]:List (Nat × Value)).toArray).run P wq=.ok (.agg #[U 0,.slice none 0 0,.slice none 0 0]) wq:=by kernel_rfl
theorem build62 (wq:World):(Instr.build 62 ([]:List (Nat × Value)).toArray).run P wq=.ok (.agg #[J 0,J 0,U 0,J 0,U 0]) wq:=by kernel_rfl
theorem get_ok (h:St w0 w (L.bl q s++H)) (hL:L.Ok w0 q s) {id:Int}
  (hN:lk s.items id=none→∀ w',St w0 w' (L.bl q s++H)→K (.tuple [.agg #[U 0,.slice none 0 0,.slice none 0 0],J 211].toArray) w')
  (hK:∀ t,lk s.items id=some t→∀ w' sv' cv' L1 M,SlO 2 36 sv' t.sp.length (t.sp.map Scs).flatten L1→New w0 L1→SlO 1 5 cv' t.code.length (t.code.map B) M→New w0 M→St w0 w' (M++(L1++(L.bl q s++H)))→K (.tuple [.agg (Tcs t.at_ sv' cv').toArray,J 0].toArray) w') :
  CallL P 28 [.pointer (some ⟨q.cb,0,none⟩),U id] w K:=by
 refine f28_ok _ _ _ _ ?_
 rw [f28_eq,zcells41]
 refine h.newC fun n2 w3 hn2 h3=>?_
 have h3':St w0 w3 (L.bl q s++((n2,Cs [U 0,.slice none 0 0,.slice none 0 0] 41)::H)):=h3.perm (perm_by fun c=>by simp only [List.map_append,List.map_cons,List.sum_append,List.sum_cons]; omega)
 refine none53 h3' ⟨_,rfl,?_⟩
 simp only [BIf_false]
 rw [f28_s0_eq]
 obtain ⟨v,hv,_,hlk⟩:=hL.its.look (w:=w3) (h3'.get (k:=2) rfl) id
 obtain ⟨⟨sv,cv,rfl,hS,hB⟩,_,_⟩:=hv
 have h4:St w0 w3 ((n2,Cs [U 0,.slice none 0 0,.slice none 0 0] 41)::(L.bl q s++H)):=h3
 obtain ⟨sa,sc,e1⟩:=((hS.spans (w0:=w0) (H:=L.bl q s++H) fun u hu=>List.mem_append_left _ (L.G_mem q s u hu)).row w h).form
 obtain ⟨ca,cc,e2⟩:=((hB.bytes (w0:=w0) (H:=L.bl q s++H) fun u hu=>List.mem_append_left _ (L.G_mem q s u hu)).row w h).form
 subst e1; subst e2
 refine ⟨some q.ib,by rw [add_lit']; exact h4.cell (k:=2) rfl,_,_,hlk,?_⟩
 rw [zcells41]
 refine h4.newC fun n17 w18 hn17 h18=>h18.stA (k:=0) rfl rfl (by simp) (by simp [Tcs,Value.oneCell']) fun w19 h19=>?_
 have h19:St w0 w19 ((n17,Cs (Tcs (itemOf s.items id).at_ (.slice sa (itemOf s.items id).sp.length sc) (.slice ca (itemOf s.items id).code.length cc)) 41)::(n2,Cs [U 0,.slice none 0 0,.slice none 0 0] 41)::(L.bl q s++H)):=h19
 cases hi:lk s.items id with
 | none=>
  simp only [Option.isSome_none,Bool.not_false,BIf_true]
  refine ⟨_,build41,h19.stA (k:=1) rfl rfl (by simp) (by simp [Value.oneCell']) fun w21 h21=>h21.ldA (k:=1) rfl (by simp [splice_length]) ?_⟩
  exact hN hi w21 ((h21.tail hn17).tail hn2)
 | some t=>
  simp only [Option.isSome_some,Bool.not_true,BIf_false]
  rw [f28_s1_eq]
  have hio:itemOf s.items id=t:=by unfold itemOf; rw [hi]; rfl
  rw [hio] at h19 hS hB
  refine h19.ldA (k:=0) rfl (by simp [Tcs]) ?_
  have up:∀ u∈L.G,u∈((n17,Cs (Tcs t.at_ (.slice sa t.sp.length sc) (.slice ca t.code.length cc)) 41)::(n2,Cs [U 0,.slice none 0 0,.slice none 0 0] 41)::(L.bl q s++H)):=fun u hu=>.tail _ (.tail _ (List.mem_append_left _ (L.G_mem q s u hu)))
  refine copied_ok h19 (hS.spans up) (hB.bytes up) fun w27 sv' cv' L1 M h1 h2 h3 h4 h27=>⟨_,rfl,?_⟩
  obtain ⟨sa',sc',e1⟩:=h1.form
  obtain ⟨ca',cc',e2⟩:=h3.form
  subst e1; subst e2
  have h28:St w0 w27 ((n17,Cs (Tcs t.at_ (.slice sa t.sp.length sc) (.slice ca t.code.length cc)) 41)::(n2,Cs [U 0,.slice none 0 0,.slice none 0 0] 41)::(M++(L1++(L.bl q s++H)))):=h27.perm (perm_by fun c=>by simp only [List.map_append,List.map_cons,List.sum_append,List.sum_cons]; omega)
  refine h28.stA (k:=1) rfl rfl (by simp) (by simp [Tcs,Value.oneCell']) fun w29 h29=>h29.ldA (k:=1) rfl (by simp [splice_length]) ?_
  exact hK t hi w29 _ _ L1 M h1 h2 h3 h4 ((h29.tail hn17).tail hn2)
theorem idxF_find {l:List EX} {p:EX→Bool}:(idxF p l < 0∧l.find? p=none)∨∃ (i:Nat) (hi:i < l.length),idxF p l=i∧l.find? p=some l[i]:=by
 unfold idxF
 cases h:l.findIdx? p with
 | none=>
  refine .inl ⟨by decide,?_⟩
  exact List.find?_eq_none.2 fun x hx=>by simpa using List.findIdx?_eq_none_iff.1 h x hx
 | some i=>
  obtain ⟨hi,hp,hb⟩:=List.findIdx?_eq_some_iff_getElem.1 h
  refine .inr ⟨i,hi,rfl,?_⟩
  rw [List.find?_eq_some_iff_getElem]
  exact ⟨hp,i,hi,rfl,fun j hj=>by simpa using hb j hj⟩
theorem exit_ok (h:St w0 w (L.bl q s++H)) (hL:L.Ok w0 q s) (hg:Glob H) {id slot:Int}
  (hK:∀ w',St w0 w' (L.bl q s++H)→K (.tuple [.agg (Xc (exitS s id slot).1).toArray,J (exitS s id slot).2].toArray) w'):CallL P 78 [.pointer (some ⟨q.cb,0,none⟩),U id,J slot] w K:=by
 refine f78_ok _ _ _ _ _ ?_
 rw [f78_eq,zcells62]
 refine h.newC fun n3 w4 hn3 h4=>h4.newC fun n5 w6 hn5 h6=>?_
 have h6:St w0 w6 ((n5,Cs (Xc EX.zero) 62)::(n3,Cs [J slot] 3)::(L.bl q s++H)):=h6
 have h6':St w0 w6 (L.bl q s++((n5,Cs (Xc EX.zero) 62)::(n3,Cs [J slot] 3)::H)):=h6.perm (perm_by fun c=>by simp only [List.map_append,List.map_cons,List.sum_append,List.sum_cons]; omega)
 refine none53 h6' ⟨_,rfl,?_⟩
 simp only [BIf_false]
 rw [f78_s0_eq]
 obtain ⟨v,hv,_,hlk⟩:=hL.its.look (w:=w6) (h6'.get (k:=2) rfl) id
 obtain ⟨⟨sv,cv,rfl,hS,hB⟩,_,_⟩:=hv
 obtain ⟨sa,sc,e1⟩:=((hS.spans (w0:=w0) (H:=L.bl q s++H) fun u hu=>List.mem_append_left _ (L.G_mem q s u hu)).row w h).form
 obtain ⟨ca,cc,e2⟩:=((hB.bytes (w0:=w0) (H:=L.bl q s++H) fun u hu=>List.mem_append_left _ (L.G_mem q s u hu)).row w h).form
 subst e1; subst e2
 refine ⟨some q.ib,by rw [add_lit']; exact h6.cell (k:=3) rfl,_,_,hlk,?_⟩
 rw [zcells41]
 refine h6.newC fun n21 w22 hn21 h22=>h22.stA (k:=0) rfl rfl (by simp) (by simp [Tcs,Value.oneCell']) fun w23 h23=>?_
 have h23:=h23.tail hn21
 have h23:St w0 w23 ((n5,Cs (Xc EX.zero) 62)::(n3,Cs [J slot] 3)::(L.bl q s++H)):=h23
 have out:∀ {w2:World} {x:EX} {e:Int} {vs:Array Value},vs=(Xc x).toArray→St w0 w2 ((n5,Cs (Xc EX.zero) 62)::(n3,Cs [J slot] 3)::(L.bl q s++H))→exitS s id slot=(x,e)→
   StA 5 (Addr.mk n5 0 none) vs w2 (fun w25=>LdA 5 (Addr.mk n5 0 none) w25 (fun cs26=>K (.tuple [.agg cs26,J e].toArray) w25)):=fun {w2 x e vs} hv hs he=>by
  subst hv
  refine hs.stA (k:=0) rfl rfl (by simp [Xc]) (by simp [Xc,Value.oneCell']) fun w25 h25=>h25.ldA (k:=0) rfl (by simp [splice_length,Xc]) ?_
  rw [he] at hK
  exact hK w25 ((h25.tail hn5).tail hn3)
 cases hi:lk s.items id with
 | none=>
  simp only [Option.isSome_none,Bool.not_false,BIf_true]
  exact ⟨_,build62,out (x:=EX.zero) rfl h23 (by unfold exitS; rw [hi])⟩
 | some t=>
  simp only [Option.isSome_some,Bool.not_true,BIf_false]
  rw [f78_s1_eq]
  have hg2:Glob ((n5,Cs (Xc EX.zero) 62)::(n3,Cs [J slot] 3)::H):=hg.mono fun u hu=>.tail _ (.tail _ hu)
  have h24:St w0 w23 (L.bl q s++((n5,Cs (Xc EX.zero) 62)::(n3,Cs [J slot] 3)::H)):=h23.perm (perm_by fun c=>by simp only [List.map_append,List.map_cons,List.sum_append,List.sum_cons]; omega)
  refine exits102_ok h24 hL hg2 id fun w32 a c N hb h32 hN hSl=>⟨_,_,_,rfl,?_⟩
  have hmem:(n3,Cs [J slot] 3)∈N++(L.bl q s++((n5,Cs (Xc EX.zero) 62)::(n3,Cs [J slot] 3)::H)):=List.mem_append_right _ (List.mem_append_right _ (.tail _ (.head _)))
  refine index100_ok (l:=exitsS s.items id) h32 (fun w' h'=>hSl.row fun u hu=>h'.has _ _ (List.mem_append_left _ hu)) (by omega) (asks122 (t:=3) hmem) fun w35 h35=>⟨_,rfl,?_⟩
  have h36:St w0 w35 (N++((n5,Cs (Xc EX.zero) 62)::(n3,Cs [J slot] 3)::(L.bl q s++H))):=h35.perm (perm_by fun c=>by simp only [List.map_append,List.map_cons,List.sum_append,List.sum_cons]; omega)
  have h37:=h36.sub hN
  rcases idxF_find (l:=exitsS s.items id) (p:=fun e=>e.slot == slot) with ⟨hlt,hf⟩ | ⟨j,hj,hidx,hf⟩
  ·rw [decide_eq_true hlt]
   simp only [BIf_true]
   exact ⟨_,build62,out (x:=EX.zero) rfl h37 (by unfold exitS; rw [hi]; simp only [hf])⟩
  ·rw [hidx,show decide (((j:Nat):Int) < 0)=false from decide_eq_false (by omega)]
   simp only [BIf_false]
   rw [f78_s2_eq]
   obtain ⟨ad,cp,hac,hld⟩:=(hSl.row (w:=w35) fun u hu=>h35.has _ _ (List.mem_append_left _ hu)).ldA hj
   injection hac with hac _ _
   subst hac
   refine ⟨by omega,by omega,?_⟩
   rw [Int.toNat_natCast]
   refine hld _ ?_
   rw [flat_at Xc 5 Xc_len _ hj]
   exact out (x:=(exitsS s.items id)[j]) rfl h37 (by unfold exitS; rw [hi]; simp only [hf])
end Go.Fx.Tryz
namespace Go.Fx.Ch
set_option linter.all false
abbrev isW (x:Int):Prop:=0≤x∧x < 4294967296
theorem isW0:isW 0:=⟨by decide,by decide⟩
def AllB (bs:List Int):Prop:=∀ b∈bs,0≤b∧b < 256
theorem AllB.drop {bs:List Int} (h:AllB bs) (n:Nat):AllB (bs.drop n):=fun b hb=>h b (List.mem_of_mem_drop hb)
theorem rd_W {bs:List Int} (h:AllB bs) (s:Rd):isW (rd bs s 4).1:=by
 unfold rd
 split
 ·exact isW0
 ·have hl:=Tryz.le_range ((bs.drop s.1).take 4) fun b hb=>h b (List.mem_of_mem_drop (List.mem_of_mem_take hb))
  have h4:((bs.drop s.1).take 4).length≤4:=by rw [List.length_take]; omega
  have:(256:Int) ^ ((bs.drop s.1).take 4).length≤256 ^ 4:=by
   generalize ((bs.drop s.1).take 4).length=m at h4
   match m,h4 with
   | 0,_ | 1,_ | 2,_ | 3,_ | 4,_=>decide
  exact ⟨hl.1,by have:(256:Int) ^ 4=4294967296:=by decide
                 omega⟩
theorem setF_ic (x:HI) (i:Nat) (v:Int):(setF x i v).i=x.i∧(setF x i v).chain=x.chain:=by unfold setF; split <;> exact ⟨rfl,rfl⟩
theorem decI_ic {fs:Nat} {bs:List Int} {s:HI × Rd}:∀ i,(decI fs bs i s).1.i=s.1.i∧(decI fs bs i s).1.chain=s.1.chain
 | 0=>⟨rfl,rfl⟩
 | i+1=>by
  have ih:=decI_ic (fs:=fs) (bs:=bs) (s:=s) i
  show (decS fs bs i (decI fs bs i s)).1.i=_∧(decS fs bs i (decI fs bs i s)).1.chain=_
  unfold decS
  split
  ·exact ⟨(setF_ic _ _ _).1.trans ih.1,(setF_ic _ _ _).2.trans ih.2⟩
  ·exact ih
theorem setV_ic (x:HI) (i:Nat) (v:Int):(setV x i v).i=x.i∧(setV x i v).chain=x.chain:=by unfold setV; split <;> exact ⟨rfl,rfl⟩
theorem decV1_ic {bs:List Int} {s:HI × Rd}:∀ i,(decV1 bs i s).1.i=s.1.i∧(decV1 bs i s).1.chain=s.1.chain
 | 0=>⟨rfl,rfl⟩
 | i+1=>by
  have ih:=decV1_ic (bs:=bs) (s:=s) i
  exact ⟨(setV_ic _ _ _).1.trans ih.1,(setV_ic _ _ _).2.trans ih.2⟩
theorem decV_ic {fs:Nat} {bs:List Int} {s:HI × Rd}:(decV fs bs s).1.i=s.1.i∧(decV fs bs s).1.chain=s.1.chain:=by
 unfold decV; split
 ·exact decV1_ic _
 ·exact ⟨rfl,rfl⟩
theorem decode_W {bs:List Int} (hb:AllB bs) {x:HI} {n:Nat} (h:decode bs=some (x,n)):isW x.i∧isW x.chain:=by
 unfold decode at h
 dsimp only at h
 split at h
 ·cases h
 ·split at h
  ·cases h
  ·simp only [Option.some.injEq,Prod.mk.injEq] at h
   obtain ⟨rfl,rfl⟩:=h
   rw [decV_ic.1,decV_ic.2]
   have h0:∀ (o:Int) (s:Rd),isW (decI (formN o).1 bs 8 ({ op:=o },s)).1.i∧isW (decI (formN o).1 bs 8 ({ op:=o },s)).1.chain:=fun o s=>by
    rw [(decI_ic 8).1,(decI_ic 8).2]
    exact ⟨isW0,isW0⟩
   generalize hy:decI (formN (rd bs (0,false) 1).1).1 bs 8 ({ op:=(rd bs (0,false) 1).1 },(rd bs (0,false) 1).2)=y
   have hy0:=h0 (rd bs (0,false) 1).1 (rd bs (0,false) 1).2
   rw [hy] at hy0
   have ha:isW (decA (formN (rd bs (0,false) 1).1).1 bs y).1.i∧isW (decA (formN (rd bs (0,false) 1).1).1 bs y).1.chain:=by
    unfold decA; split
    ·exact ⟨rd_W hb _,hy0.2⟩
    ·exact hy0
   generalize decA (formN (rd bs (0,false) 1).1).1 bs y=z at ha
   unfold decC; split
   ·exact ⟨ha.1,rd_W hb _⟩
   ·exact ha
theorem allF_run {bs:List Int} {l:List (HI × Nat)} (ha:allF bs=some l):Run bs 0 l:=by
 unfold allF at ha
 split at ha
 ·cases ha
 ·obtain ⟨r,hr,hh⟩:=allL_run _ _ _ _ ha (Nat.zero_le _)
  simp at hr; subst hr; exact hh
theorem exits_at {bs:List Int} {l:List EX} (h:exitsF bs=some l) {e:EX} (he:e∈l):∃ (al:List (HI × Nat)) (i:Nat) (p:HI × Nat) (n:Nat),allF bs=some al∧al[i]?=some p∧(p.1.op=39∨p.1.op=40)∧
  decode (bs.drop p.2)=some (p.1,n)∧p.2+n≤bs.length∧e=⟨p.2,((p.2+n:Nat):Int) - 4,p.1.i,p.1.k,p.1.chain⟩:=by
 unfold exitsF at h
 cases ha:allF bs with
 | none=>rw [ha] at h; cases h
 | some al=>
  rw [ha] at h
  simp only [Option.map_some,Option.some.injEq] at h
  subst h
  unfold exitsL at he
  obtain ⟨i,_,hi⟩:=List.mem_filterMap.1 he
  unfold exitAt at hi
  split at hi
  ·cases hi
  ·rename_i p hp
   split at hi
   ·cases hi
   ·rename_i hop
    simp only [Option.some.injEq] at hi
    subst hi
    obtain ⟨n,e1,e2,e3⟩:=(allF_run ha).at hp
    exact ⟨al,i,p,n,rfl,hp,by simp at hop; omega,e1,e3,by rw [e2]⟩
theorem exits_W {bs:List Int} (hb:AllB bs) {l:List EX} (h:exitsF bs=some l) {e:EX} (he:e∈l):isW e.to∧isW e.chain:=by
 obtain ⟨al,i,p,n,_,_,_,hd,_,rfl⟩:=exits_at h he
 exact decode_W (hb.drop _) hd
end Go.Fx.Ch
namespace Go.Fx.Ch
open Go.Fx.Tryz
def chainS (s:CState) (id slot:Int):CState × Bool × Int:=if (exitS s id slot).2≠0 then (s,false,(exitS s id slot).2)
 else if ((lookS s (exitS s id slot).1.to).1=0∨chainedF (exitS s id slot).1=false) then (s,false,0)
 else ({ s with items:=patchS s.items (id,slot) (lookS s (exitS s id slot).1.to).1,hold:=holdS s.hold (id,slot) (lookS s (exitS s id slot).1.to).1 },true,0)
theorem slotAt_W {t:List Int} (h:∀ x∈t,isW x) (i:Nat):isW (slotAt t i):=by
 unfold slotAt
 cases hi:t[i]? with
 | none=>exact isW0
 | some x=>exact h x (List.mem_of_getElem? hi)
theorem lookGo_W {items:List (Int × TR)} {t:List Int} (h:∀ x∈t,isW x) {k:Nat} {at_:Int} {frm:Nat}:∀ f n,isW (lookGo items t k at_ frm f n).1
 | 0,_=>isW0
 | f+1,n=>by
  unfold lookGo
  split
  ·exact isW0
  ·split
   ·exact slotAt_W h _
   ·exact lookGo_W h f (n+1)
end Go.Fx.Ch
namespace Go.Fx.Tryz
open Go Go.Fx Go.Fx.Ch
open Go.Proofs
set_option linter.all false
set_option maxRecDepth 20000
variable {w0 w:World} {H G:HBL} {K:KT} {s:CState} {L:Lay} {q:LB}
theorem Lay.Ok.exitW (hL:L.Ok w0 q s) (h:St w0 w (L.bl q s++H)) {id slot:Int} (he:(exitS s id slot).2=0):isW (exitS s id slot).1.to∧isW (exitS s id slot).1.chain∧(exitS s id slot).1∈exitsS s.items id∧(exitS s id slot).1.slot=slot:=by
 obtain ⟨v,hv,_⟩:=hL.its.look (w:=w) (h.get (k:=2) rfl) id
 obtain ⟨⟨sv,cv,_,_,hB⟩,_,_⟩:=hv
 have hmem:(exitS s id slot).1∈exitsS s.items id∧(exitS s id slot).1.slot=slot:=by
  unfold exitS at he ⊢
  split at he
  ·cases he
  ·split at he
   ·cases he
   ·rename_i x hx
    exact ⟨List.mem_of_find?_eq_some hx,by simpa using List.find?_some hx⟩
 refine ⟨?_,?_,hmem⟩
 all_goals
  have hm:=hmem.1
  unfold exitsS at hm
  cases hx:exitsF (itemOf s.items id).code with
  | none=>rw [hx] at hm; simp at hm
  | some l=>
   rw [hx] at hm
   have:=exits_W hB.byte hx hm
   first | exact this.1 | exact this.2
theorem build142 (a b:Int) (wq:World):(Instr.build 142 [(0,U a),(1,J b)].toArray).run P wq=.ok (encP (a,b)) wq:=by kernel_rfl
theorem chain_ok (h:St w0 w (L.bl q s++H)) (hL:L.Ok w0 q s) (hg:Glob H) (ht:∀ x∈s.table,isW x) {id slot:Int}
  (hK:∀ (w':World) (L':Lay),L'.Ok w0 q (chainS s id slot).1→St w0 w' (L'.bl q (chainS s id slot).1++H)→K (.tuple [.bool (chainS s id slot).2.1,J (chainS s id slot).2.2].toArray) w'):CallL P 41 [.pointer (some ⟨q.cb,0,none⟩),U id,J slot] w K:=by
 refine f41_ok _ _ _ _ _ ?_
 rw [f41_eq,zcells62]
 refine exit_ok h hL hg fun w4 h4=>⟨_,_,rfl,h4.newC fun n7 w8 hn7 h8=>h8.stA (k:=0) rfl rfl (by simp) (by simp [Xc,Value.oneCell']) fun w9 h9=>?_⟩
 have h9:St w0 w9 ((n7,Cs (Xc (exitS s id slot).1) 62)::(L.bl q s++H)):=h9
 have hW:=hL.exitW h (id:=id) (slot:=slot)
 unfold chainS at hK
 generalize exitS s id slot=xe at *
 obtain ⟨x,e⟩:=xe
 simp only at hK h9 hW
 rw [BIf_iff]
 refine ⟨fun he=>?_,fun he=>?_⟩
 ·have he:e≠0:=by simpa using he
  rw [if_pos he] at hK
  exact hK w9 L hL (h9.tail hn7)
 have he:e=0:=by simpa using he
 rw [if_neg (by simp [he])] at hK
 obtain ⟨hto,_,_,_⟩:=hW he
 rw [f41_s0_eq]
 refine ⟨x.to,by rw [add_lit']; exact h9.cell (k:=0) rfl,?_⟩
 have hg2:Glob ((n7,Cs (Xc x) 62)::H):=hg.mono fun u hu=>.tail _ hu
 have back:∀ {w2:World} {L2:Lay} {s2:CState},St w0 w2 (L2.bl q s2++((n7,Cs (Xc x) 62)::H))→St w0 w2 (L2.bl q s2++H):=fun {w2 L2 s2} h2=>by
  have h3:St w0 w2 ((n7,Cs (Xc x) 62)::(L2.bl q s2++H)):=h2.perm (perm_by fun c=>by simp only [List.map_append,List.map_cons,List.sum_append,List.sum_cons]; omega)
  exact h3.tail hn7
 have h10:St w0 w9 (L.bl q s++((n7,Cs (Xc x) 62)::H)):=h9.perm (perm_by fun c=>by simp only [List.map_append,List.map_cons,List.sum_append,List.sum_cons]; omega)
 refine find_ok h10 hL hg2 hto.1 hto.2 fun w16 h16=>⟨_,_,rfl,?_⟩
 have hlW:isW (lookS s x.to).1:=lookGo_W ht _ _
 generalize (lookS s x.to).1=to at *
 have no:(to=0∨chainedF x=false)→∀ w2,St w0 w2 (L.bl q s++((n7,Cs (Xc x) 62)::H))→f41_s1 true to slot id (some ⟨q.cb,0,none⟩) w2 K:=fun hc w2 h2=>by
  rw [f41_s1_eq,BIf_true]
  rw [if_pos hc] at hK
  exact hK w2 L hL (back h2)
 rw [BIf_iff]
 refine ⟨fun hz=>?_,fun hz=>?_⟩
 ·exact no (.inl (by simpa using hz)) w16 h16
 have hz:to≠0:=by simpa using hz
 have h17:St w0 w16 ((n7,Cs (Xc x) 62)::(L.bl q s++H)):=h16.perm (perm_by fun c=>by simp only [List.map_append,List.map_cons,List.sum_append,List.sum_cons]; omega)
 refine h17.ldA (k:=0) rfl (by simp [Xc]) ?_
 refine chained_ok (e:=x) h16 fun w36 h36=>⟨_,rfl,?_⟩
 cases hch:chainedF x with
 | false=>exact no (.inr hch) w36 h36
 | true=>
  rw [f41_s1_eq]
  simp only [Bool.not_true,BIf_false]
  rw [f41_s2_eq,if_neg (by simp [hz,hch])] at *
  refine ⟨_,build142 id slot,?_⟩
  refine patch80_ok h36 hL hg2 hlW.1 hlW.2 fun w30 L1 hL1 h30=>⟨rfl,_,build142 id slot,?_⟩
  refine hold_ok h30 hL1 fun w33 L2 hL2 h33=>⟨rfl,?_⟩
  exact hK w33 L2 hL2 (back h33)
theorem sort61:Sort61 w0:=fun w H N K ov l hl hS hN h hK=>by
 obtain ⟨a,c,e⟩:=hS.form
 subst e
 exact sortN_ok h hS hl fun w' N' h1 h2 h3=>hK w' N' h1 (h2 hN) h3
theorem sortI_perm {a b:List Int} (h:a.Perm b):sortI a=sortI b:=by
 have h1:(sortI a).Perm (sortI b):=(List.mergeSort_perm a _).trans (h.trans (List.mergeSort_perm b _).symm)
 have hp:∀ l:List Int,(sortI l).Pairwise fun x y=>decide (x≤y)=true:=fun l=>List.pairwise_mergeSort (fun x y z hx hy=>by simp at *; omega) (fun x y=>by simp; omega) l
 exact h1.eq_of_pairwise (fun x y _ _ hx hy=>by simp at hx hy; omega) (hp a) (hp b)
theorem Like.keys {R:Value→TR→Prop}:∀ {m:List (Int × Value)} {l:List (Int × TR)},Like R m l→m.map (·.1)=l.map (·.1)
 | [],[],_=>rfl
 | _::_,_::_,h=>by simp [h.1,Like.keys h.2.2]
end Go.Fx.Tryz
namespace Go.Fx.Tryz
open Go Go.Fx Go.Fx.Ch
open Go.Proofs
set_option linter.all false
set_option maxRecDepth 20000
variable {w0 w:World} {H X:HBL} {K:KT} {s:CState} {L:Lay} {q:LB}
theorem made_one (z:Value) (hz:z.cells=#[z]) (n:Nat):madeCells z.cells n=(List.replicate n z).toArray:=by
 apply Array.ext
 ·simp [madeCells]
 ·intro i h1 h2
  simp [madeCells,hz,Nat.mod_one]
theorem mk22 {sl:Nat} (hs:sl≤65536) {Q:Option Addr→Nat→Nat→World→Prop} (h:St w0 w X)
  (hQ:∀ g w',w0.heap.size≤g→St w0 w' ((g,Cs (List.replicate sl (U 0)) 24)::X)→Q (some ⟨g,0,none⟩) sl sl w') :
  ∃ (a:Option Addr) (l c:Nat),∃ w':World,(Instr.makeSlice 22 (.int .i64 (sl:Nat)) (.int .i64 (sl:Nat))).run P w=.ok (.slice a l c) w'∧Q a l c w':=by
 have hr:=run_make (P:=P) w 22 24 Tryz.t24 (U 0) Tryz.underlying22 (by kernel_rfl) rfl .i64 .i64 sl sl (by omega) (by omega) (by show ((4:Nat):Int) * _≤_; omega) (by omega)
 simp only [Int.toNat_natCast] at hr
 rw [show Tryz.t24.size=1 from rfl,Nat.mul_one,made_one _ rfl] at hr
 exact ⟨_,_,_,_,hr,hQ _ _ h.le (h.alloc _)⟩
theorem mk106 {sec:Nat} (hs:sec≤16) {Q:Option Addr→Nat→Nat→World→Prop} (h:St w0 w X)
  (hQ:∀ g w',w0.heap.size≤g→St w0 w' ((g,Cs (List.replicate sec (.slice none 0 0)) 22)::X)→Q (some ⟨g,0,none⟩) sec sec w') :
  ∃ (a:Option Addr) (l c:Nat),∃ w':World,(Instr.makeSlice 106 (.int .i64 (sec:Nat)) (.int .i64 (sec:Nat))).run P w=.ok (.slice a l c) w'∧Q a l c w':=by
 have hr:=run_make (P:=P) w 106 22 Tryz.t22 (.slice none 0 0) Tryz.underlying106 (by kernel_rfl) rfl .i64 .i64 sec sec (by omega) (by omega) (by show ((24:Nat):Int) * _≤_; omega) (by omega)
 simp only [Int.toNat_natCast] at hr
 rw [show Tryz.t22.size=1 from rfl,Nat.mul_one,made_one _ rfl] at hr
 exact ⟨_,_,_,_,hr,hQ _ _ h.le (h.alloc _)⟩
abbrev confCs (sec len sl:Int):List Value:=[J sec,J len,J sl]
theorem conf0 {n1:Nat} {sec len sl:Int} (h:St w0 w X) (hm:(n1,Cs (confCs sec len sl) 27)∈X):w.cell? (Addr.mk n1 0 none)=some (J sec):=by rw [cell_of (h.has _ _ hm)]; rfl
theorem conf2 {n1:Nat} {sec len sl:Int} (h:St w0 w X) (hm:(n1,Cs (confCs sec len sl) 27)∈X):w.cell? ((Addr.mk n1 0 none).add 2)=some (J sl):=by rw [add_lit',cell_of (h.has _ _ hm)]; rfl
theorem confB {n1:Nat} {sec len sl:Int} (h:St w0 w X) (hm:(n1,Cs (confCs sec len sl) 27)∈X):LdB 3 (Addr.mk n1 0 none) #[J sec,J len,J sl] w:=fun i hi=>by
 rw [add_lit',cell_of (h.has _ _ hm),Nat.zero_add]
 match i,hi with
 | 0,_ | 1,_ | 2,_=>rfl
theorem build109 (sec len sl:Int) (ib hb rb tb n m:Nat) (wq:World):(Instr.build 109 [(0,(Value.agg #[J sec,J len,J sl])),(1,(Value.map (some ib))),(2,(Value.slice (some (Addr.mk rb 0 none)) n n)),(3,(Value.slice (some (Addr.mk tb 0 none)) m m)),(4,(Value.map (some hb)))].toArray).run P wq =
  .ok (.agg #[J sec,J len,J sl,.map (some ib),.slice (some ⟨rb,0,none⟩) n n,.slice (some ⟨tb,0,none⟩) m m,.map (some hb),J 0,U 0,J 0,J 0]) wq:=by kernel_rfl
theorem RowsAt.empty:∀ n:Nat,RowsAt (List.replicate n []) (List.replicate n (.slice none 0 0,[]))
 | 0=>trivial
 | n+1=>⟨SlO.nil 1 24,RowsAt.empty n⟩
theorem flat_empty {α:Type}:∀ n:Nat,((List.replicate n ((Value.slice none 0 0),([]:List α))).map (·.2)).flatten=[]
 | 0=>rfl
 | n+1=>by rw [List.replicate_succ,List.map_cons,List.flatten_cons,flat_empty n]; rfl
theorem begun_end {sec k:Nat} {len:Int} (h0:1≤sec) (h16:sec≤16) (hk4:4≤k) (hk16:k≤16)
  (hK:∀ (w':World) (q:LB) (L:Lay),L.Ok w0 q (newS sec len k)→St w0 w' (L.bl q (newS sec len k)++H)→K (.pointer (some ⟨q.cb,0,none⟩)) w')
  {n1 ib hb rb tb:Nat} (h1:w0.heap.size≤n1) (h2:w0.heap.size≤ib) (h3:w0.heap.size≤hb) (h4:w0.heap.size≤rb) (h5:w0.heap.size≤tb) (h:St w0 w X)
  (hp:X.Perm ((n1,Cs (confCs sec len (2 ^ k:Nat)) 27)::(tb,Cs (List.replicate (2 ^ k) (U 0)) 24)::(ib,.map #[] 0)::(hb,.map #[] 0)::(rb,Cs (List.replicate sec (.slice none 0 0)) 22)::H)) :
  ∃ cs14:Array Value,(∀ wq,(Instr.build 109 [(0,(Value.agg #[J sec,J len,J (2 ^ k:Nat)])),(1,(Value.map (some ib))),(2,(Value.slice (some (Addr.mk rb 0 none)) sec sec)),(3,(Value.slice (some (Addr.mk tb 0 none)) (2 ^ k) (2 ^ k))),(4,(Value.map (some hb)))].toArray).run P wq=.ok (Value.agg cs14) wq)∧NewC cs14 109 w (fun n15 w16=>f52_s0 (Addr.mk n15 0 none) w16 K):=by
 refine ⟨_,fun wq=>build109 sec len (2 ^ k:Nat) ib hb rb tb sec (2 ^ k) wq,?_⟩
 have h':=(h.perm hp).tail h1
 refine h'.newC fun n15 w16 hn15 h16'=>?_
 rw [f52_s0_eq]
 refine hK w16 ⟨n15,ib,hb,rb,tb⟩ ⟨#[],0,#[],0,[],List.replicate sec (.slice none 0 0,[]),[]⟩ ⟨hn15,h2,h3,h4,h5,?_,⟨[],MapIs.empty,trivial⟩,MapIs.empty,rfl,by simp,RowsAt.empty sec,hk4,hk16,?_,?_,?_⟩ ?_
 ·unfold Lay.rest; rw [flat_empty]; simp [New]
 ·simp [newS]
 ·simp [newS]; omega
 ·simp [newS]; omega
 ·have e:CCs (newS sec len k) ib hb rb tb=[J sec,J len,J (2 ^ k:Nat),.map (some ib),.slice (some ⟨rb,0,none⟩) sec sec,.slice (some ⟨tb,0,none⟩) (2 ^ k) (2 ^ k),.map (some hb),J 0,U 0,J 0,J 0]:=by simp [CCs,newS]
  have e2:((newS sec len k).table.map U)=List.replicate (2 ^ k) (U 0):=by simp [newS]
  unfold Lay.bl Lay.b4 Lay.rest
  dsimp only
  rw [flat_empty,e,e2,List.map_replicate]
  have h17:St w0 w16 ((n15,Cs [J sec,J len,J (2 ^ k:Nat),.map (some ib),.slice (some ⟨rb,0,none⟩) sec sec,.slice (some ⟨tb,0,none⟩) (2 ^ k) (2 ^ k),.map (some hb),J 0,U 0,J 0,J 0] 109)::(tb,Cs (List.replicate (2 ^ k) (U 0)) 24)::(ib,.map #[] 0)::(hb,.map #[] 0)::(rb,Cs (List.replicate sec (.slice none 0 0)) 22)::H):=h16'
  exact h17.perm (perm_by fun c=>by simp only [List.map_nil,List.append_nil,List.nil_append,List.map_cons,List.cons_append,List.sum_cons]; omega)
theorem begun_ok {sec k:Nat} {len:Int} (h:St w0 w H) (h0:1≤sec) (h16:sec≤16) (hk4:4≤k) (hk16:k≤16)
  (hK:∀ (w':World) (q:LB) (L:Lay),L.Ok w0 q (newS sec len k)→St w0 w' (L.bl q (newS sec len k)++H)→K (.pointer (some ⟨q.cb,0,none⟩)) w'):CallL P 52 [.agg #[J sec,J len,J (2 ^ k:Nat)]] w K:=by
 refine f52_ok _ _ _ ?_
 rw [f52_eq]
 refine h.newC fun n1 w2 hn1 h2=>?_
 have h2:St w0 w2 ((n1,Cs (confCs sec len (2 ^ k:Nat)) 27)::H):=h2
 have h3:=h2.drew
 refine h3.ldA (k:=0) rfl (by simp) ⟨_,h3.cell (k:=0) rfl,_,by rw [add_lit']; exact h3.cell (k:=0) rfl,?_⟩
 have fin:=@begun_end w0
 have hsl:2 ^ k≤65536:=(pow_bounds hk4 hk16).2
 repeat' first
  | exact St.newO (by assumption) fun n w hn h=>by
    refine begun_end h0 h16 hk4 hk16 hK (n1:=n1) ?_ ?_ ?_ ?_ ?_ h (perm_by fun c=>by simp only [List.map_cons,List.sum_cons]; omega) <;> assumption
  | exact begun_end h0 h16 hk4 hk16 hK (n1:=n1) (by assumption) (by assumption) (by assumption) (by assumption) (by assumption) (by assumption) (perm_by fun c=>by simp only [List.map_cons,List.sum_cons]; omega)
  | refine St.newO (by assumption) fun n w hn h=>?_
  | refine mk22 hsl (by assumption) fun g w hg h=>?_
  | refine mk106 h16 (by assumption) fun g w hg h=>?_
  | refine ⟨conf0 (sec:=sec) (len:=len) (sl:=(2 ^ k:Nat)) (by assumption) (by simp),?_⟩
  | refine ⟨conf2 (sec:=sec) (len:=len) (sl:=(2 ^ k:Nat)) (by assumption) (by simp),?_⟩
  | refine ⟨confB (sec:=sec) (len:=len) (sl:=(2 ^ k:Nat)) (by assumption) (by simp),?_⟩
  | refine ⟨?_,?_⟩
theorem new_ok {sec len slots:Int} (h:St w0 w H)
  (hF:isConfF sec len slots=false→∀ w',St w0 w' H→K (.tuple [.pointer none,J 1].toArray) w')
  (hK:∀ (n k:Nat),sec=n→slots=(2 ^ k:Nat)→1≤n→n≤16→4≤k→k≤16→256≤len→len≤1048576→isConfF sec len slots=true→∀ (w':World) (q:LB) (L:Lay),L.Ok w0 q (newS n len k)→St w0 w' (L.bl q (newS n len k)++H)→K (.tuple [.pointer (some ⟨q.cb,0,none⟩),J 0].toArray) w'):CallL P 16 [.agg #[J sec,J len,J slots]] w K:=by
 refine f16_ok _ _ _ ?_
 rw [f16_eq]
 refine h.newC fun n1 w2 hn1 h2=>?_
 have h2:St w0 w2 ((n1,Cs (confCs sec len slots) 27)::H):=h2
 refine h2.ldA (k:=0) rfl (by simp) ?_
 refine isConf_ok h2 fun w5 h5=>⟨_,rfl,?_⟩
 cases hc:isConfF sec len slots with
 | false=>
  simp only [Bool.not_false,BIf_true]
  exact hF hc w5 (h5.tail hn1)
 | true=>
  simp only [Bool.not_true,BIf_false]
  rw [f16_s0_eq]
  refine h5.ldA (k:=0) rfl (by simp) ?_
  have hc2:=hc
  unfold isConfF at hc2
  simp only [Bool.and_eq_true,decide_eq_true_eq] at hc2
  obtain ⟨n,rfl⟩:=Int.eq_ofNat_of_zero_le (show (0:Int)≤sec by omega)
  obtain ⟨k,hk,hsl⟩:∃ k,k∈[4,5,6,7,8,9,10,11,12,13,14,15,16]∧slots=2 ^ k:=by
   have:=hc2.2
   simpa using this
  have hk2:4≤k∧k≤16:=by
   simp only [List.mem_cons,List.not_mem_nil,or_false] at hk
   omega
  have hsl2:slots=(2 ^ k:Nat):=by rw [hsl,Int.natCast_pow]; rfl
  subst hsl2
  refine begun_ok h5 (by omega) (by omega) hk2.1 hk2.2 fun w10 q L hL h10=>⟨_,rfl,?_⟩
  have h11:St w0 w10 ((n1,Cs (confCs (n:Int) len (2 ^ k:Nat)) 27)::(L.bl q (newS n len k)++H)):=h10.perm (perm_by fun c=>by simp only [List.map_append,List.map_cons,List.sum_append,List.sum_cons]; omega)
  exact hK n k rfl rfl (by omega) (by omega) hk2.1 hk2.2 (by omega) (by omega) hc w10 q L hL (h11.tail hn1)
end Go.Fx.Tryz
