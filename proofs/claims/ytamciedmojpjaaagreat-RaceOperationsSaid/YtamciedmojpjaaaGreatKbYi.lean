/- A part of the proof. -/
import Derived.Test.YtamciedmojpjaaaGreatKaYi
import Derived.KernelRfl
namespace Go.Fx.Tryz
open Go Go.Fx Go.Fx.Mo
open Go.Proofs
variable {w0 w:World} {H:HL} {K:KT}
set_option maxRecDepth 20000
abbrev fnV (n:Nat):Value:=.func (.func n) #[] #[]
theorem z180:(zcells P 157).toList=List.replicate 25 .nilFunc:=by kernel_rfl
def kindsL:List Value:=(((((List.replicate 25 (fnV 92)).set 4 (fnV 93)).set 11 (fnV 94)).set 13 (fnV 95)).set 14 (fnV 96)).set 15 (fnV 97)
theorem kinds_ok (h:St w0 w H) (hK:∀ w',St w0 w' H→K (.agg kindsL.toArray) w'):CallL P 70 [] w K:=by
 refine f70_ok _ _ ?_
 rw [f70_eq]
 refine h.newC fun n0 w1 hn0 h1=>h1.newC fun n2 w3 hn2 h3=>?_
 rw [z180] at h3
 have hZ:(List.replicate 25 Value.nilFunc).length=25:=by simp
 generalize hZd:List.replicate 25 Value.nilFunc=Z at h3 hZ
 refine ⟨fun m e w=>∃ i:Nat,i≤25∧m=25 - i∧e=Env.mk 15 [(3,(Value.int .i64 i)),(1,(Value.pointer (some (Addr.mk n2 0 none)))),(0,(Value.pointer (some (Addr.mk n0 0 none))))] []∧
  St w0 w ((n2,Cs (splice Z 0 (List.replicate i (fnV 92))) 157)::(n0,Cs Z 157)::H),⟨25,0,by omega,rfl,rfl,h3⟩,?_⟩
 rintro m e w ⟨i,hi,rfl,rfl,hs⟩
 show f70_lb0 ..
 rw [f70_lb0_eq,BIf_iff]
 constructor
 ·intro hlt
  have hlt:i < 25:=by simp at hlt; omega
  rw [f70_s1_eq]
  refine ⟨by omega,by omega,?_⟩
  rw [add_lit',Int.toNat_natCast,Nat.mul_one,Nat.zero_add]
  refine hs.st1 (k:=0) rfl (by rw [splice_length,hZ]; exact hlt) rfl fun w' h'=>?_
  rw [f70_s2_eq]
  refine ⟨25 - (i+1),by omega,i+1,by omega,rfl,?_,?_⟩
  ·rw [wrap_i64 (by omega) (by omega)]; rfl
  ·rw [List.replicate_succ',splice_snoc]
   simpa using h'
 ·intro hge
  have:i=25:=by simp at hge; omega
  subst this
  rw [splice_all (by simp [hZ])] at hs
  rw [f70_s3_eq]
  simp only [add_lit']
  refine ⟨by omega,by omega,hs.st1 (k:=0) rfl (by simp) rfl fun w1 h1=>?_⟩
  refine ⟨by omega,by omega,h1.st1 (k:=0) rfl (by simp) rfl fun w2 h2=>?_⟩
  refine ⟨by omega,by omega,h2.st1 (k:=0) rfl (by simp) rfl fun w3 h3=>?_⟩
  refine ⟨by omega,by omega,h3.st1 (k:=0) rfl (by simp) rfl fun w4 h4=>?_⟩
  refine ⟨by omega,by omega,h4.st1 (k:=0) rfl (by simp) rfl fun w5 h5=>?_⟩
  have h5:St w0 w5 ((n2,Cs kindsL 157)::(n0,Cs Z 157)::H):=h5
  have hk:kindsL.length=25:=by simp [kindsL]
  refine h5.ldA (k:=0) (i:=0) rfl (by omega) ?_
  have e:List.take 25 (List.drop 0 kindsL)=kindsL:=List.take_of_length_le (by rw [List.drop_zero]; omega)
  rw [e]
  refine h5.stA (k:=1) (i:=0) rfl (by simp [hk]) (by omega) (by decide) fun w6 h6=>?_
  have h6:St w0 w6 ((n2,Cs kindsL 157)::(n0,Cs (splice Z 0 kindsL) 157)::H):=h6
  rw [splice_all (by omega)] at h6
  refine h6.ldA (k:=1) (i:=0) rfl (by omega) ?_
  rw [e]
  exact hK w6 ((h6.tail hn2).tail hn0)
variable {B:PB} {R:HL}
theorem eqO (x y:Ob) (wq:World):(do eqGuard .eql 117 (.tmp 22) (.tmp 23) (.agg (Obcs x).toArray) (.agg (Obcs y).toArray); binOp .eql 117 (.agg (Obcs x).toArray) (.agg (Obcs y).toArray):Sem Value).run P wq=.ok (.bool (decide (x=y))) wq:=by
 have h1:=eq147 wq x.1 y.1 x.2 y.2
 have h2:decide (x=y)=(x.1 == y.1 && x.2 == y.2):=by
  obtain ⟨a,b⟩:=x
  obtain ⟨c,d⟩:=y
  rw [Bool.eq_iff_iff]; simp
 rw [h2]
 simp [eqGuard,binOp,h1,Tryz.eqGuardType117,Obcs]
theorem build147t (x:Int) (wq:World):(Instr.build 117 [(0,(Value.bool true)),(1,(Value.int .u32 x))].toArray).run P wq=.ok (.agg (Obcs (true,x)).toArray) wq:=by kernel_rfl
def aStep (T:Th) (e:Ev) (s:Ob × Pl) (a:Int):Ob × Pl:=if ((true,w32 (a.tdiv 4)):Ob)=s.1 then s else ((true,w32 (a.tdiv 4)),atomic1 T e (true,w32 (a.tdiv 4)) s.2)
theorem atomicL_fold (T:Th) (e:Ev) (l:List Int):∀ (last:Ob) (p:Pl),atomicL T e l last p=(l.foldl (aStep T e) (last,p)).2:=by
 induction l with
 | nil=>intro last p; rfl
 | cons a r ih=>
  intro last p
  simp only [atomicL,List.foldl_cons,aStep]
  split
  ·rw [ih]
  ·rw [ih]
theorem atomic1_orders (T:Th) (e:Ev) (x:Ob) (p:Pl):(atomic1 T e x p).orders.length=p.orders.length+1:=by
 simp [atomic1,release,tick,acquire,number_orders]
theorem atomic_body {l l' n1 n4:Nat} {s:Ob × Pl} {a:Int} {Rr:LoopState→Option Code→Loop} {post:Option Code→World→Prop} (hB:PBok B) (hn:s.2.orders.length < 1000000)
  (h:PS w0 w B ((l',.deferred (some []))::(l,.loop (Rr .ready none))::(n4,Cs (Obcs s.1) 117)::(n1,Cs [.pointer (some (Addr.mk B.pb 0 none))] 91)::R) s.2)
  (hpost:∀ w',PS w0 w' B ((l',.deferred (some []))::(l,.loop (Rr .ready none))::(n4,Cs (Obcs (aStep B.T B.e s a).1) 117)::(n1,Cs [.pointer (some (Addr.mk B.pb 0 none))] 91)::R) (aStep B.T B.e s a).2→post none w') :
  f93_ra1 (Addr.mk n1 0 none) (Addr.mk n4 0 none) a w l Rr post:=by
 rw [f93_ra1_eq]
 refine ⟨h.get (k:=1) rfl,?_⟩
 have h1:PS w0 _ B ((l',.deferred (some []))::(l,.loop (Rr .busy none))::(n4,Cs (Obcs s.1) 117)::(n1,Cs [.pointer (some (Addr.mk B.pb 0 none))] 91)::R) s.2:=h.putR (k:=1) rfl (.loop (Rr .busy none))
 rw [f93_s2_eq]
 refine ⟨by omega,_,build147t _,?_⟩
 refine h1.object (true,w32 (a.tdiv 4)) fun n26 w2 hn26 h2=>?_
 refine h2.ldA (k:=0) (i:=0) rfl (by simp [Obcs]) ?_
 refine h2.ldA (k:=3) (i:=0) rfl (by simp [Obcs]) ?_
 refine ⟨_,eqO (true,w32 (a.tdiv 4)) s.1,?_⟩
 have fin:∀ w3 (x:Ob) (q:Pl),PS w0 w3 B ((n26,Cs (Obcs (true,w32 (a.tdiv 4))) 117)::(l',.deferred (some []))::(l,.loop (Rr .busy none))::(n4,Cs (Obcs x) 117)::(n1,Cs [.pointer (some (Addr.mk B.pb 0 none))] 91)::R) q→
   aStep B.T B.e s a=(x,q)→w3.heap[l]?=some (.loop (Rr .busy none))∧post none (w3.putObj l (.loop (Rr .ready none))):=fun w3 x q h3 hs=>by
  refine ⟨h3.get (k:=2) rfl,hpost _ ?_⟩
  rw [hs]
  exact ((h3.putR (k:=2) rfl (.loop (Rr .ready none))).tail hn26)
 by_cases hx:((true,w32 (a.tdiv 4)):Ob)=s.1
 ·rw [decide_eq_true hx,BIf_true]
  exact fin w2 s.1 s.2 h2 (by simp [aStep,hx])
 ·rw [decide_eq_false hx,BIf_false,f93_s3_eq]
  refine h2.ldA (k:=0) (i:=0) rfl (by simp [Obcs]) ?_
  refine h2.stA (k:=3) (i:=0) rfl (by simp [Obcs]) (by simp [Obcs]) (by simp [Obcs,Value.oneCell']) fun w3 h3=>?_
  have h3:PS w0 w3 B ((n26,Cs (Obcs (true,w32 (a.tdiv 4))) 117)::(l',.deferred (some []))::(l,.loop (Rr .busy none))::(n4,Cs (Obcs (true,w32 (a.tdiv 4))) 117)::(n1,Cs [.pointer (some (Addr.mk B.pb 0 none))] 91)::R) s.2:=h3
  have hp1:∀ {w:World} {q:Pl},PS w0 w B ((n26,Cs (Obcs (true,w32 (a.tdiv 4))) 117)::(l',.deferred (some []))::(l,.loop (Rr .busy none))::(n4,Cs (Obcs (true,w32 (a.tdiv 4))) 117)::(n1,Cs [.pointer (some (Addr.mk B.pb 0 none))] 91)::R) q→
    w.cell? (Addr.mk n1 0 none)=some (.pointer (some (Addr.mk B.pb 0 none))):=fun h=>by rw [cell_of (h.get (k:=4) rfl)]; rfl
  refine ⟨_,hp1 h3,h3.ldA (k:=0) (i:=0) rfl (by simp [Obcs]) ?_⟩
  refine number_ps h3 hB (true,w32 (a.tdiv 4)) fun w4 h4=>⟨_,rfl,_,hp1 h4,h4.ldA (k:=0) (i:=0) rfl (by simp [Obcs]) ?_⟩
  refine acquire_ps h4 hB (true,w32 (a.tdiv 4)) fun w5 h5=>⟨rfl,_,hp1 h5,_,build99a 4 _,?_⟩
  refine tick_ps h5 hB (by simpa [acquire,number_orders] using hn) _ fun w6 h6=>⟨rfl,_,hp1 h6,h6.ldA (k:=0) (i:=0) rfl (by simp [Obcs]) ?_⟩
  refine release_ps h6 hB (true,w32 (a.tdiv 4)) fun w7 h7=>⟨rfl,?_⟩
  exact fin w7 _ _ h7 (by simp [aStep,hx,atomic1])
variable {p:Pl}
theorem PS.perm {R':HL} (h:PS w0 w B R p) (hp:R.Perm R'):PS w0 w B R' p:=by
 obtain ⟨D,L,rfl,hs,h1,h2,h3⟩:=h
 exact ⟨D,L,rfl,hs.perm (List.Perm.append_left L (by simpa [plH] using hp)),h1,h2,h3⟩
theorem St.two {D:PD} {L:HL} {x y:Nat × Obj} (h:St w0 w (x::y::(L++plH B D R))):St w0 w (L++plH B D (y::x::R)):=
 h.perm ((List.Perm.swap y x _).trans ((List.Perm.cons y plH_perm).trans plH_perm))
theorem bytes_ps (h:PS w0 w B R p) (a n:Int)
  (hK:∀ b1 b2 w',w0.heap.size≤b1→w0.heap.size≤b2→PS w0 w' B ((b1,Cs [I64 n] 3)::(b2,Cs [.int .u32 a] 43)::R) p→K (.func (.func 71) #[] #[.pointer (some (Addr.mk b1 0 none)),.pointer (some (Addr.mk b2 0 none))]) w') :
  CallL P 37 [.int .u32 a,.int .i64 n] w K:=by
 refine f37_ok _ _ _ _ ?_
 rw [f37_eq]
 exact h.newC fun b2 w1 h2 h1'=>h1'.newC fun b1 w2 h1 h2'=>hK b1 b2 w2 h1 h2 h2'
def aSt (T:Th) (e:Ev) (p:Pl) (i:Nat):Ob × Pl:=((Mo.bytes e.a e.n).take i).foldl (aStep T e) ((false,0),p)
theorem bytes_len (a n:Int):(Mo.bytes a n).length=n.toNat:=by simp [Mo.bytes]
theorem bytes_get (a n:Int) {i:Nat} (hi:i < (Mo.bytes a n).length):(Mo.bytes a n)[i]=w32 (a+w32 (i:Int)):=by simp [Mo.bytes]
theorem aSt_succ (T:Th) (e:Ev) (p:Pl) {i:Nat} (hi:i < e.n.toNat):aSt T e p (i+1)=aStep T e (aSt T e p i) (w32 (e.a+w32 (i:Int))):=by
 have hl:i < (Mo.bytes e.a e.n).length:=by rw [bytes_len]; exact hi
 unfold aSt
 rw [take_succ' _ hl,List.foldl_append,bytes_get]
 rfl
theorem aSt_orders (T:Th) (e:Ev) (p:Pl) (i:Nat):(aSt T e p i).2.orders.length≤p.orders.length+i:=by
 have key:∀ (l:List Int) (s:Ob × Pl),(l.foldl (aStep T e) s).2.orders.length≤s.2.orders.length+l.length:=by
  intro l
  induction l with
  | nil=>intro s; simp
  | cons a r ih=>
   intro s
   have h1:=ih (aStep T e s a)
   have h2:(aStep T e s a).2.orders.length≤s.2.orders.length+1:=by
    unfold aStep
    split
    ·omega
    ·rw [atomic1_orders]; exact Nat.le_refl _
   simp only [List.foldl_cons,List.length_cons]
   omega
 have:_≤p.orders.length+_:=key ((Mo.bytes e.a e.n).take i) ((false,0),p)
 have h2:((Mo.bytes e.a e.n).take i).length≤i:=by simp; omega
 unfold aSt
 omega
theorem atomic_eq (T:Th) (e:Ev) (p:Pl):(aSt T e p e.n.toNat).2=Mo.atomic T e p:=by
 unfold aSt Mo.atomic
 rw [List.take_of_length_le (by rw [bytes_len]; exact Nat.le_refl _),atomicL_fold]
theorem build147z (wq:World):(Instr.build 117 [].toArray).run P wq=.ok (.agg (Obcs (false,0)).toArray) wq:=by kernel_rfl
theorem atomic_ps (h:PS w0 w B R p) (hB:PBok B) (hn:p.orders.length+B.e.n.toNat < 1000000) (hK:∀ w',PS w0 w' B R (Mo.atomic B.T B.e p)→K (.tuple #[]) w'):CallL P 93 [.pointer (some (Addr.mk B.pb 0 none))] w K:=by
 refine f93_ok _ _ _ ?_
 rw [f93_eq]
 refine h.newC fun n1 w2 hn1 h2=>?_
 refine ⟨_,build147z,?_⟩
 refine h2.object (false,0) fun n4 w6 hn4 h6=>?_
 have h6d:=h6.drew
 have hp1:w6.drew.cell? (Addr.mk n1 0 none)=some (.pointer (some (Addr.mk B.pb 0 none))):=by rw [cell_of (h6d.get (k:=1) rfl)]; rfl
 refine ⟨_,hp1,B.e.a,h6d.ev 3 (by omega),_,hp1,B.e.n,h6d.ev 5 (by omega),?_⟩
 refine bytes_ps h6d B.e.a B.e.n fun b1 b2 w14 hb1 hb2 h14=>⟨_,rfl,?_⟩
 rw [f93_s0_eq]
 have h14:=h14.perm (R':=(n4,Cs (Obcs (false,0)) 117)::(n1,Cs [.pointer (some (Addr.mk B.pb 0 none))] 91)::(b1,Cs [I64 B.e.n] 3)::(b2,Cs [.int .u32 B.e.a] 43)::R)
  ((List.perm_append_comm (l₁:=[(b1,Cs [I64 B.e.n] 3),(b2,Cs [.int .u32 B.e.a] 43)]) (l₂:=[(n4,Cs (Obcs (false,0)) 117),(n1,Cs [.pointer (some (Addr.mk B.pb 0 none))] 91)])).append_right R)
 let RR:Ob→List (Nat × Obj):=fun x=>(n4,Cs (Obcs x) 117)::(n1,Cs [.pointer (some (Addr.mk B.pb 0 none))] 91)::(b1,Cs [I64 B.e.n] 3)::(b2,Cs [.int .u32 B.e.a] 43)::R
 let I:Nat→List (Nat × Obj)→Prop:=fun i H'=>∃ (D:PD) (L:HL),D.p=(aSt B.T B.e p i).2∧H'=L++plH B D (RR (aSt B.T B.e p i).1)∧PDok D∧SlO 4 72 D.ov D.p.orders.length (ords D.p.orders) L∧New w0 L
 obtain ⟨D0,L0,hD0,hs0,hd1,hd2,hd3⟩:=h14
 refine range_bytes (n:=B.e.n) (at_:=B.e.a) (t1:=3) (t2:=43) hs0 (by simp) (by omega) I (fun _ _=>False) ⟨D0,L0,by rw [hD0]; rfl,rfl,hd1,by rw [hD0]; exact hd2,hd3⟩ ?_ ?_ ?_ ?_
 ·rintro i H' ⟨D,L,_,rfl,_⟩
  simp [RR]
 ·rintro l l' Rr post i W H' hi ⟨D,L,hDp,rfl,h1,h2,h3⟩ hs hl hl' hp _
  rw [f93_rd1_eq]
  refine ⟨rfl,?_⟩
  have hps:PS w0 W B ((l',.deferred (some []))::(l,.loop (Rr .ready none))::RR (aSt B.T B.e p i).1) (aSt B.T B.e p i).2:=⟨D,L,hDp,St.two hs,h1,by rw [← hDp]; exact h2,h3⟩
  have ho:=aSt_orders B.T B.e p i
  refine atomic_body (s:=aSt B.T B.e p i) hB (by omega) hps fun w' h'=>?_
  have e:=aSt_succ B.T B.e p (i:=i) (by omega)
  obtain ⟨D',L',hD',hs',h1',h2',h3'⟩:=h'
  refine hp w' (L'++plH B D' (RR (aSt B.T B.e p (i+1)).1)) ⟨D',L',by rw [hD',e]; rfl,rfl,h1',by rw [hD']; exact h2',h3'⟩ ?_
  rw [e]
  exact hs'.perm (((List.Perm.swap _ _ _).trans ((List.Perm.cons _ plH_perm).trans plH_perm)).symm)
 ·rintro W H' l' hl' ⟨D,L,hDp,rfl,h1,h2,h3⟩ hs
  show f93_rn1 (Addr.mk n1 0 none) (Addr.mk n4 0 none) [mk l'] W K
  rw [f93_rn1_eq]
  refine ⟨hs.get (k:=0) rfl,?_⟩
  have hps:PS w0 W B ((l',.deferred (some []))::RR (aSt B.T B.e p B.e.n.toNat).1) (aSt B.T B.e p B.e.n.toNat).2:=⟨D,L,hDp,hs.perm plH_perm,h1,by rw [← hDp]; exact h2,h3⟩
  rw [atomic_eq] at hps
  have h5:=hps.putR (k:=0) rfl (.deferred none)
  exact hK _ (((((h5.tail hl').tail hn4).tail hn1).tail hb1).tail hb2)
 ·rintro c W H' l' _ hJ
  exact hJ.elim
end Go.Fx.Tryz
namespace Go.Fx.Tryz
set_option maxRecDepth 100000
open Go Go.Fx Go.Proofs
noncomputable def c35:Code:=bodyOf Tryz.f35
noncomputable def rs35:List ResultVar:=Tryz.f35.results.toList
abbrev f35_kb (K:KT):Exit→YT:=bodyK P rs35 K
def f35 (a:OA) (b:Array Value) (w:World) (K:KT):Prop:=CS P c35 none [4,5] [4,5] (f35_kb K) (env0 100 [(VP a),(Value.agg b)]) w
abbrev f35_k2 (K:KT):Exit→YT:=kseq P (cA c35 14) (cA c35 15) none [4,5] [4,5] (f35_kb K)
def f35_s0 (a:Bool) (b:Addr) (c:Int) (d:OA) (w:World) (K:KT):Prop:=SG P (cA c35 29) none [3,6,0] [4,5] (f35_k2 K) (Env.mk 100 [(45,(VB a)),(3,(VP (some b))),(6,(VI c)),(0,(VP d))] []) w
def f35_s1 (a:Addr) (b:Int) (c:OA) (w:World) (K:KT):Prop:=SG P (cA c35 15) none [4,5] [4,5] (f35_kb K) (Env.mk 100 [(3,(VP (some a))),(6,(VI b)),(0,(VP c))] []) w
abbrev f35_k5 (K:KT):Exit→YT:=kseq P (cA c35 30) (cA c35 31) none [4,5] [4,5] (f35_kb K)
def f35_s2 (a:Bool) (b:Addr) (c:Int) (d:OA) (w:World) (K:KT):Prop:=SG P (cA c35 123) none [3,6,0] [4,5] (f35_k5 K) (Env.mk 100 [(75,(VB a)),(3,(VP (some b))),(6,(VI c)),(0,(VP d))] []) w
def f35_s3 (a:Addr) (b:Int) (c:OA) (w:World) (K:KT):Prop:=SG P (cA c35 31) none [4,5] [4,5] (f35_kb K) (Env.mk 100 [(3,(VP (some a))),(6,(VI b)),(0,(VP c))] []) w
def f35_s4 (a b:Addr) (w:World) (K:KT):Prop:=SG P (cA c35 63) none [4,5] [4,5] (f35_kb K) (Env.mk 100 [(10,(VP (some a))),(3,(VP (some b)))] []) w
def f35_s5 (a:Addr) (w:World) (K:KT):Prop:=SG P (cA c35 127) none [4,5] [4,5] (f35_kb K) (Env.mk 100 [(10,(VP (some a)))] []) w
theorem f35_s5_eq (a:Addr) (w:World) (K:KT):f35_s5 a w K=(∃ b:Bool,w.drew.cell? (a.add 22)=some (.bool b)∧K (Value.tuple [(Value.pointer (some a)),(Value.bool (!b))].toArray) w.drew):=by kernel_rfl
theorem f35_s4_eq (a d:Addr) (w:World) (K:KT):f35_s4 a d w K=((CallL P 70 [] w.drew (fun j e=>∃ f:Array Value,j=(.agg f)∧∃ b:Int,e.cell? d=some (.int .i64 b)∧0≤(b:Int)∧(b:Int) < (25:Nat)∧∃ g:Value,f[(Int.toNat b * 1)]?=some g∧CallF P g [(Value.pointer (some a))] e (fun k l=>k=(.tuple [].toArray)∧f35_s5 a l K)))∧(∃ c:Int,w.drew.cell? d=some (.int .i64 c)∧CallL P 70 [] w.drew (fun m n=>∃ h:Array Value,m=(.agg h)∧0≤(c:Int)∧(c:Int) < (25:Nat)∧∃ i:Value,h[(Int.toNat c * 1)]?=some i∧CallF P i [(Value.pointer (some a))] n (fun o p=>o=(.tuple [].toArray)∧f35_s5 a p K)))):=by kernel_rfl
theorem f35_s3_eq (a:Addr) (b:Int) (c:OA) (w:World) (K:KT):f35_s3 a b c w K=(optS c (fun h=>0≤(b:Int)∧(b:Int) < (8:Nat)∧LdA 6 a w.drew (fun d=>LdA 8 (h.add (Int.toNat b * 8)) w.drew (fun e=>(NewO (.map #[] 0) w.drew (fun i j=>NewO (.map #[] 0) j (fun k l=>∃ f:Array Value,(∀ wq,(Instr.build 106 [(0,(Value.pointer c)),(1,(Value.agg d)),(3,(Value.agg e)),(5,(Value.map (some i))),(6,(Value.map (some k))),(7,(Value.int .i64 (-1))),(8,(Value.int .i64 (-1)))].toArray).run P wq=.ok (.agg f) wq)∧NewC f 106 l (fun m n=>f35_s4 (Addr.mk m 0 none) a n K))))∧(NewO (.map #[] 0) w.drew (fun o p=>NewO (.map #[] 0) p (fun q r=>∃ g:Array Value,(∀ wq,(Instr.build 106 [(0,(Value.pointer c)),(1,(Value.agg d)),(3,(Value.agg e)),(5,(Value.map (some q))),(6,(Value.map (some o))),(7,(Value.int .i64 (-1))),(8,(Value.int .i64 (-1)))].toArray).run P wq=.ok (.agg g) wq)∧NewC g 106 r (fun s t=>f35_s4 (Addr.mk s 0 none) a t K)))))))):=by kernel_rfl
theorem f35_s2_eq (a:Bool) (b:Addr) (c:Int) (d:OA) (w:World) (K:KT):f35_s2 a b c d w K=(BIf a (K (Value.tuple [(Value.pointer none),(Value.bool false)].toArray) w) (f35_s3 b c d w K)):=by kernel_rfl
theorem f35_s1_eq (a:Addr) (c:Int) (d:OA) (w:World) (K:KT):f35_s1 a c d w K=(LdA 6 a w (fun m=>CallL P 36 [(Value.agg m)] w (fun n b=>∃ o:Bool,∃ e:Bool,∃ f:Bool,n=(.tuple [(Value.bool o),(Value.bool e),(Value.bool f)].toArray)∧BIf f (∃ g:Int,b.cell? (a.add 5)=some (.int .i64 g)∧BIf (decide ((g:Int) < 0)) (f35_s2 true a c d b K) (∃ h:Int,b.cell? (a.add 5)=some (.int .i64 h)∧BIf (decide ((h:Int) > 65536)) (f35_s2 true a c d b K) (BIf e (∃ i:Int,b.cell? (a.add 5)=some (.int .i64 i)∧BIf (decide ((i:Int) < 1)) (f35_s2 true a c d b K) (∃ j:Int,b.cell? (a.add 5)=some (.int .i64 j)∧f35_s2 (decide ((j:Int) > 16)) a c d b K)) (f35_s2 false a c d b K)))) (BIf e (∃ k:Int,b.cell? (a.add 5)=some (.int .i64 k)∧BIf (decide ((k:Int) < 1)) (f35_s2 true a c d b K) (∃ l:Int,b.cell? (a.add 5)=some (.int .i64 l)∧f35_s2 (decide ((l:Int) > 16)) a c d b K)) (f35_s2 false a c d b K))))):=by kernel_rfl
theorem f35_s0_eq (a:Bool) (b:Addr) (c:Int) (d:OA) (w:World) (K:KT):f35_s0 a b c d w K=(BIf a (K (Value.tuple [(Value.pointer none),(Value.bool false)].toArray) w) (f35_s1 b c d w K)):=by kernel_rfl
theorem f35_eq (c:OA) (e:Array Value) (w:World) (K:KT):f35 c e w K=(NewC e 45 w (fun d b=>∃ a:Int,b.cell? ((Addr.mk d 0 none).add 1)=some (.int .i64 a)∧∃ f:Int,b.cell? (Addr.mk d 0 none)=some (.int .i64 f)∧BIf (decide ((f:Int) < 1)) (f35_s0 true (Addr.mk d 0 none) a c b K) (∃ g:Int,b.cell? (Addr.mk d 0 none)=some (.int .i64 g)∧BIf (decide ((g:Int) > 24)) (f35_s0 true (Addr.mk d 0 none) a c b K) (BIf (decide ((a:Int) < 0)) (f35_s0 true (Addr.mk d 0 none) a c b K) (BIf (decide ((a:Int)≥8)) (f35_s0 true (Addr.mk d 0 none) a c b K) (optS c (fun j=>0≤(a:Int)∧(a:Int) < (8:Nat)∧∃ h:Bool,b.cell? ((j.add 64).add (Int.toNat a * 1))=some (.bool h)∧BIf (!h) (f35_s0 true (Addr.mk d 0 none) a c b K) (optS c (fun k=>0≤(a:Int)∧(a:Int) < (8:Nat)∧∃ i:Bool,b.cell? ((k.add 72).add (Int.toNat a * 1))=some (.bool i)∧f35_s0 i (Addr.mk d 0 none) a c b K))))))))):=by kernel_rfl
theorem f35_ok (a:OA) (b:Array Value) (w:World) (K:KT) (h:f35 a b w K):CallL P 35 [(Value.pointer a),(Value.agg b)] w K:=okCS c35 Tryz.func35 (by kernel_rfl) (by kernel_rfl) h
noncomputable def c40:Code:=bodyOf Tryz.f40
noncomputable def rs40:List ResultVar:=Tryz.f40.results.toList
abbrev f40_kb (K:KT):Exit→YT:=bodyK P rs40 K
def f40 (a b:OA) (w:World) (K:KT):Prop:=CS P c40 none [] [] (f40_kb K) (env0 108 [(VP a),(VP b)]) w
def f40_s0 (a:OA) (b:Int) (c:OA) (w:World) (K:KT):Prop:=SG P (cA c40 7) none [] [] (f40_kb K) (Env.mk 108 [(0,(VP a)),(4,(VI b)),(1,(VP c))] []) w
abbrev f40_k2 (K:KT):Exit→YT:=kseq P (cA c40 14) (cA c40 15) none [] [] (f40_kb K)
abbrev f40_k4 (K:KT):Exit→YT:=kblock 0 (f40_k2 K)
def f40_lp1 (K:KT) (Y1:YT) (e:Env) (w:World):Prop:=Join (fun e w=>CS P (cA c40 116) none [0,27,4,1] [0,4,1] (kloop [0,27,4,1] Y1 (f40_k4 K)) e w) e w
abbrev f40_kl1 (K:KT) (Y1:YT):Exit→YT:=kloop [0,27,4,1] Y1 (f40_k4 K)
def f40_lb1 (a:OA) (b:Addr) (c:Int) (d:OA) (w:World) (K:KT) (Y1:YT):Prop:=SG P (cA c40 116) none [0,27,4,1] [0,4,1] (f40_kl1 K Y1) (Env.mk 108 [(0,(VP a)),(27,(VP (some b))),(4,(VI c)),(1,(VP d))] []) w
def f40_s2 (a:OA) (b:Int) (c:OA) (w:World) (K:KT):Prop:=SG P (cA c40 15) none [] [] (f40_kb K) (Env.mk 108 [(0,(VP a)),(4,(VI b)),(1,(VP c))] []) w
abbrev f40_k7 (K:KT):Exit→YT:=kseq P (cA c40 30) (cA c40 31) none [] [] (f40_kb K)
abbrev f40_k9 (K:KT):Exit→YT:=kblock 2 (f40_k7 K)
def f40_lp3 (K:KT) (Y3:YT) (e:Env) (w:World):Prop:=Join (fun e w=>CS P (cA c40 244) none [0,43,4,1] [4,0,1] (kloop [0,43,4,1] Y3 (f40_k9 K)) e w) e w
abbrev f40_kl3 (K:KT) (Y3:YT):Exit→YT:=kloop [0,43,4,1] Y3 (f40_k9 K)
def f40_lb3 (a:OA) (b:Addr) (c:Int) (d:OA) (w:World) (K:KT) (Y3:YT):Prop:=SG P (cA c40 244) none [0,43,4,1] [4,0,1] (f40_kl3 K Y3) (Env.mk 108 [(0,(VP a)),(43,(VP (some b))),(4,(VI c)),(1,(VP d))] []) w
def f40_s4 (a:Int) (b c:OA) (w:World) (K:KT):Prop:=SG P (cA c40 31) none [] [] (f40_kb K) (Env.mk 108 [(4,(VI a)),(0,(VP b)),(1,(VP c))] []) w
abbrev f40_k12 (K:KT):Exit→YT:=kseq P (cA c40 62) (cA c40 63) none [] [] (f40_kb K)
def f40_s5 (a:Int) (b c:OA) (w:World) (K:KT):Prop:=SG P (cA c40 501) none [4,0,1] [] (f40_k12 K) (Env.mk 108 [(4,(VI a)),(0,(VP b)),(1,(VP c))] []) w
def f40_s6 (a:Int) (b c:OA) (w:World) (K:KT):Prop:=SG P (cA c40 63) none [] [] (f40_kb K) (Env.mk 108 [(4,(VI a)),(0,(VP b)),(1,(VP c))] []) w
def f40_s7 (a:Int) (b c:OA) (w:World) (K:KT):Prop:=SG P (cA c40 127) none [] [] (f40_kb K) (Env.mk 108 [(4,(VI a)),(0,(VP b)),(1,(VP c))] []) w
theorem f40_s7_eq (a:Int) (b c:OA) (w:World) (K:KT):f40_s7 a b c w K=(optS c (fun f=>∃ d:Bool,w.cell? (f.add 21)=some (.bool d)∧BIf d (optS b (fun g=>0≤(a:Int)∧(a:Int) < (8:Nat)∧optS b (fun h=>∃ e:Int,w.drew.cell? ((g.add 80).add (Int.toNat a * 1))=some (.int .i64 e)∧0≤(a:Int)∧(a:Int) < (8:Nat)∧St1 ((h.add 80).add (Int.toNat a * 1)) (Value.int .i64 (IntKind.wrap .i64 ((e:Int)+1))) w.drew (fun i=>K (Value.tuple [].toArray) i)))) (K (Value.tuple [].toArray) w))):=by kernel_rfl
theorem f40_s6_eq (d:Int) (b a:OA) (w:World) (K:KT):f40_s6 d b a w K=(optS a (fun f=>∃ e:Int,w.cell? (f.add 20)=some (.int .i64 e)∧BIf (decide ((e:Int)≥0)) (optS a (fun g=>optS b (fun h=>∃ c:Int,w.drew.cell? (g.add 20)=some (.int .i64 c)∧0≤(c:Int)∧(c:Int) < (8:Nat)∧St1 ((h.add 72).add (Int.toNat c * 1)) (Value.bool true) w.drew (fun i=>f40_s7 d b a i K)))) (f40_s7 d b a w K))):=by kernel_rfl
theorem f40_s5_eq (d:Int) (c a:OA) (w:World) (K:KT):f40_s5 d c a w K=(optS a (fun e=>optS c (fun f=>optS a (fun g=>∃ b:Int,w.drew.cell? (e.add 19)=some (.int .i64 b)∧0≤(b:Int)∧(b:Int) < (8:Nat)∧LdA 8 (g.add 8) w.drew (fun h=>CallL P 74 [(Value.pointer (some (f.add (Int.toNat b * 8)))),(Value.agg h)] w.drew (fun i j=>i=(.tuple [].toArray)∧f40_s6 d c a j K)))))):=by kernel_rfl
theorem f40_s4_eq (d:Int) (b a:OA) (w:World) (K:KT):f40_s4 d b a w K=(optS a (fun f=>∃ e:Int,w.cell? (f.add 19)=some (.int .i64 e)∧BIf (decide ((e:Int)≥0)) (optS a (fun g=>optS b (fun h=>∃ c:Int,w.drew.cell? (g.add 19)=some (.int .i64 c)∧0≤(c:Int)∧(c:Int) < (8:Nat)∧St1 ((h.add 64).add (Int.toNat c * 1)) (Value.bool true) w.drew (fun i=>f40_s5 d b a i K)))) (f40_s6 d b a w K))):=by kernel_rfl
def f40_s8 (a:OA) (b:Addr) (c:Int) (d:OA) (w:World) (K:KT) (Y3:YT):Prop:=SG P (cA c40 979) none [0,43,4,1] [4,0,1] (f40_kl3 K Y3) (Env.mk 108 [(0,(VP a)),(43,(VP (some b))),(4,(VI c)),(1,(VP d))] []) w
theorem f40_s8_eq (a:OA) (b:Addr) (d:Int) (e:OA) (w:World) (K:KT) (Y3:YT):f40_s8 a b d e w K Y3=(∃ (k80 f:Value) (g:World),(Instr.entry (Value.pointer (some b))).run P w=.ok (.tuple #[k80,f]) g∧∃ h:Array Value,k80=(.agg h)∧∃ i:Int,f=(.int .i64 i)∧NewC (zcells P 117) 117 g (fun j m=>StA 2 (Addr.mk j 0 none) h m (fun c=>optS a (fun n=>∃ k:Option Nat,c.drew.cell? (n.add 89)=some (.map k)∧LdA 2 (Addr.mk j 0 none) c.drew (fun o=>∃ l:World,(Instr.mapUpdate 31 (Value.map k) (Value.agg o) (Value.int .i64 i)).run P c.drew=.ok () l∧Y3 (Env.mk 108 [(0,(Value.pointer a)),(43,(Value.pointer (some b))),(4,(Value.int .i64 d)),(1,(Value.pointer e))] []) l))))):=by kernel_rfl
theorem f40_lb3_eq (b:OA) (a:Addr) (c:Int) (d:OA) (w:World) (K:KT) (Y3:YT):f40_lb3 b a c d w K Y3=((∃ e:World,(Instr.next (Value.pointer (some a)) false 0).run P w=.ok (.tuple #[.bool false]) e∧f40_s4 c b d e K)∨∃ (k36 g:Value) (f:World),(Instr.next (Value.pointer (some a)) false 0).run P w=.ok (.tuple #[.bool true,k36,g]) f∧f40_s8 b a c d f K Y3):=by kernel_rfl
theorem f40_s2_eq (b:OA) (c:Int) (a:OA) (w:World) (K:KT):f40_s2 b c a w K=(optS a (fun g=>∃ d:Option Nat,w.cell? (g.add 18)=some (.map d)∧∃ (e:Nat) (f:World),(Instr.range 31 (Value.map d)).run P w=.ok (.pointer (some (Addr.mk e 0 none))) f∧LoopE (f40_lp3 K) (Env.mk 108 [(0,(Value.pointer b)),(43,(Value.pointer (some (Addr.mk e 0 none)))),(4,(Value.int .i64 c)),(1,(Value.pointer a))] []) f)):=by kernel_rfl
def f40_s9 (a:OA) (b:Addr) (c:Int) (d:OA) (w:World) (K:KT) (Y1:YT):Prop:=SG P (cA c40 467) none [0,27,4,1] [0,4,1] (f40_kl1 K Y1) (Env.mk 108 [(0,(VP a)),(27,(VP (some b))),(4,(VI c)),(1,(VP d))] []) w
theorem f40_s9_eq (b:OA) (c:Addr) (d:Int) (e:OA) (w:World) (K:KT) (Y1:YT):f40_s9 b c d e w K Y1=(∃ (k96 f:Value) (g:World),(Instr.entry (Value.pointer (some c))).run P w=.ok (.tuple #[k96,f]) g∧∃ h:Array Value,k96=(.agg h)∧∃ i:Array Value,f=(.agg i)∧NewC (zcells P 117) 117 g (fun j n=>NewC (zcells P 27) 27 n (fun k o=>StA 2 (Addr.mk j 0 none) h o (fun p=>StA 8 (Addr.mk k 0 none) i p (fun a=>optS b (fun q=>∃ l:Option Nat,a.drew.cell? (q.add 88)=some (.map l)∧LdA 2 (Addr.mk j 0 none) a.drew (fun r=>LdA 8 (Addr.mk k 0 none) a.drew (fun s=>∃ m:World,(Instr.mapUpdate 30 (Value.map l) (Value.agg r) (Value.agg s)).run P a.drew=.ok () m∧Y1 (Env.mk 108 [(0,(Value.pointer b)),(27,(Value.pointer (some c))),(4,(Value.int .i64 d)),(1,(Value.pointer e))] []) m)))))))):=by kernel_rfl
theorem f40_lb1_eq (b:OA) (a:Addr) (c:Int) (d:OA) (w:World) (K:KT) (Y1:YT):f40_lb1 b a c d w K Y1=((∃ e:World,(Instr.next (Value.pointer (some a)) false 0).run P w=.ok (.tuple #[.bool false]) e∧f40_s2 b c d e K)∨∃ (k21 g:Value) (f:World),(Instr.next (Value.pointer (some a)) false 0).run P w=.ok (.tuple #[.bool true,k21,g]) f∧f40_s9 b a c d f K Y1):=by kernel_rfl
theorem f40_s0_eq (b:OA) (c:Int) (a:OA) (w:World) (K:KT):f40_s0 b c a w K=(optS a (fun g=>∃ d:Option Nat,w.cell? (g.add 17)=some (.map d)∧∃ (e:Nat) (f:World),(Instr.range 30 (Value.map d)).run P w=.ok (.pointer (some (Addr.mk e 0 none))) f∧LoopE (f40_lp1 K) (Env.mk 108 [(0,(Value.pointer b)),(27,(Value.pointer (some (Addr.mk e 0 none)))),(4,(Value.int .i64 c)),(1,(Value.pointer a))] []) f)):=by kernel_rfl
theorem f40_eq (c b:OA) (w:World) (K:KT):f40 c b w K=(optS b (fun d=>∃ a:Int,w.cell? ((d.add 1).add 1)=some (.int .i64 a)∧optS b (fun e=>optS c (fun f=>LdA 8 (e.add 8) w.drew (fun g=>0≤(a:Int)∧(a:Int) < (8:Nat)∧StA 8 (f.add (Int.toNat a * 8)) g w.drew (fun h=>f40_s0 c a b h K)))))):=by kernel_rfl
theorem f40_ok (a b:OA) (w:World) (K:KT) (h:f40 a b w K):CallL P 40 [(Value.pointer a),(Value.pointer b)] w K:=okCS c40 Tryz.func40 (by kernel_rfl) (by kernel_rfl) h
noncomputable def c38:Code:=bodyOf Tryz.f38
noncomputable def rs38:List ResultVar:=Tryz.f38.results.toList
abbrev f38_kb (K:KT):Exit→YT:=bodyK P rs38 K
def f38 (a:OA) (b c:Array Value) (w:World) (K:KT):Prop:=CS P c38 none [6,7] [6,7] (f38_kb K) (env0 37 [(VP a),(Value.agg b),(Value.agg c)]) w
abbrev f38_k1 (K:KT):Exit→YT:=kseq P (cA c38 6) (cA c38 7) none [6,7] [6,7] (f38_kb K)
abbrev f38_k3 (K:KT):Exit→YT:=kblock 0 (f38_k1 K)
def f38_lp0 (K:KT) (Y0:YT) (e:Env) (w:World):Prop:=Join (fun e w=>CS P (cA c38 52) none [6,15,5,4,13,7,14] [6,7] (kloop [6,15,5,4,13,7,14] Y0 (f38_k3 K)) e w) e w
abbrev f38_kl0 (K:KT) (Y0:YT):Exit→YT:=kloop [6,15,5,4,13,7,14] Y0 (f38_k3 K)
def f38_lb0 (a:Addr) (b:Int) (c d:Addr) (f:OA) (g h:Nat) (i:Bool) (j:Int) (w:World) (K:KT) (Y0:YT):Prop:=SG P (cA c38 52) none [6,15,5,4,13,7,14] [6,7] (f38_kl0 K Y0) (Env.mk 37 [(6,(VP (some a))),(15,(VI b)),(5,(VP (some c))),(4,(VP (some d))),(13,(VS f g h)),(7,(VB i)),(14,(VI j))] []) w
def f38_s1 (a b c:Addr) (d:OA) (f g:Nat) (h i:Int) (j:Bool) (w:World) (K:KT) (Y0:YT):Prop:=SG P (cA c38 211) none [6,15,5,4,13,7,14] [6,7] (f38_kl0 K Y0) (Env.mk 37 [(6,(VP (some a))),(5,(VP (some b))),(4,(VP (some c))),(13,(VS d f g)),(14,(VI h)),(15,(VI i)),(7,(VB j))] []) w
abbrev f38_k6 (K:KT) (Y0:YT):Exit→YT:=kseq P (cA c38 422) (cA c38 423) none [6,15,5,4,13,7,14] [6,7] (f38_kl0 K Y0)
abbrev f38_k7 (K:KT) (Y0:YT):Exit→YT:=kblock 1 (f38_k6 K Y0)
def f38_s2 (a:Bool) (b c d:Addr) (f:OA) (g h:Nat) (i j:Int) (k:Addr) (l:Bool) (w:World) (K:KT) (Y0:YT):Prop:=SG P (cA c38 3379) none [6,5,4,13,7,14,15] [6,7,5,4,13,14,15] (f38_k7 K Y0) (Env.mk 37 [(32,(VB a)),(6,(VP (some b))),(5,(VP (some c))),(4,(VP (some d))),(13,(VS f g h)),(14,(VI i)),(15,(VI j)),(9,(VP (some k))),(7,(VB l))] []) w
def f38_s3 (a b c:Addr) (d:OA) (f g:Nat) (h:Bool) (i j:Int) (w:World) (K:KT) (Y0:YT):Prop:=SG P (cA c38 423) none [6,15,5,4,13,7,14] [6,7] (f38_kl0 K Y0) (Env.mk 37 [(6,(VP (some a))),(5,(VP (some b))),(4,(VP (some c))),(13,(VS d f g)),(7,(VB h)),(14,(VI i)),(15,(VI j))] []) w
theorem f38_s3_eq (a b c:Addr) (d:OA) (e f:Nat) (g:Bool) (h i:Int) (w:World) (K:KT) (Y0:YT):f38_s3 a b c d e f g h i w K Y0=(Y0 (Env.mk 37 [(6,(Value.pointer (some a))),(15,(Value.int .i64 (IntKind.wrap .i64 ((i:Int)+1)))),(5,(Value.pointer (some b))),(4,(Value.pointer (some c))),(13,(Value.slice d e f)),(7,(Value.bool g)),(14,(Value.int .i64 h))] []) w):=by kernel_rfl
theorem f38_s2_eq (b:Bool) (a c d:Addr) (e:OA) (f g:Nat) (h i:Int) (j:Addr) (k:Bool) (w:World) (K:KT) (Y0:YT):f38_s2 b a c d e f g h i j k w K Y0=(BIf b (LdA 5 j w (fun m=>StA 5 a m w (fun l=>LdA 5 a l (fun n=>K (Value.tuple [(Value.agg n),(Value.bool true)].toArray) l)))) (f38_s3 a c d e f g k h i w K Y0)):=by kernel_rfl
theorem f38_s1_eq (i d e:Addr) (f:OA) (g j:Nat) (k a:Int) (l:Bool) (w:World) (K:KT) (Y0:YT):f38_s1 i d e f g j k a l w K Y0=(optS f (fun q=>0≤(a:Int)∧(a:Int) < (g:Nat)∧LdA 6 (q.add (Int.toNat a * 6)) w (fun r=>NewC (zcells P 122) 122 w (fun b s=>StA 6 (Addr.mk b 0 none) r s (fun m=>LdA 5 (Addr.mk b 0 none) m.drew (fun t=>LdA 5 e m.drew (fun u=>CallL P 72 [(Value.agg t),(Value.agg u)] m.drew (fun v c=>∃ n:Bool,v=(.bool n)∧BIf n (∃ h:Int,c.cell? ((Addr.mk b 0 none).add 1)=some (.int .i64 h)∧0≤(h:Int)∧(h:Int) < (8:Nat)∧∃ o:Int,c.cell? (d.add (Int.toNat h * 1))=some (.int .i64 o)∧∃ p:Int,c.cell? ((Addr.mk b 0 none).add 5)=some (.int .i64 p)∧f38_s2 (decide ((o:Int) < p)) i d e f g j k a (Addr.mk b 0 none) l c K Y0) (f38_s2 false i d e f g j k a (Addr.mk b 0 none) l c K Y0))))))))):=by kernel_rfl
def f38_s4 (a:Addr) (w:World) (K:KT):Prop:=SG P (cA c38 7) none [6,7] [6,7] (f38_kb K) (Env.mk 37 [(6,(VP (some a)))] []) w
theorem f38_s4_eq (a:Addr) (w:World) (K:KT):f38_s4 a w K=(∃ b:Array Value,(∀ wq,(Instr.build 97 [].toArray).run P wq=.ok (.agg b) wq)∧StA 5 a b w (fun c=>LdA 5 a c (fun d=>K (Value.tuple [(Value.agg d),(Value.bool false)].toArray) c))):=by kernel_rfl
theorem f38_lb0_eq (a:Addr) (b:Int) (d e:Addr) (f:OA) (g h:Nat) (i:Bool) (c:Int) (w:World) (K:KT) (Y0:YT):f38_lb0 a b d e f g h i c w K Y0=(BIf (decide ((b:Int) < c)) (f38_s1 a d e f g h c b i w K Y0) (f38_s4 a w K)):=by kernel_rfl
theorem f38_eq (e:OA) (f g:Array Value) (w:World) (K:KT):f38 e f g w K=(NewC f 97 w (fun i j=>NewC g 27 j (fun k l=>NewC (zcells P 97) 97 l (fun m a=>optS e (fun n=>∃ (b:OA) (c d:Nat),a.cell? n=some (.slice b c d)∧∃ h:Int,(∀ wq,Ext a wq→(Builtin.len_ #[109] 3 [(Value.slice b c d)].toArray).run P wq=.ok (.int .i64 h) wq)∧LoopE (f38_lp0 K) (Env.mk 37 [(6,(Value.pointer (some (Addr.mk m 0 none)))),(15,(Value.int .i64 0)),(5,(Value.pointer (some (Addr.mk k 0 none)))),(4,(Value.pointer (some (Addr.mk i 0 none)))),(13,(Value.slice b c d)),(7,(Value.bool false)),(14,(Value.int .i64 h))] []) a))))):=by kernel_rfl
theorem f38_ok (a:OA) (b c:Array Value) (w:World) (K:KT) (h:f38 a b c w K):CallL P 38 [(Value.pointer a),(Value.agg b),(Value.agg c)] w K:=okCS c38 Tryz.func38 (by kernel_rfl) (by kernel_rfl) h
noncomputable def c39:Code:=bodyOf Tryz.f39
noncomputable def rs39:List ResultVar:=Tryz.f39.results.toList
abbrev f39_kb (K:KT):Exit→YT:=bodyK P rs39 K
def f39 (a:OA) (b:Array Value) (c d:Int) (w:World) (K:KT):Prop:=CS P c39 none [] [] (f39_kb K) (env0 40 [(VP a),(Value.agg b),(VI c),(VI d)]) w
def f39_s0 (a:Int) (b:Addr) (c:OA) (d:Int) (f:OA) (w:World) (K:KT):Prop:=SG P (cA c39 7) none [] [] (f39_kb K) (Env.mk 40 [(2,(VI a)),(5,(VP (some b))),(0,(VP c)),(3,(VI d)),(8,(VP f))] []) w
def f39_s1 (a:Int) (b:Addr) (c:OA) (d:Int) (f:OA) (w:World) (K:KT):Prop:=SG P (cA c39 15) none [] [] (f39_kb K) (Env.mk 40 [(2,(VI a)),(5,(VP (some b))),(0,(VP c)),(3,(VI d)),(8,(VP f))] []) w
theorem f39_s1_eq (d:Int) (e:Addr) (b:OA) (f:Int) (g:OA) (w:World) (K:KT):f39_s1 d e b f g w K=(optS g (fun z=>St1 z (Value.int .i64 (IntKind.wrap .i64 ((f:Int)+1))) w (fun c=>optS b (fun h=>LdA 5 e c.drew (fun a0=>∃ a:Array Value,(∀ wq,(Instr.build 122 [(0,(Value.agg a0)),(1,(Value.int .i64 d))].toArray).run P wq=.ok (.agg a) wq)∧(∃ (i:OA) (j k:Nat),c.drew.cell? h=some (.slice i j k)∧sizesAre 6 [(Value.agg a)]∧NewC (([(Value.agg a)].map fun (v:Value)=>v.cells.toList).flatten.toArray) 122 c.drew (fun b0 c0=>∃ (l:OA) (m n:Nat),∃ o:World,(Builtin.append_ #[109,109] 109 [(Value.slice i j k),(Value.slice (some (Addr.mk b0 0 none)) 1 1)].toArray).run P c0=.ok (.slice l m n) o∧optS b (fun d0=>St1 d0 (Value.slice l m n) o (fun e0=>K (Value.tuple [].toArray) e0))))∧(sizesAre 6 [(Value.agg a)]∧NewC (([(Value.agg a)].map fun (v:Value)=>v.cells.toList).flatten.toArray) 122 c.drew (fun f0 p=>∃ (q:OA) (r s:Nat),p.cell? h=some (.slice q r s)∧∃ (t:OA) (u x:Nat),∃ y:World,(Builtin.append_ #[109,109] 109 [(Value.slice q r s),(Value.slice (some (Addr.mk f0 0 none)) 1 1)].toArray).run P p=.ok (.slice t u x) y∧optS b (fun g0=>St1 g0 (Value.slice t u x) y (fun h0=>K (Value.tuple [].toArray) h0))))))))):=by kernel_rfl
theorem f39_s0_eq (c:Int) (d:Addr) (e:OA) (a:Int) (b:OA) (w:World) (K:KT):f39_s0 c d e a b w K=(optS b (fun g=>∃ f:Int,w.cell? g=some (.int .i64 f)∧BIf ((f:Int) == (IntKind.wrap .i64 ((a:Int)+1))) (K (Value.tuple [].toArray) w) (f39_s1 c d e a b w K))):=by kernel_rfl
theorem f39_eq (b:OA) (j:Array Value) (h i:Int) (w:World) (K:KT):f39 b j h i w K=(NewC j 97 w (fun a c=>optS b (fun k=>LdA 5 (Addr.mk a 0 none) c.drew (fun l=>(∃ d:Int,c.drew.cell? ((Addr.mk a 0 none).add 1)=some (.int .i64 d)∧0≤(d:Int)∧(d:Int) < (8:Nat)∧CallL P 73 [(Value.agg l)] c.drew (fun n o=>∃ e:Int,n=(.int .i64 e)∧0≤(e:Int)∧(e:Int) < (3:Nat)∧f39_s0 h (Addr.mk a 0 none) b i (some (((k.add 1).add (Int.toNat d * 3)).add (Int.toNat e * 1))) o K))∧(CallL P 73 [(Value.agg l)] c.drew (fun p m=>∃ f:Int,p=(.int .i64 f)∧∃ g:Int,m.cell? ((Addr.mk a 0 none).add 1)=some (.int .i64 g)∧0≤(g:Int)∧(g:Int) < (8:Nat)∧0≤(f:Int)∧(f:Int) < (3:Nat)∧f39_s0 h (Addr.mk a 0 none) b i (some (((k.add 1).add (Int.toNat g * 3)).add (Int.toNat f * 1))) m K)))))):=by kernel_rfl
theorem f39_ok (a:OA) (b:Array Value) (c d:Int) (w:World) (K:KT) (h:f39 a b c d w K):CallL P 39 [(Value.pointer a),(Value.agg b),(Value.int .i64 c),(Value.int .i64 d)] w K:=okCS c39 Tryz.func39 (by kernel_rfl) (by kernel_rfl) h
end Go.Fx.Tryz
namespace Go.Fx.Tryz
open Go Go.Fx Go.Fx.Mo
open Go.Proofs
variable {w0 w:World} {H:HL} {K:KT}
set_option maxRecDepth 20000
theorem plan_check {T:Th} {tb tob tnb k:Nat} {tt:TypeId} {rest:List Value} (h:St w0 w H) (hT:ThOk T) (hk:H[k]?=some (tb,Cs (thCs T tob tnb++rest) tt)) (e:Ev)
  (hno:refused T e=true→∀ w',St w0 w' H→K (.tuple [.pointer none,.bool false].toArray) w')
  (hyes:refused T e=false→∀ n2 w',w0.heap.size≤n2→St w0 w' ((n2,Cs (Evcs e) 45)::H)→f35_s3 (Addr.mk n2 0 none) e.th (some (Addr.mk tb 0 none)) w' K) :
  f35 (some (Addr.mk tb 0 none)) (Evcs e).toArray w K:=by
 rw [f35_eq]
 refine h.newC fun n2 w3 hn2 h3=>?_
 have ev:∀ {w':World},St w0 w' ((n2,Cs (Evcs e) 45)::H)→∀ i,w'.cell? (Addr.mk n2 i none)=(Evcs e)[i]?:=fun h' i=>h'.cell (k:=0) rfl
 have h3:St w0 w3 ((n2,Cs (Evcs e) 45)::H):=h3
 have ref:∀ {w':World},St w0 w' ((n2,Cs (Evcs e) 45)::H)→refused T e=true→K (.tuple [.pointer none,.bool false].toArray) w':=fun h' hr=>hno hr _ (h'.tail hn2)
 have s0:∀ b:Bool,(b=true→refused T e=true)→(b=false→∀ bb:Bool,(refused T e=bb↔((accesses e).2.2 && (decide (e.n < 0) || decide (e.n > 65536)) || (accesses e).2.1 && (decide (e.n < 1) || decide (e.n > 16)))=bb))→
   f35_s0 b (Addr.mk n2 0 none) e.th (some (Addr.mk tb 0 none)) w3 K:=fun b hb hb'=>by
  rw [f35_s0_eq,BIf_iff]
  refine ⟨fun hh=>ref h3 (hb hh),fun hh=>?_⟩
  have hiff:=hb' hh
  rw [f35_s1_eq]
  refine h3.ldA (k:=0) (i:=0) rfl (by simp [Evcs]) ?_
  refine accesses_ok h3 e fun w15 h15=>⟨_,_,_,rfl,?_⟩
  have en:=ev h15 5
  have s2:∀ b:Bool,refused T e=b→f35_s2 b (Addr.mk n2 0 none) e.th (some (Addr.mk tb 0 none)) w15 K:=fun b hb=>by
   rw [f35_s2_eq,BIf_iff]
   exact ⟨fun hh=>ref h15 (by rw [hb,hh]),fun hh=>hyes (by rw [hb,hh]) n2 w15 hn2 h15⟩
  have he:w15.cell? ((Addr.mk n2 0 none).add 5)=some (Value.int .i64 e.n):=by rw [add_lit',en]; rfl
  rw [BIf_iff]
  generalize (accesses e).2.2=is at *
  generalize (accesses e).2.1=atm at *
  constructor
  ·intro his
   refine ⟨e.n,he,?_⟩
   rw [BIf_iff]
   refine ⟨fun h1=>s2 true ((hiff true).2 (by rw [his,h1]; rfl)),fun h1=>⟨e.n,he,?_⟩⟩
   rw [BIf_iff]
   refine ⟨fun h2=>s2 true ((hiff true).2 (by rw [his,h1,h2]; rfl)),fun h2=>?_⟩
   rw [BIf_iff]
   refine ⟨fun h4=>⟨e.n,he,?_⟩,fun h4=>s2 false ((hiff false).2 (by rw [his,h1,h2,h4]; rfl))⟩
   rw [BIf_iff]
   exact ⟨fun h5=>s2 true ((hiff true).2 (by rw [his,h1,h2,h4,h5]; rfl)),fun h5=>⟨e.n,he,s2 _ ((hiff _).2 (by rw [his,h1,h2,h4,h5]; simp))⟩⟩
  ·intro his
   rw [BIf_iff]
   refine ⟨fun h4=>⟨e.n,he,?_⟩,fun h4=>s2 false ((hiff false).2 (by rw [his,h4]; rfl))⟩
   rw [BIf_iff]
   exact ⟨fun h5=>s2 true ((hiff true).2 (by rw [his,h4,h5]; rfl)),fun h5=>⟨e.n,he,s2 _ ((hiff _).2 (by rw [his,h4,h5]; simp))⟩⟩
 have bad:refused T e=true→f35_s0 true (Addr.mk n2 0 none) e.th (some (Addr.mk tb 0 none)) w3 K:=fun hr=>s0 true (fun _=>hr) (fun hh=>by cases hh)
 have hth:w3.heap[tb]?=some (Cs (thCs T tob tnb++rest) tt):=h3.get (k:=k+1) (by simpa using hk)
 refine ⟨e.th,by rw [add_lit',ev h3]; rfl,e.kind,by rw [ev h3]; rfl,?_⟩
 rw [BIf_iff]
 refine ⟨fun c1=>bad (by unfold refused; rw [c1]; simp),fun c1=>⟨e.kind,by rw [ev h3]; rfl,?_⟩⟩
 rw [BIf_iff]
 refine ⟨fun c2=>bad (by unfold refused; rw [c2]; simp),fun c2=>?_⟩
 rw [BIf_iff]
 refine ⟨fun c3=>bad (by unfold refused; rw [c3]; simp),fun c3=>?_⟩
 rw [BIf_iff]
 refine ⟨fun c4=>bad (by unfold refused; rw [c4]; simp),fun c4=>?_⟩
 have g3:0≤e.th:=by simp at c3; omega
 have g4:e.th < 8:=by simp at c4; omega
 obtain ⟨i,hi,hi8⟩:∃ i:Nat,e.th=i∧i < 8:=⟨e.th.toNat,by omega,by omega⟩
 have hlt:e.th < ((8:Nat):Int):=by simpa using g4
 have hg:getB T.begun e.th=T.begun.getD i false:=by simp [getB,hi]
 have hg2:getB T.ended e.th=T.ended.getD i false:=by simp [getB,hi]
 refine ⟨g3,hlt,T.begun.getD i false,?_,?_⟩
 ·rw [add_lit',add_lit',hi,Int.toNat_natCast,Nat.mul_one,Nat.zero_add,cell_of hth]; exact thCs_begun hT hi8
 rw [BIf_iff]
 refine ⟨fun c5=>bad (by unfold refused; rw [hg,c5]; simp),fun c5=>⟨g3,hlt,T.ended.getD i false,?_,?_⟩⟩
 ·rw [add_lit',add_lit',hi,Int.toNat_natCast,Nat.mul_one,Nat.zero_add,cell_of hth]; exact thCs_ended hT hi8
 exact s0 _ (fun c6=>by unfold refused; rw [hg2,c6]; simp) (fun c6 bb=>by unfold refused; rw [c1,c2,c3,c4,hg,c5,hg2,c6]; simp)
variable {B:PB} {R:HL} {p:Pl}
theorem CallF_of {n:Nat} {args:List Value} (he:enterable P n=true) (h:CallL P n args w K):CallF P (fnV n) args w K:=by
 show match enterable P n with
  | true=>CallL P n ([]++args++[]) w K
  | false=>False
 rw [he]
 simpa using h
theorem en114:enterable P 92=true:=by kernel_rfl
theorem en115:enterable P 93=true:=by kernel_rfl
theorem en116:enterable P 94=true:=by kernel_rfl
theorem en117:enterable P 95=true:=by kernel_rfl
theorem en118:enterable P 96=true:=by kernel_rfl
theorem en119:enterable P 97=true:=by kernel_rfl
theorem kindsL_get {k:Nat} (hk:k < 25):kindsL[k]?=some (fnV (if k=4 then 93 else if k=11 then 94 else if k=13 then 95 else if k=14 then 96 else if k=15 then 97 else 92)):=by
 unfold kindsL
 simp only [List.getElem?_set,List.length_set,List.length_replicate,List.getElem?_replicate]
 repeat' split
 all_goals first | rfl | omega
theorem act_ps (h:PS w0 w B R p) (hB:PBok B) (hn:p.orders.length < 1000∧(B.e.kind=4→B.e.n≤16)) (hk:1≤B.e.kind∧B.e.kind≤24) (hK:∀ w',PS w0 w' B R (Mo.act B.T B.e p)→K (.tuple #[]) w') :
  ∃ v,kindsL.toArray[B.e.kind.toNat * 1]?=some v∧CallF P v [.pointer (some (Addr.mk B.pb 0 none))] w K:=by
 obtain ⟨k,hkk,hk25⟩:∃ k:Nat,B.e.kind=k∧k < 25:=⟨B.e.kind.toNat,by omega,by omega⟩
 refine ⟨_,by rw [hkk,Int.toNat_natCast,Nat.mul_one]; simpa using kindsL_get hk25,?_⟩
 unfold Mo.act at hK
 rw [hkk] at hK
 have ne:∀ a:Nat,k≠a→((k:Int)=(a:Int))=False:=fun a h=>by simp; omega
 by_cases h4:k=4
 ·subst h4
  exact CallF_of en115 (atomic_ps h hB (by have:=hn.2 (by omega); omega) fun w' h'=>hK w' (by simpa using h'))
 by_cases h11:k=11
 ·subst h11
  exact CallF_of en116 (spawn_ps h hB (by omega) fun w' h'=>hK w' (by simpa using h'))
 by_cases h13:k=13
 ·subst h13
  exact CallF_of en117 (join_ps h hB (by omega) fun w' h'=>hK w' (by simpa using h'))
 by_cases h14:k=14
 ·subst h14
  exact CallF_of en118 (lock_ps h hB (by omega) fun w' h'=>hK w' (by simpa using h'))
 by_cases h15:k=15
 ·subst h15
  exact CallF_of en119 (unlock_ps h hB (by omega) fun w' h'=>hK w' (by simpa using h'))
 rw [if_neg h4,if_neg h11,if_neg h13,if_neg h14,if_neg h15]
 exact CallF_of en114 (step_ps h hB (by omega) fun w' h'=>hK w' (by
  rw [if_neg (by omega),if_neg (by omega),if_neg (by omega),if_neg (by omega),if_neg (by omega)]
  exact h'))
theorem PS.bad (h:PS w0 w B R p):w.cell? (Addr.mk B.pb 22 none)=some (.bool p.bad):=by
 obtain ⟨ov,ob,nb,hp⟩:=h.pl
 rw [cell_of hp]; exact planCs_rest h.own 6
theorem kinds_ps (h:PS w0 w B R p) (hK:∀ w',PS w0 w' B R p→K (.agg kindsL.toArray) w'):CallL P 70 [] w K:=by
 obtain ⟨D,L,rfl,hs,h1,h2,h3⟩:=h
 exact kinds_ok hs fun w' hs'=>hK w' ⟨D,L,rfl,hs',h1,h2,h3⟩
theorem plan_tail (h:PS w0 w B R p) (hB:PBok B) {a:Nat} {t:TypeId} (ha:R[0]?=some (a,Cs (Evcs B.e) t)) (hn:p.orders.length < 1000∧(B.e.kind=4→B.e.n≤16)) (hk:1≤B.e.kind∧B.e.kind≤24)
  (hK:∀ w',PS w0 w' B R (Mo.act B.T B.e p)→K (.tuple [.pointer (some (Addr.mk B.pb 0 none)),.bool (!(Mo.act B.T B.e p).bad)].toArray) w') :
  f35_s4 (Addr.mk B.pb 0 none) (Addr.mk a 0 none) w K:=by
 have hd:=h.drew
 have ev:∀ {w':World} {q:Pl},PS w0 w' B R q→w'.cell? (Addr.mk a 0 none)=some (I64 B.e.kind):=fun h'=>by rw [cell_of (h'.get ha)]; rfl
 have fin:∀ w':World,PS w0 w' B R (Mo.act B.T B.e p)→f35_s5 (Addr.mk B.pb 0 none) w' K:=fun w' h'=>by
  rw [f35_s5_eq]
  have h'd:=h'.drew
  exact ⟨_,by rw [add_lit',h'd.bad],hK _ h'd⟩
 have hlt:B.e.kind < ((25:Nat):Int):=by omega
 rw [f35_s4_eq]
 constructor
 ·refine kinds_ps hd fun w1 h1=>⟨_,rfl,_,ev h1,by omega,hlt,?_⟩
  obtain ⟨v,hv,hc⟩:=act_ps (K:=fun r w'=>r=(Value.tuple [].toArray)∧f35_s5 (Addr.mk B.pb 0 none) w' K) h1 hB hn hk fun w' h'=>⟨rfl,fin w' h'⟩
  exact ⟨v,hv,hc⟩
 ·refine ⟨_,ev hd,kinds_ps hd fun w1 h1=>⟨_,rfl,by omega,hlt,?_⟩⟩
  obtain ⟨v,hv,hc⟩:=act_ps (K:=fun r w'=>r=(Value.tuple [].toArray)∧f35_s5 (Addr.mk B.pb 0 none) w' K) h1 hB hn hk fun w' h'=>⟨rfl,fin w' h'⟩
  exact ⟨v,hv,hc⟩
theorem build138 (tb ob nb:Nat) (e:Ev) {c:Clk} (hc:c.length=8) (wq:World) :
  (Instr.build 106 [(0,(Value.pointer (some (Addr.mk tb 0 none)))),(1,(Value.agg (Evcs e).toArray)),(3,(Value.agg (c.map I64).toArray)),(5,(Value.map (some ob))),(6,(Value.map (some nb))),(7,(Value.int .i64 (-1))),(8,(Value.int .i64 (-1)))].toArray).run P wq =
   .ok (.agg (planCs tb e (.slice none 0 0) ob nb { orders:=[],own:=c,tk:=0,objs:=[],names:=[],fork:=-1,ends:=-1,rel:=false,bad:=false }).toArray) wq:=by
 obtain ⟨c0,c1,c2,c3,c4,c5,c6,c7,rfl⟩:=own8 hc
 kernel_rfl
def pl00 (c:Clk):Pl:={ orders:=[],own:=c,tk:=0,objs:=[],names:=[],fork:=-1,ends:=-1,rel:=false,bad:=false }
theorem PS.make {B:PB} {c:Clk} {x:Nat × Obj} (hc:c.length=8)
  (h:St w0 w ((B.pb,Cs (planCs B.tb B.e (.slice none 0 0) B.ob B.nb (pl00 c)) B.t)::(B.ob,.map #[] 0)::(B.nb,.map #[] 0)::x::(B.tb,Cs (thCs B.T B.tob B.tnb++B.rest) B.tt)::(B.tob,.map B.es3 B.c3)::(B.tnb,.map B.es4 B.c4)::R)) :
  PS w0 w B (x::R) (pl00 c):=by
 refine ⟨⟨.slice none 0 0,pl00 c,#[],0,#[],0⟩,[],rfl,h.perm ?_,⟨hc,MapIs.empty,MapIs.empty,by simp [pl00]⟩,SlO.nil 4 72,New.nil w0⟩
 refine List.Perm.cons _ (List.Perm.cons _ (List.Perm.cons _ ?_))
 exact (List.perm_append_comm (l₁:=[x]) (l₂:=[(B.tb,Cs (thCs B.T B.tob B.tnb++B.rest) B.tt),(B.tob,.map B.es3 B.c3),(B.tnb,.map B.es4 B.c4)])).append_right R
theorem plan_s3 {T:Th} {tb tob tnb n2:Nat} {tt:TypeId} {rest:List Value} {es3 es4:Array MapEntry} {c3 c4:Nat} {e:Ev} (hT:ThOk T) (ht:0≤e.th∧e.th < 8)
  (h:St w0 w ((n2,Cs (Evcs e) 45)::(tb,Cs (thCs T tob tnb++rest) tt)::(tob,.map es3 c3)::(tnb,.map es4 c4)::R))
  (hK:∀ w' pb ob nb,w0.heap.size≤pb→w0.heap.size≤ob→w0.heap.size≤nb→PS w0 w' ⟨pb,ob,nb,tb,tob,tnb,106,tt,e,T,rest,es3,c3,es4,c4⟩ ((n2,Cs (Evcs e) 45)::R) (pl0 T e)→f35_s4 (Addr.mk pb 0 none) (Addr.mk n2 0 none) w' K) :
  f35_s3 (Addr.mk n2 0 none) e.th (some (Addr.mk tb 0 none)) w K:=by
 rw [f35_s3_eq]
 obtain ⟨i,hi,hi8⟩:∃ i:Nat,e.th=i∧i < 8:=⟨e.th.toNat,by omega,by omega⟩
 have hd:=h.drew
 refine ⟨ht.1,by have:=ht.2; simpa using this,?_⟩
 refine hd.ldA (k:=0) (i:=0) rfl (by simp [Evcs]) ?_
 rw [add_lit',hi,Int.toNat_natCast,Nat.zero_add]
 refine hd.ldA (k:=1) (i:=i * 8) rfl (by rw [List.length_append,thCs_len hT]; omega) ?_
 rw [thCs_clock hT hi8]
 have hc:=clk_len hT i
 have hp:pl00 (T.clocks.getD i zeroC)=pl0 T e:=by simp [pl00,pl0,getC,hi]
 constructor
 ·refine hd.newO fun n30 w31 h30 h31=>h31.newO fun n32 w33 h32 h33=>?_
  refine ⟨_,build138 tb n30 n32 e hc,?_⟩
  refine h33.newC fun n35 w36 h35 h36=>hK w36 n35 n30 n32 h35 h30 h32 ?_
  rw [← hp]
  exact PS.make (B:=⟨n35,n30,n32,tb,tob,tnb,106,tt,e,T,rest,es3,c3,es4,c4⟩) hc (h36.perm (List.Perm.cons _ (List.Perm.swap _ _ _)))
 ·refine hd.newO fun n55 w56 h55 h56=>h56.newO fun n57 w58 h57 h58=>?_
  refine ⟨_,build138 tb n57 n55 e hc,?_⟩
  refine h58.newC fun n60 w61 h60 h61=>hK w61 n60 n57 n55 h60 h57 h55 ?_
  rw [← hp]
  exact PS.make (B:=⟨n60,n57,n55,tb,tob,tnb,106,tt,e,T,rest,es3,c3,es4,c4⟩) hc h61
theorem PS.forget (h:PS w0 w B R p) (h1:w0.heap.size≤B.pb) (h2:w0.heap.size≤B.ob) (h3:w0.heap.size≤B.nb) :
  St w0 w ((B.tb,Cs (thCs B.T B.tob B.tnb++B.rest) B.tt)::(B.tob,.map B.es3 B.c3)::(B.tnb,.map B.es4 B.c4)::R):=by
 obtain ⟨D,L,rfl,hs,_,_,hL⟩:=h
 exact (((hs.sub hL).tail h1).tail h2).tail h3
theorem refused_kind {T:Th} {e:Ev} (h:refused T e=false):1≤e.kind∧e.kind≤24∧0≤e.th∧e.th < 8∧(e.kind=4→e.n≤16):=by
 unfold refused at h
 simp only [Bool.or_eq_false_iff,decide_eq_false_iff_not,Bool.and_eq_false_iff] at h
 obtain ⟨⟨⟨⟨⟨⟨⟨h1,h2⟩,h3⟩,h4⟩,_⟩,_⟩,_⟩,h8⟩:=h
 refine ⟨by omega,by omega,by omega,by omega,fun hk=>?_⟩
 rcases h8 with h8 | h8
 ·simp [accesses,hk] at h8
 ·omega
theorem plan_ok {T:Th} {tb tob tnb:Nat} {tt:TypeId} {rest:List Value} {es3 es4:Array MapEntry} {c3 c4:Nat} {e:Ev} (hT:ThOk T) (m3:MapIs encO es3 c3 (encM encC T.objs)) (m4:MapIs encO es4 c4 (encM encI T.names))
  (h:St w0 w ((tb,Cs (thCs T tob tnb++rest) tt)::(tob,.map es3 c3)::(tnb,.map es4 c4)::R))
  (hnone:plan T e=none→∀ w' v,St w0 w' ((tb,Cs (thCs T tob tnb++rest) tt)::(tob,.map es3 c3)::(tnb,.map es4 c4)::R)→K (.tuple [.pointer v,.bool false].toArray) w')
  (hsome:∀ q,plan T e=some q→∀ w' pb ob nb,w0.heap.size≤pb→w0.heap.size≤ob→w0.heap.size≤nb→PS w0 w' ⟨pb,ob,nb,tb,tob,tnb,106,tt,e,T,rest,es3,c3,es4,c4⟩ R q→
   K (.tuple [.pointer (some (Addr.mk pb 0 none)),.bool true].toArray) w') :
  CallL P 35 [.pointer (some (Addr.mk tb 0 none)),.agg (Evcs e).toArray] w K:=by
 refine f35_ok _ _ _ _ (plan_check h hT (k:=0) rfl e (fun hr w' h'=>hnone (by simp [plan,hr]) w' none h') fun hr n2 w' hn2 h'=>?_)
 obtain ⟨k1,k2,t1,t2,hn16⟩:=refused_kind hr
 refine plan_s3 hT ⟨t1,t2⟩ h' fun w1 pb ob nb hpb hob hnb h1=>?_
 refine plan_tail h1 ⟨hT,m3,m4,⟨t1,t2⟩⟩ rfl ⟨by simp [pl0],hn16⟩ ⟨k1,k2⟩ fun w2 h2=>?_
 have h2:=h2.tail hn2
 cases hb:(Mo.act T e (pl0 T e)).bad with
 | true=>exact hnone (by simp [plan,hr,hb]) w2 _ (h2.forget hpb hob hnb)
 | false=>exact hsome _ (by simp [plan,hr,hb]) w2 pb ob nb hpb hob hnb h2
end Go.Fx.Tryz
namespace Go.Fx
open Go
variable {P:Program} {w:World}
theorem run_range {T kt et:TypeId} (hT:P.underlying T=some (.map kt et)) {m:Nat} {es:Array MapEntry} {clk:Nat} (hm:w.heap[m]?=some (.map es clk)) :
  (Instr.range T (.map (some m))).run P w=.ok (.pointer (some (Addr.mk w.heap.size 0 none))) (w.alloc (.mapIter (some m) clk #[] clk)):=by
 simp [Instr.range,run_underlying hT,MapKept.run_getObj_map hm]
theorem run_entry {it m:Nat} {es:Array MapEntry} {clk s stamp:Nat} {seen:Array Nat} {e:MapEntry} (hi:w.heap[it]?=some (.mapIter (some m) s seen clk)) (hm:w.heap[m]?=some (.map es clk))
  (hs:seen.back?=some stamp) (he:es.find? (fun x=>x.born == stamp)=some e):(Instr.entry (.pointer (some (Addr.mk it 0 none)))).run P w=.ok (.tuple #[e.key,e.val]) w:=by
 have h1:(getObj it).run P w=.ok (.mapIter (some m) s seen clk) w:=by simp [getObj,Sem.run,hi]
 simp [Instr.entry,h1,hs,MapKept.run_getObj_map hm,he]
theorem guard_false {es:Array MapEntry} {clk:Nat} {seen:Array Nat} (hst:MapKept.Stamped es clk):(!seen.isEmpty && !es.isEmpty && es.all (fun x=>decide (x.born≥clk)))=false:=by
 by_cases he:es.isEmpty=true
 ·simp [he]
 ·have:es.all (fun x=>decide (x.born≥clk))=false:=by
   cases hes:es.toList with
   | nil=>simp at hes; simp [hes] at he
   | cons x r=>
    have hx:=hst.1 x (by rw [hes]; simp)
    rw [← Array.all_toList,hes]
    simp; omega
  simp [this]
theorem run_next {it m:Nat} {es:Array MapEntry} {clk:Nat} {seen:Array Nat} (hi:w.heap[it]?=some (.mapIter (some m) clk seen clk)) (hm:w.heap[m]?=some (.map es clk)) (hst:MapKept.Stamped es clk)
  {left:Array MapEntry} (hleft:(es.filter fun e=>!seen.contains e.born)=left) (hold:(left.filter fun e=>decide (e.born < clk))=left) (hnew:(left.filter fun e=>decide (e.born≥clk))=#[]) :
  (Instr.next (.pointer (some (Addr.mk it 0 none))) false 0).run P w=(do
   match ((if left.isEmpty then #[none] else #[])++left.map some)[← choose (.mapNext ((if left.isEmpty then #[none] else #[])++left.map some).size)]? with
   | some (some e)=>do
    setObj it (.mapIter (some m) clk (seen.push e.born) clk)
    pure (.tuple #[.bool true,e.key,e.val])
   | some none=>pure (.tuple #[.bool false])
   | none => stuck "Next: no such candidate" : Sem Value).run P w := by
 have h1:(getObj it).run P w=.ok (.mapIter (some m) clk seen clk) w:=by simp [getObj,Sem.run,hi]
 unfold Instr.next
 simp only [Sem.run_bind,h1,Result.andThen_ok,MapKept.run_getObj_map hm,guard_false hst,Bool.false_eq_true,if_false,hleft,hold,hnew,Array.append_empty]
 rfl
theorem run_next_over {it m:Nat} {es:Array MapEntry} {clk:Nat} {seen:Array Nat} (hi:w.heap[it]?=some (.mapIter (some m) clk seen clk)) (hm:w.heap[m]?=some (.map es clk)) (hst:MapKept.Stamped es clk)
  (hleft:(es.filter fun e=>!seen.contains e.born)=#[]):(Instr.next (.pointer (some (Addr.mk it 0 none))) false 0).run P w=.ok (.tuple #[.bool false]) w:=by
 rw [run_next hi hm hst hleft (by simp) (by simp)]
 simp [Question.forced]
theorem run_next_some {it m:Nat} {es:Array MapEntry} {clk:Nat} {seen:Array Nat} (hi:w.heap[it]?=some (.mapIter (some m) clk seen clk)) (hm:w.heap[m]?=some (.map es clk)) (hst:MapKept.Stamped es clk)
  (hne:(es.filter fun e=>!seen.contains e.born)≠#[]):∃ (e:MapEntry) (w1:World),e∈es.toList∧e.born ∉ seen.toList∧w1.heap=w.heap∧Kept w w1∧
   (Instr.next (.pointer (some (Addr.mk it 0 none))) false 0).run P w=.ok (.tuple #[.bool true,e.key,e.val]) (w1.putObj it (.mapIter (some m) clk (seen.push e.born) clk)):=by
 generalize hl:(es.filter fun e=>!seen.contains e.born)=left at hne
 have hmem:∀ e∈left.toList,e∈es.toList∧e.born ∉ seen.toList:=fun e he=>by
  rw [← hl] at he
  simp at he
  exact ⟨by simpa using he.1,by simpa using he.2⟩
 have hb:∀ e∈left.toList,e.born < clk:=fun e he=>hst.1 e (hmem e he).1
 rw [run_next hi hm hst hl (by rw [Array.filter_eq_self]; intro e he; simpa using hb e (by simpa using he)) (by rw [Array.filter_eq_empty_iff]; intro e he; have:=hb e (by simpa using he); simp; omega)]
 have hemp:left.isEmpty=false:=by simpa using hne
 have hpos:0 < left.size:=Array.size_pos_iff.2 hne
 have hch:∃ (j:Nat) (w1:World),j < left.size∧w1.heap=w.heap∧Kept w w1∧(choose (.mapNext left.size)).run P w=.ok j w1:=by
  rw [run_choose_drew]
  by_cases hf:(Question.mapNext left.size).forced=true
  ·exact ⟨0,w,hpos,rfl,⟨rfl,rfl,rfl⟩,by rw [if_pos hf]⟩
  ·exact ⟨_,w.drew,Nat.mod_lt _ hpos,rfl,⟨rfl,rfl,rfl⟩,by rw [if_neg hf]; rfl⟩
 obtain ⟨j,w1,hj,hw,hkept,hr⟩:=hch
 have hi1:w1.heap[it]?=some (.mapIter (some m) clk seen clk):=by rw [hw]; exact hi
 refine ⟨left[j],w1,(hmem _ (by simp)).1,(hmem _ (by simp)).2,hw,hkept,?_⟩
 have hset:∀ o,(setObj it o).run P w1=.ok () (w1.putObj it o):=fun o=>by simp [setObj,Sem.run,hi1,World.putObj]
 simp only [hemp,Bool.false_eq_true,if_false,Array.empty_append,Array.size_map,Sem.run_bind,hr,Result.andThen_ok,Array.getElem?_map,Array.getElem?_eq_getElem hj,Option.map_some,hset,Sem.run_pure]
structure Vis (es:Array MapEntry) (vis rem:List MapEntry) (seen:Array Nat):Prop where
 perm:es.toList.Perm (vis++rem)
 seen:seen.toList=vis.map (·.born)
theorem Vis.start (es:Array MapEntry):Vis es [] es.toList #[]:=⟨.refl _,rfl⟩
theorem Vis.over {es:Array MapEntry} {vis:List MapEntry} {seen:Array Nat} (h:Vis es vis [] seen):(es.filter fun e=>!seen.contains e.born)=#[]:=by
 rw [Array.filter_eq_empty_iff]
 intro e he
 have h1:e∈vis:=by have:=h.perm.mem_iff.1 (show e∈es.toList by simpa using he); simpa using this
 have h2:e.born∈seen.toList:=by rw [h.seen]; exact List.mem_map.2 ⟨e,h1,rfl⟩
 simp
 simpa using h2
theorem Vis.more {es:Array MapEntry} {clk:Nat} {vis rem:List MapEntry} {seen:Array Nat} (h:Vis es vis rem seen) (hst:MapKept.Stamped es clk) (hr:rem≠[]):(es.filter fun e=>!seen.contains e.born)≠#[]:=by
 obtain ⟨e,r,rfl⟩:=List.exists_cons_of_ne_nil hr
 intro hc
 rw [Array.filter_eq_empty_iff] at hc
 have he:e∈es.toList:=h.perm.mem_iff.2 (by simp)
 have:=hc e (show e∈es by simpa using he)
 have hin:e.born∈seen.toList:=by simp at this; simpa using this
 rw [h.seen] at hin
 have hnd:((vis++e::r).map (·.born)).Nodup:=(h.perm.map _).nodup_iff.1 hst.2.1
 rw [List.map_append] at hnd
 exact (List.nodup_append.1 hnd).2.2 _ hin _ (by simp) rfl
theorem Vis.step {es:Array MapEntry} {vis rem:List MapEntry} {seen:Array Nat} (h:Vis es vis rem seen) {e:MapEntry} (he:e∈es.toList) (hn:e.born ∉ seen.toList) :
  ∃ rem',rem.length=rem'.length+1∧Vis es (vis++[e]) rem' (seen.push e.born):=by
 have h1:e∈rem:=by
  have:=h.perm.mem_iff.1 he
  rcases List.mem_append.1 this with hv | hv
  ·exact absurd (by rw [h.seen]; exact List.mem_map.2 ⟨e,hv,rfl⟩) hn
  ·exact hv
 obtain ⟨a,b,rfl⟩:=List.append_of_mem h1
 refine ⟨a++b,by simp; omega,?_,by simp [h.seen]⟩
 refine h.perm.trans ?_
 rw [List.append_assoc]
 exact List.Perm.append_left vis List.perm_middle
theorem find_born {es:Array MapEntry} {clk:Nat} (hst:MapKept.Stamped es clk) {e:MapEntry} (he:e∈es.toList):es.find? (fun x=>x.born == e.born)=some e:=by
 cases hf:es.find? (fun x=>x.born == e.born) with
 | none=>
  rw [Array.find?_eq_none] at hf
  have:=hf e (by simpa using he)
  simp at this
 | some x=>
  have h1:=Array.find?_some hf
  have h2:=Array.mem_of_find?_eq_some hf
  have h1:x.born=e.born:=by simpa using h1
  obtain ⟨i,hi⟩:=List.mem_iff_getElem?.1 (show x∈es.toList by simpa using h2)
  obtain ⟨j,hj⟩:=List.mem_iff_getElem?.1 he
  have:i=j:=nodup_idx hst.2.1 (x:=e.born) (by rw [List.getElem?_map,hi]; simp [h1]) (by rw [List.getElem?_map,hj]; rfl)
  subst this
  rw [hi] at hj
  exact hj
end Go.Fx
namespace Go.Fx.Mo
variable {K V:Type} [DecidableEq K]
theorem look_none {m:List (K × V)} {k:K}:look m k=none↔∀ p∈m,p.1≠k:=by simp [look]
theorem look_map_if (m:List (K × V)) (a:K) (v:V) (k:K):look (m.map fun p=>if p.1=a then (p.1,v) else p) k=if k=a then (look m k).map (fun _=>v) else look m k:=by
 induction m with
 | nil=>simp [look]
 | cons p r ih=>
  unfold look at *
  simp only [List.map_cons,List.find?_cons]
  by_cases hp:p.1=a
  ·by_cases hk:p.1=k
   ·simp [hp,hk ▸ hp]
   ·have:(p.1 == k)=false:=by simpa using hk
    simp only [hp,if_true]
    rw [← hp,this]
    simpa [hp] using ih
  ·simp only [hp,if_false]
   by_cases hk:p.1=k
   ·have:¬ k=a:=fun h=>hp (hk.trans h)
    simp [hk,this]
   ·have:(p.1 == k)=false:=by simpa using hk
    rw [this]
    exact ih
theorem look_append (m:List (K × V)) (a:K) (v:V) (k:K):look (m++[(a,v)]) k=(look m k).or (if a=k then some v else none):=by
 unfold look
 rw [List.find?_append]
 cases List.find? (fun p=>p.1 == k) m with
 | some q=>simp
 | none=>by_cases h:a=k <;> simp [h]
theorem put_comm (m:List (K × V)) {a b:K} (hab:a≠b) (u v:V):(put (put m a u) b v).Perm (put (put m b v) a u):=by
 have key:∀ (a b:K) (u v:V),a≠b→∀ x,look m a=some x→look m b=none→put (put m a u) b v=put (put m b v) a u:=by
  intro a b u v hab x ha hb
  have e1:put m a u=m.map fun p=>if p.1=a then (p.1,u) else p:=by simp [put,ha]
  have e2:put m b v=m++[(b,v)]:=by simp [put,hb]
  rw [e1,e2]
  have l1:look (m.map fun p=>if p.1=a then (p.1,u) else p) b=none:=by rw [look_map_if,if_neg (Ne.symm hab),hb]
  have l2:look (m++[(b,v)]) a=some x:=by rw [look_append,ha]; rfl
  simp [put,l1,l2,Ne.symm hab]
 cases ha:look m a with
 | some x=>
  cases hb:look m b with
  | some y=>
   have e1:put m a u=m.map fun p=>if p.1=a then (p.1,u) else p:=by simp [put,ha]
   have e2:put m b v=m.map fun p=>if p.1=b then (p.1,v) else p:=by simp [put,hb]
   rw [e1,e2]
   have l1:look (m.map fun p=>if p.1=a then (p.1,u) else p) b=some y:=by rw [look_map_if,if_neg (Ne.symm hab),hb]
   have l2:look (m.map fun p=>if p.1=b then (p.1,v) else p) a=some x:=by rw [look_map_if,if_neg hab,ha]
   have:put (m.map fun p=>if p.1=a then (p.1,u) else p) b v=put (m.map fun p=>if p.1=b then (p.1,v) else p) a u:=by
    simp only [put,l1,l2,List.map_map]
    apply List.map_congr_left
    intro p _
    simp only [Function.comp_def]
    by_cases h1:p.1=a
    ·have:¬ p.1=b:=fun h=>hab (h1.symm.trans h)
     simp [h1,hab]
    ·by_cases h2:p.1=b <;> simp [h1,h2,Ne.symm hab]
   rw [this]
  | none=>rw [key a b u v hab x ha hb]
 | none=>
  cases hb:look m b with
  | some y=>rw [key b a v u (Ne.symm hab) y hb ha]
  | none=>
   have e1:put m a u=m++[(a,u)]:=by simp [put,ha]
   have e2:put m b v=m++[(b,v)]:=by simp [put,hb]
   rw [e1,e2]
   have l1:look (m++[(a,u)]) b=none:=by rw [look_append,hb]; simp [hab]
   have l2:look (m++[(b,v)]) a=none:=by rw [look_append,ha]; simp [Ne.symm hab]
   simp only [put,l1,l2,List.append_assoc]
   exact List.Perm.append_left m (List.Perm.swap _ _ _)
theorem put_perm {m m':List (K × V)} (h:m.Perm m') (k:K) (v:V):(put m k v).Perm (put m' k v):=by
 have hiff:look m k=none↔look m' k=none:=by
  rw [look_none,look_none]
  exact ⟨fun hh p hp=>hh p (h.mem_iff.2 hp),fun hh p hp=>hh p (h.mem_iff.1 hp)⟩
 cases h1:look m k with
 | none=>
  have h2:=hiff.1 h1
  simp only [put,h1,h2]
  exact h.append_right _
 | some x=>
  cases h2:look m' k with
  | none=>rw [hiff.2 h2] at h1; cases h1
  | some y=>
   simp only [put,h1,h2]
   exact h.map _
theorem putAll_perm {m m':List (K × V)} (u:List (K × V)) (h:m.Perm m'):(putAll m u).Perm (putAll m' u):=by
 induction u generalizing m m' with
 | nil=>exact h
 | cons p r ih=>exact ih (put_perm h p.1 p.2)
theorem putAll_append (m u u':List (K × V)):putAll m (u++u')=putAll (putAll m u) u':=by
 induction u generalizing m with
 | nil=>rfl
 | cons p r ih=>exact ih _
theorem putAll_order {u u':List (K × V)} (h:u.Perm u'):(u.map (·.1)).Nodup→∀ m:List (K × V),(putAll m u).Perm (putAll m u'):=by
 induction h with
 | nil=>intro _ m; exact .refl _
 | cons p _ ih=>intro hn m; exact ih (by simp at hn; exact hn.2) _
 | swap p q l=>
  intro hn m
  simp only [List.map_cons,List.nodup_cons,List.mem_cons,not_or] at hn
  exact putAll_perm l (put_comm m (fun e=>hn.1.1 e) q.2 p.2)
 | trans h1 _ ih1 ih2=>intro hn m; exact (ih1 hn m).trans (ih2 ((h1.map _).nodup_iff.1 hn) m)
end Go.Fx.Mo
namespace Go.Fx
open Go
theorem perm_of_map {α β:Type} {f:α→β} (hf:∀ a b,f a=f b→a=b):∀ {l l':List α},(l.map f).Perm (l'.map f)→l.Perm l'
 | [],l',h=>by
  have:=h.length_eq
  simp at this
  rw [List.length_eq_zero_iff.1 this.symm]
 | a::r,l',h=>by
  have ha:f a∈l'.map f:=h.mem_iff.1 (by simp)
  obtain ⟨b,hb,e⟩:=List.mem_map.1 ha
  have:=hf _ _ e
  subst this
  obtain ⟨s,t,rfl⟩:=List.append_of_mem hb
  have h2:((b::r).map f).Perm ((b::(s++t)).map f):=h.trans ((List.perm_middle).map f)
  exact (List.Perm.cons b (perm_of_map hf (by simpa using h2))).trans List.perm_middle.symm
theorem MapIs.of_perm {K:Type} {enc:K→Value} {es:Array MapEntry} {clk:Nat} {m m':List (K × Value)} (h:MapIs enc es clk m) (hp:m.Perm m'):MapIs enc es clk m':=⟨h.st,h.perm.trans (hp.map _)⟩
theorem LoopE_map {B:(YT)→YT} {e0:Env} {w1:World} {es:Array MapEntry} (J:List MapEntry→Array Nat→World→Prop) (h0:J [] #[] w1)
  (hover:∀ vis seen w,Vis es vis [] seen→J vis seen w→∀ Y,B Y e0 w)
  (hmore:∀ vis rem seen w,rem≠[]→Vis es vis rem seen→J vis seen w→∀ Y:YT,(∀ e w',e∈es.toList→e.born ∉ seen.toList→J (vis++[e]) (seen.push e.born) w'→Y e0 w')→B Y e0 w):LoopE B e0 w1:=by
 refine ⟨fun n e w=>∃ vis rem seen,n=rem.length∧e=e0∧Vis es vis rem seen∧J vis seen w,⟨_,[],_,_,rfl,rfl,Vis.start es,h0⟩,?_⟩
 rintro n e w ⟨vis,rem,seen,rfl,rfl,hv,hj⟩
 by_cases hr:rem=[]
 ·subst hr; exact hover vis seen w hv hj _
 ·refine hmore vis rem seen w hr hv hj _ fun x w' hx hn hj'=>?_
  obtain ⟨rem',hl,hv'⟩:=hv.step hx hn
  exact ⟨rem'.length,by omega,_,rem',_,rfl,rfl,hv',hj'⟩
theorem splice_mid (A X Z Y:List Value) (h:X.length=Y.length):splice (A++(X++Z)) A.length Y=A++(Y++Z):=by
 rw [splice_eq _ _ _ (by simp; omega)]
 simp [List.drop_append,← h,List.append_assoc]
theorem set_mid {α:Type} (a b c:List α) (i:Nat) (v:α) (hi:i < b.length):(a++(b++c)).set (a.length+i) v=a++(b.set i v++c):=by
 rw [List.set_append_right _ _ (by omega),show a.length+i - a.length=i by omega,List.set_append_left _ _ hi]
theorem MapIs.pair {K:Type} {enc:K→Value} {es:Array MapEntry} {clk:Nat} {m:List (K × Value)} (h:MapIs enc es clk m) {e:MapEntry} (he:e∈es.toList):∃ q∈m,e.key=enc q.1∧e.val=q.2:=by
 have:(e.key,e.val)∈es.toList.map fun e=>(e.key,e.val):=List.mem_map.2 ⟨e,he,rfl⟩
 obtain ⟨p,hp,hpe⟩:=List.mem_map.1 (h.perm.mem_iff.1 this)
 exact ⟨p,hp,(congrArg Prod.fst hpe).symm,(congrArg Prod.snd hpe).symm⟩
namespace Tryz
open Go.Fx.Mo
open Go.Proofs
variable {w0 w:World} {H:HL} {K:KT}
set_option maxRecDepth 20000
section
variable {T:Th} {ob nb:Nat} {rest:List Value}
theorem thCs_setclock (h:ThOk T) {i:Nat} (hi:i < 8) {c:Clk} (hc:c.length=8):splice (thCs T ob nb++rest) (i * 8) (c.map I64)=thCs { T with clocks:=T.clocks.set i c } ob nb++rest:=by
 have hil:i < T.clocks.length:=by rw [h.clocks]; exact hi
 have e1:T.clocks=T.clocks.take i++(T.clocks[i]::T.clocks.drop (i+1)):=by simp
 have e2:T.clocks.set i c=T.clocks.take i++(c::T.clocks.drop (i+1)):=by
  rw [List.set_eq_take_append_cons_drop,if_pos hil]
 have hA:((T.clocks.take i).flatten.map I64).length=i * 8:=by
  rw [List.length_map,flat_len (fun d hd=>h.each d (List.mem_of_mem_take hd)),List.length_take]; omega
 have hX:(T.clocks[i].map I64).length=(c.map I64).length:=by rw [List.length_map,List.length_map,h.each _ (List.getElem_mem hil),hc]
 unfold thCs
 dsimp only
 rw [e2]
 conv=>lhs; rw [e1]
 simp only [List.flatten_append,List.flatten_cons,List.map_append,List.append_assoc]
 rw [← hA]
 exact splice_mid _ _ _ _ hX
theorem ThOk.setclock (h:ThOk T) (i:Nat) {c:Clk} (hc:c.length=8):ThOk { T with clocks:=T.clocks.set i c }:=by
 refine ⟨by simp [h.clocks],fun d hd=>?_,h.begun,h.ended,h.rels,h.objs⟩
 rcases List.mem_or_eq_of_mem_set hd with hd | rfl
 ·exact h.each d hd
 ·exact hc
theorem thCs_setbegun (h:ThOk T) {i:Nat} (hi:i < 8) (b:Bool):(thCs T ob nb++rest).set (64+i) (.bool b)=thCs { T with begun:=T.begun.set i b } ob nb++rest:=by
 have hf:(T.clocks.flatten.map I64).length=64:=by rw [List.length_map,flat_len h.each,h.clocks]
 unfold thCs
 simp only [List.append_assoc]
 rw [← hf,set_mid _ _ _ i _ (by simp [h.begun,hi]),List.map_set]
theorem thCs_setended (h:ThOk T) {i:Nat} (hi:i < 8) (b:Bool):(thCs T ob nb++rest).set (72+i) (.bool b)=thCs { T with ended:=T.ended.set i b } ob nb++rest:=by
 have hf:(T.clocks.flatten.map I64++T.begun.map Value.bool).length=72:=by simp only [List.length_append,List.length_map,flat_len h.each,h.clocks,h.begun]
 unfold thCs
 simp only [List.append_assoc]
 rw [← List.append_assoc,← hf,set_mid _ _ _ i _ (by simp [h.ended,hi]),List.map_set]
 simp only [List.append_assoc]
theorem rels_len (h:ThOk T):(T.clocks.flatten.map I64++(T.begun.map Value.bool++T.ended.map Value.bool)).length=80:=by simp only [List.length_append,List.length_map,flat_len h.each,h.clocks,h.begun,h.ended]
theorem thCs_setrels (h:ThOk T) {i:Nat} (hi:i < 8) (x:Int):(thCs T ob nb++rest).set (80+i) (I64 x)=thCs { T with rels:=T.rels.set i x } ob nb++rest:=by
 have e:∀ T:Th,thCs T ob nb++rest=(T.clocks.flatten.map I64++(T.begun.map Value.bool++T.ended.map Value.bool))++(T.rels.map I64++([.map (some ob),.map (some nb)]++rest)):=fun T=>by simp [thCs]
 rw [e,e,← rels_len h,set_mid _ _ _ i _ (by simp [h.rels,hi]),List.map_set]
theorem thCs_rels (h:ThOk T) {i:Nat} (hi:i < 8):(thCs T ob nb++rest)[80+i]?=some (I64 (T.rels.getD i 0)):=by
 have e:∀ T:Th,thCs T ob nb++rest=(T.clocks.flatten.map I64++(T.begun.map Value.bool++T.ended.map Value.bool))++(T.rels.map I64++([.map (some ob),.map (some nb)]++rest)):=fun T=>by simp [thCs]
 rw [e,← rels_len h,get_mid _ _ _ i (by simp [h.rels,hi])]
 simp [h.rels,hi]
end
theorem encC_inj {c d:Clk} (h:encC c=encC d):c=d:=by
 have h1:c.map I64=d.map I64:=by simpa [encC] using h
 exact (List.map_inj_right (fun a b h=>by simpa using h)).1 h1
variable {B:PB} {D:PD} {R L:HL}
abbrev Wh (w0 w:World) (it m:Nat) (clk:Nat) (seen:Array Nat) (L:HL) (B:PB) (D:PD) (R:HL):Prop:=
 St w0 w ((it,.mapIter (some m) clk seen clk)::(L++plH B D R))
def withObjs (B:PB) (m:List (Ob × Clk)) (es:Array MapEntry) (c:Nat):PB:={ B with T:={ B.T with objs:=m },es3:=es,c3:=c }
def withNames (B:PB) (m:List (Ob × Int)) (es:Array MapEntry) (c:Nat):PB:={ B with T:={ B.T with names:=m },es4:=es,c4:=c }
theorem map_put {L:HL} {k tob:Nat} {o o':Obj} {X:HL} {x:Nat × Obj} (h:St w0 w (x::(L++X))) (hk:X[k]?=some (tob,o)):St w0 (w.putObj tob o') (x::(L++X.set k (tob,o'))):=by
 have:=h.put (idx1 (a:=x) (L:=L) hk) o'
 rwa [set1] at this
theorem mapType118:P.underlying 30=some (.map 117 27):=by kernel_rfl
theorem mapType119:P.underlying 31=some (.map 117 3):=by kernel_rfl
theorem perf_s9 {it:Nat} {seen:Array Nat} (hit:w0.heap.size≤it) (h:Wh w0 w it B.ob D.c1 seen L B D R) (hB:PBok B) (hD:PDok D) {e:MapEntry} {q:Ob × Clk} (he:e∈D.es1.toList) (hs:seen.back?=some e.born)
  (hq:q∈D.p.objs) (hk:e.key=encO q.1) (hv:e.val=encC q.2) (x:Int) {Y:YT}
  (hK:∀ w' es c,Wh w0 w' it B.ob D.c1 seen L (withObjs B (put B.T.objs q.1 q.2) es c) D R→MapIs encO es c (encM encC (put B.T.objs q.1 q.2))→
   Y (Env.mk 108 [(0,(Value.pointer (some (Addr.mk B.tb 0 none)))),(27,(Value.pointer (some (Addr.mk it 0 none)))),(4,(Value.int .i64 x)),(1,(Value.pointer (some (Addr.mk B.pb 0 none))))] []) w') :
  f40_s9 (some (Addr.mk B.tb 0 none)) (Addr.mk it 0 none) x (some (Addr.mk B.pb 0 none)) w K Y:=by
 rw [f40_s9_eq]
 have hm:w.heap[B.ob]?=some (.map D.es1 D.c1):=h.get (idx1 (k:=1) rfl)
 refine ⟨_,_,w,run_entry (h.get (k:=0) rfl) hm hs (find_born hD.m1.st he),(Obcs q.1).toArray,hk,(q.2.map I64).toArray,hv,?_⟩
 have hql:=hD.each q hq
 rw [z147,z116]
 refine h.newC fun n100 w101 hn100 h101=>h101.newC fun n102 w103 hn102 h103=>?_
 have h103:St w0 w103 ((n102,Cs (zeroC.map I64) 27)::(n100,Cs [.bool false,.int .u32 0] 117)::(it,.mapIter (some B.ob) D.c1 seen D.c1)::(L++plH B D R)):=h103
 refine h103.stA (k:=1) rfl rfl (by simp) (by simp [Obcs,Value.oneCell']) fun w104 h104=>?_
 refine h104.stA (k:=0) rfl (by simp [hql]) (by simp [zeroC]) (by simp [Value.oneCell']) fun w105 h105=>?_
 have h105:St w0 w105 ((n102,Cs (splice (zeroC.map I64) 0 (q.2.map I64)) 27)::(n100,Cs (Obcs q.1) 117)::(it,.mapIter (some B.ob) D.c1 seen D.c1)::(L++plH B D R)):=h105
 rw [splice_eq _ _ _ (by simp [zeroC,hql])] at h105
 have e0:(zeroC.map I64).take 0++q.2.map I64++(zeroC.map I64).drop (0+(q.2.map I64).length)=q.2.map I64:=by simp [zeroC,hql]
 rw [e0] at h105
 have hd:=h105.drew
 refine ⟨some B.tob,?_,?_⟩
 ·rw [add_lit',cell_of (hd.has B.tb _ (by simp [plH]):_=some (Cs (thCs B.T B.tob B.tnb++B.rest) B.tt))]
  exact thCs_end hB.th 0
 refine hd.ldA (k:=1) (i:=0) rfl (by simp [Obcs]) (hd.ldA (k:=0) (i:=0) rfl (by simp [hql]) ?_)
 have hd':=(hd.tail hn102).tail hn100
 obtain ⟨es',c',hr,hm'⟩:=hB.m3.update keyO mapType118 (w:=w105.drew) (b:=B.tob) (hd'.get (idx1 (k:=4) rfl)) q.1 (encC q.2)
 rw [putM_map] at hm'
 have e8:((q.2.map I64).drop 0).take 8=q.2.map I64:=by simp only [List.drop_zero]; exact List.take_of_length_le (by simp [hql])
 rw [e8]
 exact ⟨_,hr,hK _ es' c' (map_put (k:=4) hd' rfl) hm'⟩
theorem each_put {m:List (Ob × Clk)} {k:Ob} {c:Clk} (h:∀ q∈m,q.2.length=8) (hc:c.length=8):∀ q∈put m k c,q.2.length=8:=by
 intro q hq
 unfold put at hq
 split at hq
 ·obtain ⟨y,hy,rfl⟩:=List.mem_map.1 hq
  split
  ·exact hc
  ·exact h y hy
 ·rcases List.mem_append.1 hq with hq | hq
  ·exact h q hq
  ·simp at hq; rw [hq]; exact hc
theorem each_putAll {u:List (Ob × Clk)}:∀ {m:List (Ob × Clk)},(∀ q∈m,q.2.length=8)→(∀ q∈u,q.2.length=8)→∀ q∈putAll m u,q.2.length=8:=by
 induction u with
 | nil=>intro m h _; exact h
 | cons p r ih=>intro m h hu; exact ih (each_put h (hu p (.head _))) fun q hq=>hu q (.tail _ hq)
theorem PBok.withObjs (hB:PBok B) {m:List (Ob × Clk)} {es:Array MapEntry} {c:Nat} (hm:MapIs encO es c (encM encC m)) (h8:∀ q∈m,q.2.length=8):PBok (withObjs B m es c):=
 ⟨⟨hB.th.clocks,hB.th.each,hB.th.begun,hB.th.ended,hB.th.rels,h8⟩,hm,hB.m4,hB.lt⟩
theorem PBok.withNames (hB:PBok B) {m:List (Ob × Int)} {es:Array MapEntry} {c:Nat} (hm:MapIs encO es c (encM encI m)):PBok (withNames B m es c):=
 ⟨⟨hB.th.clocks,hB.th.each,hB.th.begun,hB.th.ended,hB.th.rels,hB.th.objs⟩,hB.m3,hm,hB.lt⟩
def Met {V:Type} (f:V→Value) (objs:List (Ob × V)) (vis:List MapEntry) (ms:List (Ob × V)):Prop:=
 vis.map (fun e=>(e.key,e.val))=ms.map (fun q=>(encO q.1,f q.2))∧∀ q∈ms,q∈objs
theorem Met.nil {V:Type} {f:V→Value} {objs:List (Ob × V)}:Met f objs [] []:=⟨rfl,by simp⟩
theorem Met.snoc {V:Type} {f:V→Value} {objs:List (Ob × V)} {vis:List MapEntry} {ms:List (Ob × V)} (h:Met f objs vis ms) {e:MapEntry} {q:Ob × V} (hq:q∈objs) (hk:e.key=encO q.1) (hv:e.val=f q.2):Met f objs (vis++[e]) (ms++[q]):=
 ⟨by rw [List.map_append,List.map_append,h.1]; simp [hk,hv],fun x hx=>by
  rcases List.mem_append.1 hx with hx | hx
  ·exact h.2 x hx
  ·simp at hx; rw [hx]; exact hq⟩
theorem Met.over {V:Type} {f:V→Value} (hf:∀ a b,f a=f b→a=b) {objs:List (Ob × V)} {es:Array MapEntry} {c:Nat} (hm:MapIs encO es c (encM f objs)) {vis:List MapEntry} {seen:Array Nat} (hv:Vis es vis [] seen) {ms:List (Ob × V)}
  (h:Met f objs vis ms) (m:List (Ob × V)):(putAll m ms).Perm (putAll m objs):=by
 have h1:=hm.perm
 have h2:(es.toList.map fun e=>(e.key,e.val)).Perm (vis.map fun e=>(e.key,e.val)):=by have:=hv.perm; rw [List.append_nil] at this; exact this.map _
 rw [h.1] at h2
 have h3:(ms.map (fun q=>(encO q.1,f q.2))).Perm (objs.map (fun q=>(encO q.1,f q.2))):=by
  refine h2.symm.trans ?_
  simpa [encM,Function.comp_def] using h1
 have h4:ms.Perm objs:=perm_of_map (f:=fun q:Ob × V=>(encO q.1,f q.2)) (fun a b hab=>Prod.ext (encO_inj (congrArg Prod.fst hab)) (hf _ _ (congrArg Prod.snd hab))) h3
 refine putAll_order h4 ?_ m
 have:=hm.nodup
 have e:((encM f objs).map (·.1))=objs.map (·.1):=by simp [encM,Function.comp_def]
 rw [e] at this
 exact (h4.map _).nodup_iff.2 this
theorem Met.entry {V:Type} {f:V→Value} {objs:List (Ob × V)} {es:Array MapEntry} {c:Nat} (hm:MapIs encO es c (encM f objs)) {e:MapEntry} (he:e∈es.toList):∃ q∈objs,e.key=encO q.1∧e.val=f q.2:=by
 obtain ⟨q,hq,h1,h2⟩:=hm.pair he
 obtain ⟨y,hy,rfl⟩:=List.mem_map.1 hq
 exact ⟨y,hy,h1,h2⟩
theorem perf_s0 (h:St w0 w (L++plH B D R)) (hB:PBok B) (hD:PDok D) (x:Int)
  (hK:∀ w' es c,St w0 w' (L++plH (withObjs B (putAll B.T.objs D.p.objs) es c) D R)→PBok (withObjs B (putAll B.T.objs D.p.objs) es c)→f40_s2 (some (Addr.mk B.tb 0 none)) x (some (Addr.mk B.pb 0 none)) w' K) :
  f40_s0 (some (Addr.mk B.tb 0 none)) x (some (Addr.mk B.pb 0 none)) w K:=by
 rw [f40_s0_eq]
 refine ⟨some B.ob,?_,?_⟩
 ·rw [add_lit',cell_of (h.has B.pb _ (by simp [plH]):_=some (Cs (planCs B.tb B.e D.ov B.ob B.nb D.p) B.t))]
  exact planCs_rest hD.own 1
 have hm:w.heap[B.ob]?=some (.map D.es1 D.c1):=h.has _ _ (by simp [plH])
 refine ⟨w.heap.size,_,run_range mapType118 hm,?_⟩
 have hit:=h.le
 generalize hi:w.heap.size=it at hit
 have h1:Wh w0 (w.alloc (.mapIter (some B.ob) D.c1 #[] D.c1)) it B.ob D.c1 #[] L B D R:=by rw [← hi]; exact h.alloc _
 refine LoopE_map (es:=D.es1) (fun vis seen w'=>∃ ms es c,Met encC D.p.objs vis ms∧Wh w0 w' it B.ob D.c1 seen L (withObjs B (putAll B.T.objs ms) es c) D R∧MapIs encO es c (encM encC (putAll B.T.objs ms)))
  ⟨[],B.es3,B.c3,Met.nil,h1,hB.m3⟩ ?_ ?_
 ·rintro vis seen w1 hv ⟨ms,es,c,hmet,hw,hmi⟩ Y
  show f40_lb1 ..
  rw [f40_lb1_eq]
  have hp:=hmet.over (fun _ _=>encC_inj) hD.m1 hv B.T.objs
  refine .inl ⟨w1,run_next_over (hw.get (k:=0) rfl) (hw.get (idx1 (k:=1) rfl)) hD.m1.st hv.over,hK w1 es c ?_ (hB.withObjs (hmi.of_perm (hp.map _)) (each_putAll hB.th.objs hD.each))⟩
  exact hw.tail hit
 ·rintro vis rem seen w1 hr hv ⟨ms,es,c,hmet,hw,hmi⟩ Y hY
  show f40_lb1 ..
  rw [f40_lb1_eq]
  obtain ⟨e,w2,he,hn,hw2,hk2,hrun⟩:=run_next_some (P:=P) (hw.get (k:=0) rfl) (hw.get (idx1 (k:=1) rfl)) hD.m1.st (hv.more hD.m1.st hr)
  obtain ⟨q,hq,hk,hvq⟩:=Met.entry hD.m1 he
  have h8:∀ q∈putAll B.T.objs ms,q.2.length=8:=each_putAll hB.th.objs fun q hq=>hD.each q (hmet.2 q hq)
  refine .inr ⟨_,_,_,hrun,perf_s9 (B:=withObjs B (putAll B.T.objs ms) es c) (seen:=seen.push e.born) hit ((hw.same hw2 hk2).put (k:=0) rfl _) (hB.withObjs hmi h8) hD he (by simp) hq hk hvq x fun w' es' c' h' hm'=>hY e w' he hn ?_⟩
  have e1:put (putAll B.T.objs ms) q.1 q.2=putAll B.T.objs (ms++[q]):=by rw [putAll_append]; rfl
  refine ⟨ms++[q],es',c',hmet.snoc hq hk hvq,?_,?_⟩
  ·rw [← e1]; exact h'
  ·rw [← e1]; exact hm'
theorem perf_s8 {it:Nat} {seen:Array Nat} (hit:w0.heap.size≤it) (h:Wh w0 w it B.nb D.c2 seen L B D R) (hB:PBok B) (hD:PDok D) {e:MapEntry} {q:Ob × Int} (he:e∈D.es2.toList) (hs:seen.back?=some e.born)
  (hk:e.key=encO q.1) (hv:e.val=encI q.2) (x:Int) {Y:YT}
  (hK:∀ w' es c,Wh w0 w' it B.nb D.c2 seen L (withNames B (put B.T.names q.1 q.2) es c) D R→MapIs encO es c (encM encI (put B.T.names q.1 q.2))→
   Y (Env.mk 108 [(0,(Value.pointer (some (Addr.mk B.tb 0 none)))),(43,(Value.pointer (some (Addr.mk it 0 none)))),(4,(Value.int .i64 x)),(1,(Value.pointer (some (Addr.mk B.pb 0 none))))] []) w') :
  f40_s8 (some (Addr.mk B.tb 0 none)) (Addr.mk it 0 none) x (some (Addr.mk B.pb 0 none)) w K Y:=by
 rw [f40_s8_eq]
 have hm:w.heap[B.nb]?=some (.map D.es2 D.c2):=h.get (idx1 (k:=2) rfl)
 refine ⟨_,_,w,run_entry (h.get (k:=0) rfl) hm hs (find_born hD.m2.st he),(Obcs q.1).toArray,hk,q.2,hv,?_⟩
 rw [z147]
 refine h.newC fun n100 w101 hn100 h101=>?_
 have h101:St w0 w101 ((n100,Cs [.bool false,.int .u32 0] 117)::(it,.mapIter (some B.nb) D.c2 seen D.c2)::(L++plH B D R)):=h101
 refine h101.stA (k:=0) rfl rfl (by simp) (by simp [Obcs,Value.oneCell']) fun w105 h105=>?_
 have h105:St w0 w105 ((n100,Cs (Obcs q.1) 117)::(it,.mapIter (some B.nb) D.c2 seen D.c2)::(L++plH B D R)):=h105
 have hd:=h105.drew
 refine ⟨some B.tnb,?_,?_⟩
 ·rw [add_lit',cell_of (hd.has B.tb _ (by simp [plH]):_=some (Cs (thCs B.T B.tob B.tnb++B.rest) B.tt))]
  exact thCs_end hB.th 1
 refine hd.ldA (k:=0) (i:=0) rfl (by simp [Obcs]) ?_
 have hd':=hd.tail hn100
 obtain ⟨es',c',hr,hm'⟩:=hB.m4.update keyO mapType119 (w:=w105.drew) (b:=B.tnb) (hd'.get (idx1 (k:=5) rfl)) q.1 (encI q.2)
 rw [putM_map] at hm'
 exact ⟨_,hr,hK _ es' c' (map_put (k:=5) hd' rfl) hm'⟩
theorem encI_inj (a b:Int) (h:encI a=encI b):a=b:=by simpa using h
theorem perf_s2 (h:St w0 w (L++plH B D R)) (hB:PBok B) (hD:PDok D) (x:Int)
  (hK:∀ w' es c,St w0 w' (L++plH (withNames B (putAll B.T.names D.p.names) es c) D R)→PBok (withNames B (putAll B.T.names D.p.names) es c)→f40_s4 x (some (Addr.mk B.tb 0 none)) (some (Addr.mk B.pb 0 none)) w' K) :
  f40_s2 (some (Addr.mk B.tb 0 none)) x (some (Addr.mk B.pb 0 none)) w K:=by
 rw [f40_s2_eq]
 refine ⟨some B.nb,?_,?_⟩
 ·rw [add_lit',cell_of (h.has B.pb _ (by simp [plH]):_=some (Cs (planCs B.tb B.e D.ov B.ob B.nb D.p) B.t))]
  exact planCs_rest hD.own 2
 have hm:w.heap[B.nb]?=some (.map D.es2 D.c2):=h.has _ _ (by simp [plH])
 refine ⟨w.heap.size,_,run_range mapType119 hm,?_⟩
 have hit:=h.le
 generalize hi:w.heap.size=it at hit
 have h1:Wh w0 (w.alloc (.mapIter (some B.nb) D.c2 #[] D.c2)) it B.nb D.c2 #[] L B D R:=by rw [← hi]; exact h.alloc _
 refine LoopE_map (es:=D.es2) (fun vis seen w'=>∃ ms es c,Met encI D.p.names vis ms∧Wh w0 w' it B.nb D.c2 seen L (withNames B (putAll B.T.names ms) es c) D R∧MapIs encO es c (encM encI (putAll B.T.names ms)))
  ⟨[],B.es4,B.c4,Met.nil,h1,hB.m4⟩ ?_ ?_
 ·rintro vis seen w1 hv ⟨ms,es,c,hmet,hw,hmi⟩ Y
  show f40_lb3 ..
  rw [f40_lb3_eq]
  have hp:=hmet.over encI_inj hD.m2 hv B.T.names
  refine .inl ⟨w1,run_next_over (hw.get (k:=0) rfl) (hw.get (idx1 (k:=2) rfl)) hD.m2.st hv.over,hK w1 es c ?_ (hB.withNames (hmi.of_perm (hp.map _)))⟩
  exact hw.tail hit
 ·rintro vis rem seen w1 hr hv ⟨ms,es,c,hmet,hw,hmi⟩ Y hY
  show f40_lb3 ..
  rw [f40_lb3_eq]
  obtain ⟨e,w2,he,hn,hw2,hk2,hrun⟩:=run_next_some (P:=P) (hw.get (k:=0) rfl) (hw.get (idx1 (k:=2) rfl)) hD.m2.st (hv.more hD.m2.st hr)
  obtain ⟨q,hq,hk,hvq⟩:=Met.entry hD.m2 he
  refine .inr ⟨_,_,_,hrun,perf_s8 (B:=withNames B (putAll B.T.names ms) es c) (seen:=seen.push e.born) hit ((hw.same hw2 hk2).put (k:=0) rfl _) (hB.withNames hmi) hD he (by simp) hk hvq x fun w' es' c' h' hm'=>hY e w' he hn ?_⟩
  have e1:put (putAll B.T.names ms) q.1 q.2=putAll B.T.names (ms++[q]):=by rw [putAll_append]; rfl
  refine ⟨ms++[q],es',c',hmet.snoc hq hk hvq,?_,?_⟩
  ·rw [← e1]; exact h'
  ·rw [← e1]; exact hm'
end Tryz
end Go.Fx
namespace Go.Fx.Tryz
open Go Go.Fx Go.Fx.Mo
open Go.Proofs
variable {w0 w:World} {K:KT} {B:PB} {R:HL} {p:Pl}
set_option maxRecDepth 20000
def setT (B:PB) (T:Th):PB:={ B with T:=T }
theorem PBok.setT (hB:PBok B) {T:Th} (hT:ThOk T) (h1:T.objs=B.T.objs) (h2:T.names=B.T.names):PBok (setT B T):=
 ⟨hT,by show MapIs encO B.es3 B.c3 (encM encC T.objs); rw [h1]; exact hB.m3,by show MapIs encO B.es4 B.c4 (encM encI T.names); rw [h2]; exact hB.m4,hB.lt⟩
theorem PS.thSt1 (h:PS w0 w B R p) (hB:PBok B) {i:Nat} {v:Value} {T':Th} {K:World→Prop} (hi:i < 90) (hv:v.oneCell'=true) (hT:(thCs B.T B.tob B.tnb++B.rest).set i v=thCs T' B.tob B.tnb++B.rest)
  (hK:∀ w',PS w0 w' (setT B T') R p→K w'):St1 (Addr.mk B.tb i none) v w K:=by
 obtain ⟨D,L,rfl,hs,h1,h2,h3⟩:=h
 refine hs.st1 (k:=L.length+3) (idx_app L _ 3) (by rw [List.length_append,thCs_len hB.th]; omega) hv fun w' h'=>hK w' ⟨D,L,rfl,?_,h1,h2,h3⟩
 rw [set_app,hT] at h'
 exact h'
theorem PS.ownCs (h:PS w0 w B R p) {K:Array Value→Prop} (hK:K (p.own.map I64).toArray):LdA 8 (Addr.mk B.pb 8 none) w K:=by
 have ho:=h.own
 obtain ⟨ov,ob,nb,hp⟩:=h.pl
 refine LdA_of hp (by rw [planCs_len ho]; omega) ?_
 have:((planCs B.tb B.e ov ob nb p).drop 8).take 8=p.own.map I64:=by
  obtain ⟨a,b,c,d,f,g,h,j,hl⟩:=own8 ho
  simp only [planCs,Evcs,hl]
  rfl
 rw [this]
 exact hK
theorem PS.rest7 (h:PS w0 w B R p) (i:Nat):∃ ob nb,w.cell? (Addr.mk B.pb (16+i) none)=[I64 p.tk,.map (some ob),.map (some nb),I64 p.fork,I64 p.ends,.bool p.rel,.bool p.bad][i]?:=by
 obtain ⟨ov,ob,nb,hp⟩:=h.pl
 exact ⟨ob,nb,by rw [cell_of hp]; exact planCs_rest h.own i⟩
def perf7 (T:Th) (e:Ev) (p:Pl):Th:=if p.rel then { T with rels:=T.rels.set e.th.toNat (w64 (at0 T.rels e.th+1)) } else T
def perf6 (T:Th) (p:Pl):Th:=if p.ends≥0 then { T with ended:=T.ended.set p.ends.toNat true } else T
def perf4 (T:Th) (p:Pl):Th:=if p.fork≥0 then { T with begun:=T.begun.set p.fork.toNat true,clocks:=T.clocks.set p.fork.toNat (joinC (getC T.clocks p.fork) p.own) } else T
theorem perform_eq (T:Th) (e:Ev) (p:Pl):perform T e p=perf7 (perf6 (perf4 { T with clocks:=T.clocks.set e.th.toNat p.own,objs:=putAll T.objs p.objs,names:=putAll T.names p.names } p) p) e p:=rfl
theorem perf_s7 (h:PS w0 w B R p) (hB:PBok B) (hK:∀ w',PS w0 w' (setT B (perf7 B.T B.e p)) R p→PBok (setT B (perf7 B.T B.e p))→K (.tuple [].toArray) w'):f40_s7 B.e.th (some (Addr.mk B.tb 0 none)) (some (Addr.mk B.pb 0 none)) w K:=by
 rw [f40_s7_eq]
 obtain ⟨i,hi,hi8⟩:∃ i:Nat,B.e.th=i∧i < 8:=⟨B.e.th.toNat,by have:=hB.lt; omega,by have:=hB.lt; omega⟩
 obtain ⟨_,_,hr⟩:=h.rest7 5
 refine ⟨p.rel,by rw [add_lit']; exact hr,?_⟩
 rw [BIf_iff]
 constructor
 ·intro hrel
  have hd:=h.drew
  simp only [optS,add_lit',Nat.mul_one,Nat.zero_add]
  rw [hi]
  simp only [Int.toNat_natCast]
  refine ⟨by omega,by omega,B.T.rels.getD i 0,by rw [cell_of hd.th]; exact thCs_rels hB.th hi8,by omega,by omega,?_⟩
  have e7:perf7 B.T B.e p={ B.T with rels:=B.T.rels.set i (w64 (B.T.rels.getD i 0+1)) }:=by simp [perf7,hrel,hi,at0]
  rw [e7] at hK
  exact hd.thSt1 hB (by omega) rfl (thCs_setrels hB.th hi8 _) fun w' h'=>hK w' h' (hB.setT ⟨hB.th.clocks,hB.th.each,hB.th.begun,hB.th.ended,by simp [hB.th.rels],hB.th.objs⟩ rfl rfl)
 ·intro hrel
  have e7:perf7 B.T B.e p=B.T:=by simp [perf7,hrel]
  rw [e7] at hK
  exact hK w h hB
theorem perf_s6 (h:PS w0 w B R p) (hB:PBok B) (he:p.ends < 8) (hK:∀ w',PS w0 w' (setT B (perf7 (perf6 B.T p) B.e p)) R p→PBok (setT B (perf7 (perf6 B.T p) B.e p))→K (.tuple [].toArray) w'):f40_s6 B.e.th (some (Addr.mk B.tb 0 none)) (some (Addr.mk B.pb 0 none)) w K:=by
 rw [f40_s6_eq]
 obtain ⟨_,_,hr⟩:=h.rest7 4
 refine ⟨p.ends,by rw [add_lit']; exact hr,?_⟩
 rw [BIf_iff]
 constructor
 ·intro hge
  have hge:p.ends≥0:=by simpa using hge
  obtain ⟨i,hi,hi8⟩:∃ i:Nat,p.ends=i∧i < 8:=⟨p.ends.toNat,by omega,by omega⟩
  have hd:=h.drew
  obtain ⟨_,_,hr⟩:=hd.rest7 4
  simp only [optS,add_lit',Nat.mul_one,Nat.zero_add]
  refine ⟨p.ends,hr,by omega,by omega,?_⟩
  rw [hi]
  simp only [Int.toNat_natCast]
  have e6:perf6 B.T p={ B.T with ended:=B.T.ended.set i true }:=by simp [perf6,hi]
  rw [e6] at hK
  have hB':PBok (setT B { B.T with ended:=B.T.ended.set i true }):=hB.setT ⟨hB.th.clocks,hB.th.each,hB.th.begun,by simp [hB.th.ended],hB.th.rels,hB.th.objs⟩ rfl rfl
  exact hd.thSt1 hB (by omega) rfl (thCs_setended hB.th hi8 _) fun w' h'=>perf_s7 (B:=setT B { B.T with ended:=B.T.ended.set i true }) h' hB' hK
 ·intro hge
  have hge:¬ p.ends≥0:=by simpa using hge
  have e6:perf6 B.T p=B.T:=by simp [perf6,hge]
  rw [e6] at hK
  exact perf_s7 h hB hK
theorem perf_s4 (h:PS w0 w B R p) (hB:PBok B) (hf:p.fork < 8) (he:p.ends < 8) (hK:∀ w',PS w0 w' (setT B (perf7 (perf6 (perf4 B.T p) p) B.e p)) R p→PBok (setT B (perf7 (perf6 (perf4 B.T p) p) B.e p))→K (.tuple [].toArray) w') :
  f40_s4 B.e.th (some (Addr.mk B.tb 0 none)) (some (Addr.mk B.pb 0 none)) w K:=by
 rw [f40_s4_eq]
 obtain ⟨_,_,hr⟩:=h.rest7 3
 refine ⟨p.fork,by rw [add_lit']; exact hr,?_⟩
 rw [BIf_iff]
 constructor
 ·intro hge
  have hge:p.fork≥0:=by simpa using hge
  obtain ⟨i,hi,hi8⟩:∃ i:Nat,p.fork=i∧i < 8:=⟨p.fork.toNat,by omega,by omega⟩
  have hd:=h.drew
  obtain ⟨_,_,hr⟩:=hd.rest7 3
  simp only [optS,add_lit',Nat.mul_one,Nat.zero_add]
  refine ⟨p.fork,hr,by omega,by omega,?_⟩
  rw [hi]
  simp only [Int.toNat_natCast]
  have hT1:ThOk { B.T with begun:=B.T.begun.set i true }:=⟨hB.th.clocks,hB.th.each,by simp [hB.th.begun],hB.th.ended,hB.th.rels,hB.th.objs⟩
  have hB':PBok (setT B { B.T with begun:=B.T.begun.set i true }):=hB.setT hT1 rfl rfl
  refine hd.thSt1 hB (by omega) rfl (thCs_setbegun hB.th hi8 _) fun w1 h1=>?_
  rw [f40_s5_eq]
  have hd1:=h1.drew
  obtain ⟨_,_,hr⟩:=hd1.rest7 3
  simp only [optS,add_lit',Nat.mul_one,Nat.zero_add]
  refine ⟨p.fork,hr,by omega,by omega,hd1.ownCs ?_⟩
  rw [hi]
  simp only [Int.toNat_natCast]
  have ho:=hd1.own
  have hcl:(B.T.clocks.getD i zeroC).length=8:=clk_len hB.th i
  obtain ⟨D,L,rfl,hs,k1,k2,k3⟩:=hd1
  have e4:perf4 B.T D.p={ B.T with begun:=B.T.begun.set i true,clocks:=B.T.clocks.set i (joinC (B.T.clocks.getD i zeroC) D.p.own) }:=by simp [perf4,hi,getC]
  rw [e4] at hK
  refine join_ok hs (k:=L.length+3) (cs:=thCs { B.T with begun:=B.T.begun.set i true } B.tob B.tnb++B.rest) (c:=B.T.clocks.getD i zeroC) (idx_app L _ 3) hcl ho (by rw [List.length_append,thCs_len hT1]; omega) (thCs_clock hT1 hi8) fun w2 h2=>⟨rfl,?_⟩
  rw [set_app,thCs_setclock hT1 hi8 (joinC_length hcl ho)] at h2
  have hT2:=hT1.setclock i (joinC_length hcl ho)
  exact perf_s6 (B:=setT B { B.T with begun:=B.T.begun.set i true,clocks:=B.T.clocks.set i (joinC (B.T.clocks.getD i zeroC) D.p.own) }) ⟨D,L,rfl,h2,k1,k2,k3⟩ (hB.setT hT2 rfl rfl) he hK
 ·intro hge
  have hge:¬ p.fork≥0:=by simpa using hge
  have e4:perf4 B.T p=B.T:=by simp [perf4,hge]
  rw [e4] at hK
  exact perf_s6 h hB he hK
def withT (B:PB) (T:Th) (es3:Array MapEntry) (c3:Nat) (es4:Array MapEntry) (c4:Nat):PB:={ B with T:=T,es3,c3,es4,c4 }
theorem perform_ps (h:PS w0 w B R p) (hB:PBok B) (hf:p.fork < 8) (he:p.ends < 8)
  (hK:∀ w' es3 c3 es4 c4,PS w0 w' (withT B (perform B.T B.e p) es3 c3 es4 c4) R p→PBok (withT B (perform B.T B.e p) es3 c3 es4 c4)→K (.tuple [].toArray) w') :
  CallL P 40 [.pointer (some (Addr.mk B.tb 0 none)),.pointer (some (Addr.mk B.pb 0 none))] w K:=by
 refine f40_ok _ _ _ _ ?_
 rw [f40_eq]
 obtain ⟨i,hi,hi8⟩:∃ i:Nat,B.e.th=i∧i < 8:=⟨B.e.th.toNat,by have:=hB.lt; omega,by have:=hB.lt; omega⟩
 have ho:=h.own
 simp only [optS,add_lit',Nat.zero_add]
 refine ⟨B.e.th,by rw [h.ev 1 (by omega)]; rfl,h.drew.ownCs ⟨hB.lt.1,by have:=hB.lt.2; simpa using this,?_⟩⟩
 obtain ⟨D,L,rfl,hs,k1,k2,k3⟩:=h.drew
 rw [hi]
 simp only [Int.toNat_natCast]
 have hT1:=hB.th.setclock i ho
 refine hs.stA (k:=L.length+3) (cs:=thCs B.T B.tob B.tnb++B.rest) (idx_app L _ 3) (by simp [ho]) (by rw [List.length_append,thCs_len hB.th]; omega) (by simp [Value.oneCell']) fun w1 h1=>?_
 rw [set_app,thCs_setclock hB.th hi8 ho] at h1
 have hB1:PBok (setT B { B.T with clocks:=B.T.clocks.set i D.p.own }):=hB.setT hT1 rfl rfl
 rw [← hi]
 refine perf_s0 (B:=setT B { B.T with clocks:=B.T.clocks.set i D.p.own }) h1 hB1 k1 _ fun w2 es3 c3 h2 hB2=>?_
 refine perf_s2 (B:=withObjs (setT B { B.T with clocks:=B.T.clocks.set i D.p.own }) (putAll B.T.objs D.p.objs) es3 c3) h2 hB2 k1 _ fun w3 es4 c4 h3 hB3=>?_
 refine perf_s4 (B:=withNames (withObjs (setT B { B.T with clocks:=B.T.clocks.set i D.p.own }) (putAll B.T.objs D.p.objs) es3 c3) (putAll B.T.names D.p.names) es4 c4) ⟨D,L,rfl,h3,k1,k2,k3⟩ hB3 hf he fun w4 h4 hB4=>?_
 have e:perform B.T B.e D.p=perf7 (perf6 (perf4 { B.T with clocks:=B.T.clocks.set i D.p.own,objs:=putAll B.T.objs D.p.objs,names:=putAll B.T.names D.p.names } D.p) D.p) B.e D.p:=by
  rw [perform_eq,hi]; rfl
 have hK:=hK w4 es3 c3 es4 c4
 rw [e] at hK
 exact hK h4 hB4
end Go.Fx.Tryz
namespace Go.Fx.Tryz
set_option maxRecDepth 100000
open Go Go.Fx Go.Proofs
noncomputable def c7:Code:=bodyOf Tryz.f7
noncomputable def rs7:List ResultVar:=Tryz.f7.results.toList
abbrev f7_kb (K:KT):Exit→YT:=bodyK P rs7 K
def f7 (a:OA) (b:Array Value) (w:World) (K:KT):Prop:=CS P c7 none [4,5] [4,5] (f7_kb K) (env0 201 [(VP a),(Value.agg b)]) w
abbrev f7_k1 (K:KT):Exit→YT:=kseq P (cA c7 6) (cA c7 7) none [4,5] [4,5] (f7_kb K)
def f7_s0 (a:Bool) (b c d f:Addr) (w:World) (K:KT):Prop:=SG P (cA c7 13) none [4,5,2,3] [4,5] (f7_k1 K) (Env.mk 201 [(31,(VB a)),(4,(VP (some b))),(5,(VP (some c))),(2,(VP (some d))),(3,(VP (some f)))] []) w
def f7_s1 (a b c d:Addr) (w:World) (K:KT):Prop:=SG P (cA c7 7) none [4,5] [4,5] (f7_kb K) (Env.mk 201 [(4,(VP (some a))),(5,(VP (some b))),(2,(VP (some c))),(3,(VP (some d)))] []) w
def f7_s2 (a b c d:Addr) (w:World) (K:KT):Prop:=SG P (cA c7 15) none [4,5] [4,5] (f7_kb K) (Env.mk 201 [(4,(VP (some a))),(5,(VP (some b))),(2,(VP (some c))),(3,(VP (some d)))] []) w
def f7_s3 (a b c d f:Addr) (g:Bool) (w:World) (K:KT):Prop:=SG P (cA c7 31) none [4,5] [4,5] (f7_kb K) (Env.mk 201 [(4,(VP (some a))),(5,(VP (some b))),(2,(VP (some c))),(6,(VP (some d))),(3,(VP (some f))),(7,(VB g))] []) w
def f7_s4 (a b c d f:Addr) (w:World) (K:KT):Prop:=SG P (cA c7 63) none [4,5] [4,5] (f7_kb K) (Env.mk 201 [(5,(VP (some a))),(4,(VP (some b))),(2,(VP (some c))),(6,(VP (some d))),(3,(VP (some f)))] []) w
def f7_s5 (a b c d f g:Addr) (h:Bool) (w:World) (K:KT):Prop:=SG P (cA c7 255) none [4,5] [4,5] (f7_kb K) (Env.mk 201 [(5,(VP (some a))),(4,(VP (some b))),(2,(VP (some c))),(11,(VP (some d))),(6,(VP (some f))),(3,(VP (some g))),(10,(VB h))] []) w
def f7_s6 (a b c d f g:Addr) (h:Int) (w:World) (K:KT):Prop:=SG P (cA c7 1023) none [4,5] [4,5] (f7_kb K) (Env.mk 201 [(5,(VP (some a))),(4,(VP (some b))),(2,(VP (some c))),(11,(VP (some d))),(6,(VP (some f))),(3,(VP (some g))),(12,(VI h))] []) w
abbrev f7_k18 (K:KT):Exit→YT:=kseq P (cA c7 8190) (cA c7 8191) none [4,5] [4,5] (f7_kb K)
abbrev f7_k20 (K:KT):Exit→YT:=kblock 0 (f7_k18 K)
def f7_rd7 (a b c e f g h i:Addr) (j:Int) (l:Nat) (R:LoopState→Option Code→Loop) (post:Option Code→World→Prop) (args:List Value) (W:World):Prop:=args.length=1∧CS P (cA c7 65524) (some l) [5,4,14,2,13,11,15,6] [] (kround P (cA c7 65525) l R post) { putParams (Env.mk 201 [(5,(VP (some a))),(4,(VP (some b))),(14,(VP (some c))),(2,(VP (some e))),(13,(VP (some f))),(11,(VP (some g))),(6,(VP (some h))),(3,(VP (some i))),(12,(VI j))] []) [71] args with d:=[] } W
abbrev f7_ka7 (l:Nat) (R:LoopState→Option Code→Loop) (post:Option Code→World→Prop):Exit→YT:=kround P (cA c7 65525) l R post
def f7_ra7 (a b c d e f g h:Addr) (i j:Int) (w:World) (l:Nat) (R:LoopState→Option Code→Loop) (post:Option Code→World→Prop):Prop:=CS P (cA c7 65524) (some l) [5,4,14,2,13,11,15,6] [] (f7_ka7 l R post) (Env.mk 201 [(71,(Value.int .u32 j)),(5,(VP (some a))),(4,(VP (some b))),(14,(VP (some c))),(2,(VP (some d))),(13,(VP (some e))),(11,(VP (some f))),(6,(VP (some g))),(3,(VP (some h))),(12,(VI i))] []) w
def f7_s8 (a b c d f g:Addr) (h:Int) (i:Addr) (w:World) (l:Nat) (R:LoopState→Option Code→Loop) (post:Option Code→World→Prop):Prop:=SG P (cA c7 65525) (some l) [] [] (endS l R post) (Env.mk 201 [(5,(VP (some a))),(4,(VP (some b))),(14,(VP (some c))),(2,(VP (some d))),(13,(VP (some f))),(11,(VP (some g))),(15,(Value.int .u32 h)),(6,(VP (some i)))] []) w
abbrev f7_k21 (l:Nat) (R:LoopState→Option Code→Loop) (post:Option Code→World→Prop):Exit→YT:=kblock 1 (endS l R post)
abbrev f7_k23 (l:Nat) (R:LoopState→Option Code→Loop) (post:Option Code→World→Prop):Exit→YT:=kseq P (cA c7 524202) (cA c7 524203) (some l) [] [] (f7_k21 l R post)
def f7_s9 (w:World) (l:Nat) (R:LoopState→Option Code→Loop) (post:Option Code→World→Prop):Prop:=SG P (cA c7 8387243) (some l) [13,11,15,6,16,2] [] (f7_k23 l R post) (Env.mk 201 [] []) w
theorem f7_s9_eq (w:World) (l:Nat) (R:LoopState→Option Code→Loop) (post:Option Code→World→Prop):f7_s9 w l R post=(w.heap[l]?=some (.loop (R .busy none))∧post none (w.putObj l (.loop (R .ready none)))):=by kernel_rfl
def f7_s10 (a b:Addr) (c:Int) (d:Addr) (f:OA) (g:Addr) (w:World) (l:Nat) (R:LoopState→Option Code→Loop) (post:Option Code→World→Prop):Prop:=SG P (cA c7 524203) (some l) [] [] (f7_k21 l R post) (Env.mk 201 [(13,(VP (some a))),(11,(VP (some b))),(15,(Value.int .u32 c)),(6,(VP (some d))),(16,(VP f)),(2,(VP (some g)))] []) w
def f7_s11 (a b:Addr) (c:Int) (d:Addr) (f:OA) (w:World) (l:Nat) (R:LoopState→Option Code→Loop) (post:Option Code→World→Prop):Prop:=SG P (cA c7 1048407) (some l) [] [] (f7_k21 l R post) (Env.mk 201 [(13,(VP (some a))),(11,(VP (some b))),(15,(Value.int .u32 c)),(6,(VP (some d))),(16,(VP f))] []) w
def f7_s12 (a b c:Addr) (d:Int) (f:Bool) (w:World) (l:Nat) (R:LoopState→Option Code→Loop) (post:Option Code→World→Prop):Prop:=SG P (cA c7 2096815) (some l) [] [] (f7_k21 l R post) (Env.mk 201 [(13,(VP (some a))),(11,(VP (some b))),(17,(VP (some c))),(15,(Value.int .u32 d)),(18,(VB f))] []) w
theorem f7_s12_eq (a c d:Addr) (e:Int) (f:Bool) (w:World) (l:Nat) (R:LoopState→Option Code→Loop) (post:Option Code→World→Prop):f7_s12 a c d e f w l R post=(BIf f (∃ (g:OA) (h i:Nat),w.cell? a=some (.slice g h i)∧LdA 5 d w (fun p=>LdA 5 c w (fun q=>∃ b:Array Value,(∀ wq,(Instr.build 108 [(0,(Value.int .u32 e)),(1,(Value.agg p)),(2,(Value.agg q))].toArray).run P wq=.ok (.agg b) wq)∧sizesAre 11 [(Value.agg b)]∧NewC (([(Value.agg b)].map fun (v:Value)=>v.cells.toList).flatten.toArray) 108 w (fun r s=>∃ (j:OA) (k m:Nat),∃ n:World,(Builtin.append_ #[39,39] 39 [(Value.slice g h i),(Value.slice (some (Addr.mk r 0 none)) 1 1)].toArray).run P s=.ok (.slice j k m) n∧St1 a (Value.slice j k m) n (fun o=>o.heap[l]?=some (.loop (R .busy none))∧post none (o.putObj l (.loop (R .ready none)))))))) (w.heap[l]?=some (.loop (R .busy none))∧post none (w.putObj l (.loop (R .ready none))))):=by kernel_rfl
theorem f7_s11_eq (b a:Addr) (c:Int) (e:Addr) (d:OA) (w:World) (l:Nat) (R:LoopState→Option Code→Loop) (post:Option Code→World→Prop):f7_s11 b a c e d w l R post=(LdA 5 a w.drew (fun f=>∃ g:Option Addr,w.drew.cell? e=some (.pointer g)∧optS g (fun p=>LdA 8 (p.add 8) w.drew (fun h=>(CallL P 38 [(Value.pointer d),(Value.agg f),(Value.agg h)] w.drew (fun q r=>∃ i:Array Value,∃ j:Bool,q=(.tuple [(Value.agg i),(Value.bool j)].toArray)∧NewC (zcells P 97) 97 r (fun k s=>StA 5 (Addr.mk k 0 none) i s (fun t=>f7_s12 b a (Addr.mk k 0 none) c j t l R post))))∧(NewC (zcells P 97) 97 w.drew (fun m u=>CallL P 38 [(Value.pointer d),(Value.agg f),(Value.agg h)] u (fun v x=>∃ n:Array Value,∃ o:Bool,v=(.tuple [(Value.agg n),(Value.bool o)].toArray)∧StA 5 (Addr.mk m 0 none) n x (fun y=>f7_s12 b a (Addr.mk m 0 none) c o y l R post)))))))):=by kernel_rfl
theorem f7_s10_eq (b c:Addr) (a:Int) (d:Addr) (e:OA) (f:Addr) (w:World) (l:Nat) (R:LoopState→Option Code→Loop) (post:Option Code→World→Prop):f7_s10 b c a d e f w l R post=(∃ g:Option Addr,w.cell? f=some (.pointer g)∧optS g (fun j=>∃ h:Option Nat,w.cell? (j.add 93)=some (.map h)∧∃ i:Bool,(∀ wq,Ext w wq→(Instr.lookup 35 (Value.map h) (Value.int .u32 a) false).run P wq=.ok (.bool i) wq)∧BIf i (w.heap[l]?=some (.loop (R .busy none))∧post none (w.putObj l (.loop (R .ready none)))) (f7_s11 b c a d e w l R post))):=by kernel_rfl
theorem f7_s8_eq (f g b c h i:Addr) (d:Int) (j:Addr) (w:World) (l:Nat) (R:LoopState→Option Code→Loop) (post:Option Code→World→Prop):f7_s8 f g b c h i d j w l R post=(∃ k:Option Addr,w.cell? c=some (.pointer k)∧optS k (fun t=>∃ m:Option Nat,w.cell? (t.add 92)=some (.map m)∧∃ e:Option Addr,(∀ wq,Ext w wq→(Instr.lookup 34 (Value.map m) (Value.int .u32 d) false).run P wq=.ok (.pointer e) wq)∧BIf e.isNone (∃ n:Int,w.cell? b=some (.int .i64 n)∧St1 b (Value.int .i64 (IntKind.wrap .i64 ((n:Int)+1))) w (fun a=>∃ o:Option Addr,a.drew.cell? c=some (.pointer o)∧optS o (fun u=>∃ p:Option Nat,a.drew.cell? (u.add 92)=some (.map p)∧∃ q:Int,(∀ wq,Ext a.drew wq→(Builtin.len_ #[34] 3 [(Value.map p)].toArray).run P wq=.ok (.int .i64 q) wq)∧∃ r:Int,a.drew.cell? b=some (.int .i64 r)∧BIf (decide (((IntKind.wrap .i64 ((q:Int)+r)):Int) > 20000)) (St1 g (Value.slice none 0 0) a.drew (fun v=>St1 f (Value.int .i64 2) v (fun s=>s.heap[l]?=some (.loop (R .busy none))∧post (some .ret) (s.putObj l (.loop (R .done (some .ret))))))) (f7_s9 a.drew l R post)))) (f7_s10 h i d j e c w l R post))):=by kernel_rfl
theorem f7_ra7_eq (a b c d e f g i:Addr) (j h:Int) (w:World) (l:Nat) (R:LoopState→Option Code→Loop) (post:Option Code→World→Prop):f7_ra7 a b c d e f g i j h w l R post=(w.heap[l]?=some (.loop (R .ready none))∧f7_s8 a b c d e f h g (w.putObj l (.loop (R .busy none))) l R post):=by kernel_rfl
theorem f7_rd7_eq (b c d e f g h i:Addr) (j a:Int) (w:World) (l:Nat) (R:LoopState→Option Code→Loop) (post:Option Code→World→Prop):f7_rd7 b c d e f g h i j l R post [(Value.int .u32 a)] w=([(Value.int .u32 a)].length=1∧f7_ra7 b c d e f g h i j a w l R post):=by kernel_rfl
def f7_rn7 (a b c e f g h i:Addr) (j:Int) (d:List Deferred) (w:World) (K:KT):Prop:=(f7_k20 K) .normal (Env.mk 201 [(5,(VP (some a))),(4,(VP (some b))),(14,(VP (some c))),(2,(VP (some e))),(13,(VP (some f))),(11,(VP (some g))),(6,(VP (some h))),(3,(VP (some i))),(12,(VI j))] d) w
def f7_s13 (a b c f g h i:Addr) (j:Int) (d:List Deferred) (w:World) (K:KT):Prop:=SG P (cA c7 8191) none [4,5] [4,5] (f7_kb K) (Env.mk 201 [(4,(VP (some a))),(5,(VP (some b))),(3,(VP (some c))),(2,(VP (some f))),(6,(VP (some g))),(11,(VP (some h))),(13,(VP (some i))),(12,(VI j))] d) w
def f7_s14 (a b c f g h i:Addr) (j:Int) (d:List Deferred) (w:World) (K:KT):Prop:=SG P (cA c7 16383) none [4,5] [4,5] (f7_kb K) (Env.mk 201 [(3,(VP (some a))),(2,(VP (some b))),(6,(VP (some c))),(11,(VP (some f))),(4,(VP (some g))),(5,(VP (some h))),(13,(VP (some i))),(12,(VI j))] d) w
abbrev f7_k36 (K:KT):Exit→YT:=kseq P (cA c7 32766) (cA c7 32767) none [4,5] [4,5] (f7_kb K)
abbrev f7_k38 (K:KT):Exit→YT:=kblock 2 (f7_k36 K)
def f7_rd15 (a b c e f g h:Addr) (d:List Deferred) (l:Nat) (R:LoopState→Option Code→Loop) (post:Option Code→World→Prop) (args:List Value) (W:World):Prop:=args.length=1∧CS P (cA c7 262132) (some l) [3,2,6,11,19] [] (kround P (cA c7 262133) l R post) { putParams (Env.mk 201 [(3,(VP (some a))),(2,(VP (some b))),(6,(VP (some c))),(11,(VP (some e))),(4,(VP (some f))),(5,(VP (some g))),(13,(VP (some h)))] d) [127] args with d:=[] } W
abbrev f7_ka15 (l:Nat) (R:LoopState→Option Code→Loop) (post:Option Code→World→Prop):Exit→YT:=kround P (cA c7 262133) l R post
def f7_ra15 (a b c d e f g:Addr) (h:Int) (w:World) (l:Nat) (R:LoopState→Option Code→Loop) (post:Option Code→World→Prop):Prop:=CS P (cA c7 262132) (some l) [3,2,6,11,19] [] (f7_ka15 l R post) (Env.mk 201 [(127,(Value.int .u32 h)),(3,(VP (some a))),(2,(VP (some b))),(6,(VP (some c))),(11,(VP (some d))),(4,(VP (some e))),(5,(VP (some f))),(13,(VP (some g)))] []) w
def f7_s16 (a b c d:Addr) (f:Int) (w:World) (l:Nat) (R:LoopState→Option Code→Loop) (post:Option Code→World→Prop):Prop:=SG P (cA c7 262133) (some l) [] [] (endS l R post) (Env.mk 201 [(3,(VP (some a))),(2,(VP (some b))),(6,(VP (some c))),(11,(VP (some d))),(19,(Value.int .u32 f))] []) w
abbrev f7_k39 (l:Nat) (R:LoopState→Option Code→Loop) (post:Option Code→World→Prop):Exit→YT:=kblock 3 (endS l R post)
def f7_s17 (a b c d f:Addr) (g:Int) (w:World) (l:Nat) (R:LoopState→Option Code→Loop) (post:Option Code→World→Prop):Prop:=SG P (cA c7 2097067) (some l) [] [] (f7_k39 l R post) (Env.mk 201 [(3,(VP (some a))),(2,(VP (some b))),(6,(VP (some c))),(11,(VP (some d))),(20,(VP (some f))),(19,(Value.int .u32 g))] []) w
theorem f7_s17_eq (c b d e f:Addr) (g:Int) (w:World) (l:Nat) (R:LoopState→Option Code→Loop) (post:Option Code→World→Prop):f7_s17 c b d e f g w l R post=(∃ h:Option Addr,w.cell? b=some (.pointer h)∧optS h (fun q=>∃ i:Option Nat,w.cell? (q.add 93)=some (.map i)∧∃ j:Bool,(∀ wq,Ext w wq→(Instr.lookup 35 (Value.map i) (Value.int .u32 g) false).run P wq=.ok (.bool j) wq)∧BIf (!j) (LdA 5 e w.drew (fun r=>∃ k:Option Addr,w.drew.cell? d=some (.pointer k)∧optS k (fun s=>∃ m:Int,w.drew.cell? (s.add 16)=some (.int .i64 m)∧∃ n:Option Addr,w.drew.cell? b=some (.pointer n)∧optS n (fun t=>∃ a:Int,w.drew.cell? (c.add 1)=some (.int .i64 a)∧0≤(a:Int)∧(a:Int) < (8:Nat)∧∃ o:Int,w.drew.cell? ((t.add 80).add (Int.toNat a * 1))=some (.int .i64 o)∧CallL P 39 [(Value.pointer (some f)),(Value.agg r),(Value.int .i64 m),(Value.int .i64 o)] w.drew (fun u p=>u=(.tuple [].toArray)∧p.heap[l]?=some (.loop (R .busy none))∧post none (p.putObj l (.loop (R .ready none)))))))) (w.heap[l]?=some (.loop (R .busy none))∧post none (w.putObj l (.loop (R .ready none)))))):=by kernel_rfl
def f7_s18 (a b c d:Addr) (f:OA) (g:Int) (w:World) (l:Nat) (R:LoopState→Option Code→Loop) (post:Option Code→World→Prop):Prop:=SG P (cA c7 2097067) (some l) [] [] (f7_k39 l R post) (Env.mk 201 [(3,(VP (some a))),(2,(VP (some b))),(6,(VP (some c))),(11,(VP (some d))),(20,(VP f)),(19,(Value.int .u32 g))] []) w
theorem f7_s18_eq (c b d e:Addr) (f:OA) (g:Int) (w:World) (l:Nat) (R:LoopState→Option Code→Loop) (post:Option Code→World→Prop):f7_s18 c b d e f g w l R post=(∃ h:Option Addr,w.cell? b=some (.pointer h)∧optS h (fun q=>∃ i:Option Nat,w.cell? (q.add 93)=some (.map i)∧∃ j:Bool,(∀ wq,Ext w wq→(Instr.lookup 35 (Value.map i) (Value.int .u32 g) false).run P wq=.ok (.bool j) wq)∧BIf (!j) (LdA 5 e w.drew (fun r=>∃ k:Option Addr,w.drew.cell? d=some (.pointer k)∧optS k (fun s=>∃ m:Int,w.drew.cell? (s.add 16)=some (.int .i64 m)∧∃ n:Option Addr,w.drew.cell? b=some (.pointer n)∧optS n (fun t=>∃ a:Int,w.drew.cell? (c.add 1)=some (.int .i64 a)∧0≤(a:Int)∧(a:Int) < (8:Nat)∧∃ o:Int,w.drew.cell? ((t.add 80).add (Int.toNat a * 1))=some (.int .i64 o)∧CallL P 39 [(Value.pointer f),(Value.agg r),(Value.int .i64 m),(Value.int .i64 o)] w.drew (fun u p=>u=(.tuple [].toArray)∧p.heap[l]?=some (.loop (R .busy none))∧post none (p.putObj l (.loop (R .ready none)))))))) (w.heap[l]?=some (.loop (R .busy none))∧post none (w.putObj l (.loop (R .ready none)))))):=by kernel_rfl
theorem f7_s16_eq (c a d e:Addr) (b:Int) (w:World) (l:Nat) (R:LoopState→Option Code→Loop) (post:Option Code→World→Prop):f7_s16 c a d e b w l R post=(∃ h:Option Addr,w.cell? a=some (.pointer h)∧optS h (fun p=>∃ i:Option Nat,w.cell? (p.add 92)=some (.map i)∧∃ f:Option Addr,(∀ wq,Ext w wq→(Instr.lookup 34 (Value.map i) (Value.int .u32 b) false).run P wq=.ok (.pointer f) wq)∧BIf f.isNone (∃ j:Array Value,(∀ wq,(Instr.build 112 [].toArray).run P wq=.ok (.agg j) wq)∧NewC j 112 w (fun k g=>∃ m:Option Addr,g.cell? a=some (.pointer m)∧optS m (fun q=>∃ n:Option Nat,g.cell? (q.add 92)=some (.map n)∧∃ o:World,(Instr.mapUpdate 34 (Value.map n) (Value.int .u32 b) (Value.pointer (some (Addr.mk k 0 none)))).run P g=.ok () o∧f7_s17 c a d e (Addr.mk k 0 none) b o l R post))) (f7_s18 c a d e f b w l R post))):=by kernel_rfl
theorem f7_ra15_eq (a b c d f g h:Addr) (e:Int) (w:World) (l:Nat) (R:LoopState→Option Code→Loop) (post:Option Code→World→Prop):f7_ra15 a b c d f g h e w l R post=(w.heap[l]?=some (.loop (R .ready none))∧f7_s16 a b c d e (w.putObj l (.loop (R .busy none))) l R post):=by kernel_rfl
theorem f7_rd15_eq (b c e f g h i:Addr) (d:List Deferred) (a:Int) (w:World) (l:Nat) (R:LoopState→Option Code→Loop) (post:Option Code→World→Prop):f7_rd15 b c e f g h i d l R post [(Value.int .u32 a)] w=([(Value.int .u32 a)].length=1∧f7_ra15 b c e f g h i a w l R post):=by kernel_rfl
def f7_rn15 (a b c e f g h:Addr) (d:List Deferred) (w:World) (K:KT):Prop:=(f7_k38 K) .normal (Env.mk 201 [(3,(VP (some a))),(2,(VP (some b))),(6,(VP (some c))),(11,(VP (some e))),(4,(VP (some f))),(5,(VP (some g))),(13,(VP (some h)))] d) w
def f7_s19 (a b c f g:Addr) (d:List Deferred) (w:World) (K:KT):Prop:=SG P (cA c7 32767) none [4,5] [4,5] (f7_kb K) (Env.mk 201 [(2,(VP (some a))),(4,(VP (some b))),(5,(VP (some c))),(13,(VP (some f))),(6,(VP (some g)))] d) w
abbrev f7_k45 (K:KT):Exit→YT:=kseq P (cA c7 65534) (cA c7 65535) none [4,5] [4,5] (f7_kb K)
abbrev f7_k47 (K:KT):Exit→YT:=kblock 4 (f7_k45 K)
def f7_lp20 (K:KT) (Y20:YT) (e:Env) (w:World):Prop:=Join (fun e w=>CS P (cA c7 524276) none [168,2,166,4,5,13,6,167] [4,5,13,2,6] (kloop [168,2,166,4,5,13,6,167] Y20 (f7_k47 K)) e w) e w
abbrev f7_kl20 (K:KT) (Y20:YT):Exit→YT:=kloop [168,2,166,4,5,13,6,167] Y20 (f7_k47 K)
def f7_lb20 (a:Int) (b:Addr) (c:OA) (f g:Nat) (h i j k:Addr) (l:Int) (d:List Deferred) (w:World) (K:KT) (Y20:YT):Prop:=SG P (cA c7 524276) none [168,2,166,4,5,13,6,167] [4,5,13,2,6] (f7_kl20 K Y20) (Env.mk 201 [(168,(VI a)),(2,(VP (some b))),(166,(VS c f g)),(4,(VP (some h))),(5,(VP (some i))),(13,(VP (some j))),(6,(VP (some k))),(167,(VI l))] d) w
def f7_s21 (a:Addr) (b:OA) (c f:Nat) (g h i j:Addr) (k l:Int) (d:List Deferred) (w:World) (K:KT) (Y20:YT):Prop:=SG P (cA c7 2097107) none [168,2,166,4,5,13,6,167] [4,5,13,2,6] (f7_kl20 K Y20) (Env.mk 201 [(2,(VP (some a))),(166,(VS b c f)),(4,(VP (some g))),(5,(VP (some h))),(13,(VP (some i))),(6,(VP (some j))),(167,(VI k)),(168,(VI l))] d) w
abbrev f7_k50 (K:KT) (Y20:YT):Exit→YT:=kseq P (cA c7 4194214) (cA c7 4194215) none [168,2,166,4,5,13,6,167] [4,5,13,2,6] (f7_kl20 K Y20)
abbrev f7_k51 (K:KT) (Y20:YT):Exit→YT:=kblock 5 (f7_k50 K Y20)
def f7_s22 (a:Addr) (b:OA) (c f:Nat) (g h i j:Addr) (k l:Int) (m:Addr) (d:List Deferred) (w:World) (K:KT) (Y20:YT):Prop:=SG P (cA c7 33553715) none [2,166,4,5,13,6,167,168] [4,5,13,2,6,166,167,168] (f7_k51 K Y20) (Env.mk 201 [(2,(VP (some a))),(166,(VS b c f)),(4,(VP (some g))),(5,(VP (some h))),(13,(VP (some i))),(6,(VP (some j))),(167,(VI k)),(168,(VI l)),(22,(VP (some m)))] d) w
def f7_s23 (a:Addr) (b:OA) (c f:Nat) (g h i j:Addr) (k l:Int) (d:List Deferred) (w:World) (K:KT) (Y20:YT):Prop:=SG P (cA c7 4194215) none [168,2,166,4,5,13,6,167] [4,5,13,2,6] (f7_kl20 K Y20) (Env.mk 201 [(2,(VP (some a))),(166,(VS b c f)),(4,(VP (some g))),(5,(VP (some h))),(13,(VP (some i))),(6,(VP (some j))),(167,(VI k)),(168,(VI l))] d) w
theorem f7_s23_eq (a:Addr) (b:OA) (c e:Nat) (f g h i:Addr) (j k:Int) (d:List Deferred) (w:World) (K:KT) (Y20:YT):f7_s23 a b c e f g h i j k d w K Y20=(Y20 (Env.mk 201 [(168,(Value.int .i64 (IntKind.wrap .i64 ((k:Int)+1)))),(2,(Value.pointer (some a))),(166,(Value.slice b c e)),(4,(Value.pointer (some f))),(5,(Value.pointer (some g))),(13,(Value.pointer (some h))),(6,(Value.pointer (some i))),(167,(Value.int .i64 j))] d) w):=by kernel_rfl
theorem f7_s22_eq (a:Addr) (b:OA) (c e:Nat) (f g h i:Addr) (j k:Int) (l:Addr) (d:List Deferred) (w:World) (K:KT) (Y20:YT):f7_s22 a b c e f g h i j k l d w K Y20=(∃ m:Option Addr,w.drew.cell? a=some (.pointer m)∧optS m (fun q=>∃ n:Option Nat,w.drew.cell? (q.add 92)=some (.map n)∧∃ o:Int,w.drew.cell? l=some (.int .u32 o)∧∃ p:Option Addr,(∀ wq,Ext w.drew wq→(Instr.lookup 34 (Value.map n) (Value.int .u32 o) false).run P wq=.ok (.pointer p) wq)∧optS p (fun r=>St1 r (Value.slice none 0 0) w.drew (fun s=>f7_s23 a b c e f g h i j k d s K Y20)))):=by kernel_rfl
theorem f7_s21_eq (c:Addr) (e:OA) (f h:Nat) (i j k l:Addr) (m a:Int) (d:List Deferred) (w:World) (K:KT) (Y20:YT):f7_s21 c e f h i j k l m a d w K Y20=(optS e (fun r=>0≤(a:Int)∧(a:Int) < (f:Nat)∧LdA 11 (r.add (Int.toNat a * 11)) w (fun s=>NewC (zcells P 108) 108 w (fun g t=>StA 11 (Addr.mk g 0 none) s t (fun b=>∃ n:Option Addr,b.drew.cell? c=some (.pointer n)∧optS n (fun u=>∃ o:Option Nat,b.drew.cell? (u.add 93)=some (.map o)∧∃ p:Int,b.drew.cell? (Addr.mk g 0 none)=some (.int .u32 p)∧∃ q:World,(Instr.mapUpdate 35 (Value.map o) (Value.int .u32 p) (Value.bool true)).run P b.drew=.ok () q∧f7_s22 c e f h i j k l m a (Addr.mk g 0 none) d q K Y20)))))):=by kernel_rfl
def f7_s24 (a b c f g:Addr) (d:List Deferred) (w:World) (K:KT):Prop:=SG P (cA c7 65535) none [4,5] [4,5] (f7_kb K) (Env.mk 201 [(4,(VP (some a))),(5,(VP (some b))),(13,(VP (some c))),(2,(VP (some f))),(6,(VP (some g)))] d) w
def f7_s25 (a b c f:Addr) (d:List Deferred) (w:World) (K:KT):Prop:=SG P (cA c7 131071) none [4,5] [4,5] (f7_kb K) (Env.mk 201 [(4,(VP (some a))),(5,(VP (some b))),(13,(VP (some c))),(2,(VP (some f)))] d) w
theorem f7_s25_eq (c e f g:Addr) (d:List Deferred) (w:World) (K:KT):f7_s25 c e f g d w K=(∃ a:Option Addr,w.cell? g=some (.pointer a)∧optS a (fun h=>∃ b:Int,w.cell? (h.add 91)=some (.int .i64 b)∧optS a (fun i=>St1 (i.add 91) (Value.int .i64 (IntKind.wrap .i64 ((b:Int)+1))) w (fun m=>∃ (j:OA) (k l:Nat),m.cell? f=some (.slice j k l)∧St1 c (Value.slice j k l) m (fun n=>St1 e (Value.int .i64 0) n (fun o=>LeaveS P rs7 (Env.mk 201 [(200,(Value.slice j k l)),(199,(Value.pointer (some (i.add 91)))),(198,(Value.pointer (some i))),(197,(Value.int .i64 (IntKind.wrap .i64 ((b:Int)+1)))),(196,(Value.int .i64 b)),(195,(Value.pointer (some (h.add 91)))),(194,(Value.pointer (some h))),(193,(Value.pointer a)),(4,(Value.pointer (some c))),(5,(Value.pointer (some e))),(13,(Value.pointer (some f))),(2,(Value.pointer (some g)))] d) K d o)))))):=by kernel_rfl
theorem f7_s24_eq (b c e a f:Addr) (d:List Deferred) (w:World) (K:KT):f7_s24 b c e a f d w K=(∃ g:Option Addr,w.drew.cell? a=some (.pointer g)∧optS g (fun i=>∃ h:Option Addr,w.drew.cell? f=some (.pointer h)∧CallL P 40 [(Value.pointer (some i)),(Value.pointer h)] w.drew (fun j k=>j=(.tuple [].toArray)∧f7_s25 b c e a d k K))):=by kernel_rfl
theorem f7_lb20_eq (a:Int) (b:Addr) (i:OA) (j k:Nat) (c e f g:Addr) (h:Int) (d:List Deferred) (w:World) (K:KT) (Y20:YT):f7_lb20 a b i j k c e f g h d w K Y20=(BIf (decide ((a:Int) < h)) (f7_s21 b i j k c e f g h a d w K Y20) (f7_s24 c e f b g d w K)):=by kernel_rfl
theorem f7_s19_eq (f g h a i:Addr) (d:List Deferred) (w:World) (K:KT):f7_s19 f g h a i d w K=(∃ (b:OA) (c e:Nat),w.cell? a=some (.slice b c e)∧∃ j:Int,(∀ wq,Ext w wq→(Builtin.len_ #[39] 3 [(Value.slice b c e)].toArray).run P wq=.ok (.int .i64 j) wq)∧LoopE (f7_lp20 K) (Env.mk 201 [(168,(Value.int .i64 0)),(2,(Value.pointer (some f))),(166,(Value.slice b c e)),(4,(Value.pointer (some g))),(5,(Value.pointer (some h))),(13,(Value.pointer (some a))),(6,(Value.pointer (some i))),(167,(Value.int .i64 j))] d) w):=by kernel_rfl
theorem f7_rn15_eq (g a b h c e f:Addr) (d:List Deferred) (w:World) (K:KT):f7_rn15 g a b h c e f d w K=(f7_s19 a c e f b d w K):=by kernel_rfl
theorem f7_s14_eq (a b c e f g h:Addr) (i:Int) (d:List Deferred) (w:World) (K:KT):f7_s14 a b c e f g h i d w K=(∃ j:Int,w.cell? (a.add 3)=some (.int .u32 j)∧CallL P 37 [(Value.int .u32 j),(Value.int .i64 i)] w (fun l m=>∃ k:Value,l=k∧RangeC P (f7_k38 K) (Env.mk 201 [(3,(Value.pointer (some a))),(2,(Value.pointer (some b))),(6,(Value.pointer (some c))),(11,(Value.pointer (some e))),(4,(Value.pointer (some f))),(5,(Value.pointer (some g))),(13,(Value.pointer (some h)))] d) m k (f7_rd15 a b c e f g h d))):=by kernel_rfl
theorem f7_s13_eq (c e h f i j g:Addr) (k:Int) (d:List Deferred) (w:World) (K:KT):f7_s13 c e h f i j g k d w K=(∃ l:Option Addr,w.drew.cell? f=some (.pointer l)∧optS l (fun m=>∃ n:Option Nat,w.drew.cell? (m.add 93)=some (.map n)∧∃ a:Int,(∀ wq,Ext w.drew wq→(Builtin.len_ #[35] 3 [(Value.map n)].toArray).run P wq=.ok (.int .i64 a) wq)∧∃ (o:OA) (p q:Nat),w.drew.cell? g=some (.slice o p q)∧∃ b:Int,(∀ wq,Ext w.drew wq→(Builtin.len_ #[39] 3 [(Value.slice o p q)].toArray).run P wq=.ok (.int .i64 b) wq)∧BIf (decide (((IntKind.wrap .i64 ((a:Int)+b)):Int) > 1000)) (St1 c (Value.slice none 0 0) w.drew (fun r=>St1 e (Value.int .i64 2) r (fun s=>LeaveS P rs7 (Env.mk 201 [(122,(Value.bool true)),(122,(Value.bool (decide (((IntKind.wrap .i64 ((a:Int)+b)):Int) > 1000)))),(121,(Value.int .i64 (IntKind.wrap .i64 ((a:Int)+b)))),(120,(Value.int .i64 b)),(119,(Value.slice o p q)),(118,(Value.int .i64 a)),(117,(Value.map n)),(116,(Value.pointer (some (m.add 93)))),(115,(Value.pointer (some m))),(114,(Value.pointer l)),(4,(Value.pointer (some c))),(5,(Value.pointer (some e))),(3,(Value.pointer (some h))),(2,(Value.pointer (some f))),(6,(Value.pointer (some i))),(11,(Value.pointer (some j))),(13,(Value.pointer (some g))),(12,(Value.int .i64 k))] d) K d s))) (f7_s14 h f i j c e g k d w.drew K))):=by kernel_rfl
theorem f7_rn7_eq (a b j c e f g h:Addr) (i:Int) (d:List Deferred) (w:World) (K:KT):f7_rn7 a b j c e f g h i d w K=(f7_s13 b a h c g f e i d w K):=by kernel_rfl
def f7_rr7 (a b c e f g h i:Addr) (j:Int) (d:List Deferred) (w:World) (K:KT):Prop:=(f7_k20 K) .ret (Env.mk 201 [(5,(VP (some a))),(4,(VP (some b))),(14,(VP (some c))),(2,(VP (some e))),(13,(VP (some f))),(11,(VP (some g))),(6,(VP (some h))),(3,(VP (some i))),(12,(VI j))] d) w
theorem f7_rr7_eq (a b c e f g h i:Addr) (j:Int) (d:List Deferred) (w:World) (K:KT):f7_rr7 a b c e f g h i j d w K=(LeaveS P rs7 (Env.mk 201 [(5,(Value.pointer (some a))),(4,(Value.pointer (some b))),(14,(Value.pointer (some c))),(2,(Value.pointer (some e))),(13,(Value.pointer (some f))),(11,(Value.pointer (some g))),(6,(Value.pointer (some h))),(3,(Value.pointer (some i))),(12,(Value.int .i64 j))] d) K d w):=by kernel_rfl
theorem f7_s6_eq (c d e f g a:Addr) (b:Int) (w:World) (K:KT):f7_s6 c d e f g a b w K=(NewC (zcells P 39) 39 w (fun i m=>NewC (zcells P 3) 3 m (fun h n=>St1 (Addr.mk h 0 none) (Value.int .i64 0) n (fun j=>∃ k:Int,j.cell? (a.add 3)=some (.int .u32 k)∧CallL P 37 [(Value.int .u32 k),(Value.int .i64 b)] j (fun o p=>∃ l:Value,o=l∧RangeC P (f7_k20 K) (Env.mk 201 [(5,(Value.pointer (some c))),(4,(Value.pointer (some d))),(14,(Value.pointer (some (Addr.mk h 0 none)))),(2,(Value.pointer (some e))),(13,(Value.pointer (some (Addr.mk i 0 none)))),(11,(Value.pointer (some f))),(6,(Value.pointer (some g))),(3,(Value.pointer (some a))),(12,(Value.int .i64 b))] []) p l (f7_rd7 c d (Addr.mk h 0 none) e (Addr.mk i 0 none) f g a b)))))):=by kernel_rfl
theorem f7_s5_eq (b c d e f a:Addr) (g:Bool) (w:World) (K:KT):f7_s5 b c d e f a g w K=(BIf g (∃ h:Int,w.cell? (a.add 5)=some (.int .i64 h)∧f7_s6 b c d e f a h w K) (f7_s6 b c d e f a 0 w K)):=by kernel_rfl
theorem f7_s4_eq (d e c f a:Addr) (w:World) (K:KT):f7_s4 d e c f a w K=(LdA 6 a w (fun p=>CallL P 36 [(Value.agg p)] w (fun q b=>∃ g:Bool,∃ h:Bool,∃ i:Bool,q=(.tuple [(Value.bool g),(Value.bool h),(Value.bool i)].toArray)∧∃ j:Option Addr,b.drew.cell? c=some (.pointer j)∧optS j (fun r=>∃ k:Int,b.drew.cell? (r.add 91)=some (.int .i64 k)∧∃ l:Int,b.drew.cell? (a.add 1)=some (.int .i64 l)∧∃ m:Int,b.drew.cell? (a.add 2)=some (.int .u32 m)∧∃ n:Array Value,(∀ wq,(Instr.build 97 [(0,(Value.int .i64 k)),(1,(Value.int .i64 l)),(2,(Value.int .u32 m)),(3,(Value.bool g)),(4,(Value.bool h))].toArray).run P wq=.ok (.agg n) wq)∧NewC (zcells P 97) 97 b.drew (fun o s=>StA 5 (Addr.mk o 0 none) n s (fun t=>f7_s5 d e c (Addr.mk o 0 none) f a i t K)))))):=by kernel_rfl
theorem f7_s3_eq (a b d e f:Addr) (g:Bool) (w:World) (K:KT):f7_s3 a b d e f g w K=(BIf (!g) (St1 a (Value.slice none 0 0) w (fun l=>St1 b (Value.int .i64 300) l (fun c=>∃ (h:OA) (i j:Nat),c.cell? a=some (.slice h i j)∧∃ k:Int,c.cell? b=some (.int .i64 k)∧K (Value.tuple [(Value.slice h i j),(Value.int .i64 k)].toArray) c))) (f7_s4 b a d e f w K)):=by kernel_rfl
theorem f7_s2_eq (c d a b:Addr) (w:World) (K:KT):f7_s2 c d a b w K=(∃ e:Option Addr,w.drew.cell? a=some (.pointer e)∧optS e (fun f=>LdA 6 b w.drew (fun g=>(CallL P 35 [(Value.pointer (some f)),(Value.agg g)] w.drew (fun n o=>∃ h:Option Addr,∃ i:Bool,n=(.tuple [(Value.pointer h),(Value.bool i)].toArray)∧NewC (zcells P 91) 91 o (fun j p=>St1 (Addr.mk j 0 none) (Value.pointer h) p (fun q=>f7_s3 c d a (Addr.mk j 0 none) b i q K))))∧(NewC (zcells P 91) 91 w.drew (fun k r=>CallL P 35 [(Value.pointer (some f)),(Value.agg g)] r (fun s t=>∃ l:Option Addr,∃ m:Bool,s=(.tuple [(Value.pointer l),(Value.bool m)].toArray)∧St1 (Addr.mk k 0 none) (Value.pointer l) t (fun u=>f7_s3 c d a (Addr.mk k 0 none) b m u K))))))):=by kernel_rfl
theorem f7_s1_eq (a b c e:Addr) (w:World) (K:KT):f7_s1 a b c e w K=(∃ f:Option Addr,w.cell? c=some (.pointer f)∧optS f (fun l=>∃ g:Int,w.cell? (l.add 91)=some (.int .i64 g)∧BIf (decide ((g:Int)≥20000)) (St1 a (Value.slice none 0 0) w (fun m=>St1 b (Value.int .i64 2) m (fun d=>∃ (h:OA) (i j:Nat),d.cell? a=some (.slice h i j)∧∃ k:Int,d.cell? b=some (.int .i64 k)∧K (Value.tuple [(Value.slice h i j),(Value.int .i64 k)].toArray) d))) (f7_s2 a b c e w K))):=by kernel_rfl
theorem f7_s0_eq (d:Bool) (a b e f:Addr) (w:World) (K:KT):f7_s0 d a b e f w K=(BIf d (St1 a (Value.slice none 0 0) w (fun k=>St1 b (Value.int .i64 5) k (fun c=>∃ (g:OA) (h i:Nat),c.cell? a=some (.slice g h i)∧∃ j:Int,c.cell? b=some (.int .i64 j)∧K (Value.tuple [(Value.slice g h i),(Value.int .i64 j)].toArray) c))) (f7_s1 a b e f w K)):=by kernel_rfl
theorem f7_eq (c:OA) (d:Array Value) (w:World) (K:KT):f7 c d w K=(NewC #[(Value.pointer c)] 25 w (fun b k=>NewC d 45 k (fun e l=>NewC (zcells P 39) 39 l (fun f m=>NewC (zcells P 40) 40 m (fun g a=>∃ h:Option Addr,a.cell? (Addr.mk b 0 none)=some (.pointer h)∧BIf h.isNone (f7_s0 true (Addr.mk f 0 none) (Addr.mk g 0 none) (Addr.mk b 0 none) (Addr.mk e 0 none) a K) (∃ i:Option Addr,a.cell? (Addr.mk b 0 none)=some (.pointer i)∧optS i (fun n=>∃ j:Bool,a.cell? (n.add 90)=some (.bool j)∧f7_s0 (!j) (Addr.mk f 0 none) (Addr.mk g 0 none) (Addr.mk b 0 none) (Addr.mk e 0 none) a K))))))):=by kernel_rfl
theorem f7_ok (a:OA) (b:Array Value) (w:World) (K:KT) (h:f7 a b w K):CallL P 7 [(Value.pointer a),(Value.agg b)] w K:=okCS c7 Tryz.func7 (by kernel_rfl) (by kernel_rfl) h
end Go.Fx.Tryz
namespace Go.Fx.Tryz
open Go Go.Fx Go.Fx.Mo
open Go.Proofs
variable {w0 w:World} {H:HL} {K:KT}
set_option maxRecDepth 20000
def pastCs (p:Past):List Value:=Acccs p.acc++[I64 p.tick]
def pasts (l:List Past):List Value:=(l.map pastCs).flatten
theorem flat_slice {α:Type} {l:List α} {f:α→List Value} {n:Nat} (h:∀ x∈l,(f x).length=n) {i:Nat} (hi:i < l.length):(((l.map f).flatten).drop (i * n)).take n=f l[i]:=by
 induction l generalizing i with
 | nil=>simp at hi
 | cons x r ih=>
  have hx:=h x (.head _)
  cases i with
  | zero=>
   simp only [Nat.zero_mul,List.drop_zero,List.map_cons,List.flatten_cons,List.getElem_cons_zero]
   rw [← hx,List.take_left]
  | succ i=>
   simp only [List.map_cons,List.flatten_cons,List.getElem_cons_succ]
   rw [show (i+1) * n=(f x).length+i * n by rw [hx,Nat.succ_mul]; omega,List.drop_append,List.drop_eq_nil_of_le (by omega)]
   simp only [List.nil_append]
   rw [show (f x).length+i * n - (f x).length=i * n by omega]
   exact ih (fun y hy=>h y (.tail _ hy)) (by simpa using hi)
theorem slO_ldA {size:Nat} {e:TypeId} {ov:Value} {n:Nat} {xs:List Value} {L:HL} (h:SlO size e ov n xs L) (hL:∀ x∈L,w.heap[x.1]?=some x.2) {i:Nat} (hi:i < n) :
  ∃ g c,ov=.slice (some ⟨g,0,none⟩) n c∧∀ K:Array Value→Prop,K ((xs.drop (i * size)).take size).toArray→LdA size ((Addr.mk g 0 none).add (i * size)) w K:=by
 rcases h.2 with ⟨_,h0,_⟩ | ⟨g,cap,cur,h1,h2,h3,h4,h5,h6⟩
 ·omega
 ·refine ⟨g,cap,h1,fun K hK=>?_⟩
  rw [add_lit']
  have hle:i * size+size≤n * size:=by rw [← Nat.succ_mul]; exact Nat.mul_le_mul_right _ hi
  have hle2:n * size≤cap * size:=Nat.mul_le_mul_right _ h3
  refine LdA_of (cs:=cur) (t:=e) (hL (g,Cs cur e) (by simp [h2])) (by omega) ?_
  have e1:((cur.drop (0+i * size)).take size)=(xs.drop (i * size)).take size:=by
   rw [← h6,List.drop_take,List.take_take,Nat.zero_add]
   congr 1
   omega
  rw [e1]
  exact hK
theorem z45:zcells P 97=#[I64 0,I64 0,.int .u32 0,.bool false,.bool false]:=by kernel_rfl
theorem z152:zcells P 122=#[I64 0,I64 0,.int .u32 0,.bool false,.bool false,I64 0]:=by kernel_rfl
theorem build45z (wq:World):(Instr.build 97 [].toArray).run P wq=.ok (.agg #[I64 0,I64 0,.int .u32 0,.bool false,.bool false]) wq:=by kernel_rfl
theorem Acccs_len (a:Acc):(Acccs a).length=5:=rfl
theorem Acccs_one (a:Acc):∀ v∈(Acccs a).toArray.toList,v.oneCell'=true:=by simp [Acccs,Value.oneCell']
theorem pastCs_len (p:Past):(pastCs p).length=6:=rfl
theorem pastCs_one (p:Past):∀ v∈(pastCs p).toArray.toList,v.oneCell'=true:=by simp [pastCs,Acccs,Value.oneCell']
def raceV (x:Option Acc):Value:=match x with
 | some a=>.tuple [.agg (Acccs a).toArray,.bool true].toArray
 | none=>.tuple [.agg #[I64 0,I64 0,.int .u32 0,.bool false,.bool false],.bool false].toArray
theorem run_len_sl {p:Option Addr} {l c:Nat} (wq:World):(Builtin.len_ #[109] 3 [Value.slice p l c].toArray).run P wq=.ok (.int .i64 l) wq:=run_len_slice p l c Tryz.underlying109 3
theorem race_ok (h:St w0 w H) {addr:Nat} {t:TypeId} {c:Cell} {ov:Value} {rest:List Value} {L:HL} (hc:(addr,Cs (ov::rest) t)∈H) (hs:SlO 6 122 ov c.l.length (pasts c.l) L) (hL:∀ x∈L,x∈H)
  (hth:∀ p∈c.l,0≤p.acc.th∧p.acc.th < 8) {own:Clk} (ho:own.length=8) (hn:c.l.length < 2000000000) (a:Acc)
  (hK:∀ w',St w0 w' H→K (raceV (c.race a own)) w'):CallL P 38 [.pointer (some (Addr.mk addr 0 none)),.agg (Acccs a).toArray,.agg (own.map I64).toArray] w K:=by
 refine f38_ok _ _ _ _ _ ?_
 rw [f38_eq]
 refine h.newC fun n3 w4 hn3 h4=>h4.newC fun n5 w6 hn5 h6=>h6.newC fun n7 w8 hn7 h8=>?_
 rw [z45] at h8
 obtain ⟨sa,sc,hov⟩:=hs.form
 refine ⟨sa,c.l.length,sc,?_,c.l.length,fun wq _=>run_len_sl wq,?_⟩
 ·rw [cell_of (h8.has addr _ (.tail _ (.tail _ (.tail _ hc)))),hov]; rfl
 let f:Past→Bool:=fun p=>conflict p.acc a && decide (at0 own p.acc.th < p.tick)
 have hfix:∀ w',St w0 w' ((n7,Cs [I64 0,I64 0,.int .u32 0,.bool false,.bool false] 97)::(n5,Cs (own.map I64) 27)::(n3,Cs (Acccs a) 97)::H)→St w0 w' H:=fun w' h'=>((h'.tail hn7).tail hn5).tail hn3
 refine ⟨fun m e w=>∃ i:Nat,i≤c.l.length∧m=c.l.length - i∧
  e=Env.mk 37 [(6,(Value.pointer (some (Addr.mk n7 0 none)))),(15,(Value.int .i64 i)),(5,(Value.pointer (some (Addr.mk n5 0 none)))),(4,(Value.pointer (some (Addr.mk n3 0 none)))),(13,(Value.slice sa c.l.length sc)),(7,(Value.bool false)),(14,(Value.int .i64 c.l.length))] []∧
  (c.l.take i).find? f=none∧St w0 w ((n7,Cs [I64 0,I64 0,.int .u32 0,.bool false,.bool false] 97)::(n5,Cs (own.map I64) 27)::(n3,Cs (Acccs a) 97)::H),⟨c.l.length,0,by omega,rfl,rfl,by simp,h8⟩,?_⟩
 rintro m e w ⟨i,hi,rfl,rfl,hnone,hw⟩
 show f38_lb0 ..
 rw [f38_lb0_eq,BIf_iff]
 constructor
 ·intro hlt
  have hlt:i < c.l.length:=by simpa using hlt
  rw [f38_s1_eq]
  have hsl:((pasts c.l).drop (i * 6)).take 6=pastCs c.l[i]:=flat_slice (f:=pastCs) (fun x _=>pastCs_len x) hlt
  have hLw:∀ {w':World} {X:HL},St w0 w' (X++H)→∀ x∈L,w'.heap[x.1]?=some x.2:=fun h' x hx=>h'.has x.1 x.2 (by simp [hL x hx])
  obtain ⟨g,cc,hg,hld⟩:=slO_ldA hs (w:=w) (i:=i) (hLw (X:=[_,_,_]) hw) hlt
  rw [hov] at hg
  obtain ⟨hsa,-⟩:sa=some ⟨g,0,none⟩∧sc=cc:=by simpa using hg
  subst hsa
  refine ⟨by omega,by omega,hld _ ?_⟩
  rw [hsl]
  refine hw.newC fun n28 w29 hn28 h29=>?_
  rw [z152] at h29
  refine h29.stA (k:=0) rfl rfl (by simp) (pastCs_one _) fun w30 h30=>?_
  have h30:St w0 w30 ((n28,Cs (pastCs c.l[i]) 122)::(n7,Cs [I64 0,I64 0,.int .u32 0,.bool false,.bool false] 97)::(n5,Cs (own.map I64) 27)::(n3,Cs (Acccs a) 97)::H):=h30
  have hd:=h30.drew
  refine hd.ldA (k:=0) (i:=0) rfl (by simp [pastCs_len]) (hd.ldA (k:=3) (i:=0) rfl (by simp [Acccs_len]) ?_)
  have s2:∀ b w34,St w0 w34 ((n28,Cs (pastCs c.l[i]) 122)::(n7,Cs [I64 0,I64 0,.int .u32 0,.bool false,.bool false] 97)::(n5,Cs (own.map I64) 27)::(n3,Cs (Acccs a) 97)::H)→f c.l[i]=b→
    f38_s2 b (Addr.mk n7 0 none) (Addr.mk n5 0 none) (Addr.mk n3 0 none) (some ⟨g,0,none⟩) c.l.length sc c.l.length i (Addr.mk n28 0 none) false w34 K
     (fun e' w'=>∃ m,m < c.l.length - i∧∃ i:Nat,i≤c.l.length∧m=c.l.length - i∧
      e'=Env.mk 37 [(6,(Value.pointer (some (Addr.mk n7 0 none)))),(15,(Value.int .i64 i)),(5,(Value.pointer (some (Addr.mk n5 0 none)))),(4,(Value.pointer (some (Addr.mk n3 0 none)))),(13,(Value.slice (some ⟨g,0,none⟩) c.l.length sc)),(7,(Value.bool false)),(14,(Value.int .i64 c.l.length))] []∧
      (c.l.take i).find? f=none∧St w0 w' ((n7,Cs [I64 0,I64 0,.int .u32 0,.bool false,.bool false] 97)::(n5,Cs (own.map I64) 27)::(n3,Cs (Acccs a) 97)::H)):=by
   intro b w34 h34 hb
   rw [f38_s2_eq,BIf_iff]
   constructor
   ·rintro rfl
    have hfd:c.l.find? f=some c.l[i]:=by
     have e:=List.take_append_drop i c.l
     rw [List.drop_eq_getElem_cons hlt] at e
     have e2:c.l.find? f=(c.l.take i++c.l[i]::c.l.drop (i+1)).find? f:=by rw [e]
     rw [e2,List.find?_append,hnone,List.find?_cons,hb]
     simp
    refine h34.ldA (k:=0) (i:=0) rfl (by simp [pastCs_len]) (h34.stA (k:=1) rfl rfl (by simp) (Acccs_one c.l[i].acc) fun w49 h49=>?_)
    refine h49.ldA (k:=1) (i:=0) rfl (by simp [splice_length]) ?_
    have hr:c.race a own=some c.l[i].acc:=by unfold Cell.race; rw [show c.l.find? (fun p=>conflict p.acc a && decide (at0 own p.acc.th < p.tick))=some c.l[i] from hfd]; rfl
    have hk:=hK w49 ((((h49.tail hn28).tail hn7).tail hn5).tail hn3)
    rw [hr] at hk
    exact hk
   ·rintro rfl
    rw [f38_s3_eq]
    refine ⟨c.l.length - (i+1),by omega,i+1,by omega,rfl,?_,?_,h34.tail hn28⟩
    ·rw [wrap_i64 (by omega) (by omega)]; rfl
    ·rw [take_succ' _ hlt,List.find?_append,hnone]; simp [hb]
  refine conflict_ok hd c.l[i].acc a fun w34 h34=>⟨_,rfl,?_⟩
  rw [BIf_iff]
  have ht:=hth c.l[i] (List.getElem_mem hlt)
  constructor
  ·intro hcf
   refine ⟨c.l[i].acc.th,by rw [add_lit',h34.cell (k:=0) rfl]; rfl,ht.1,by have:=ht.2; simpa using this,at0 own c.l[i].acc.th,?_,c.l[i].tick,by rw [add_lit',h34.cell (k:=0) rfl]; rfl,?_⟩
   ·rw [add_lit',h34.cell (k:=2) rfl]
    have:(c.l[i].acc.th).toNat < own.length:=by omega
    simp [at0,this]
   ·exact s2 _ w34 h34 (by simp [f,hcf])
  ·intro hcf
   exact s2 _ w34 h34 (by simp [f,hcf])
 ·intro hge
  have:i=c.l.length:=by simp at hge; omega
  subst this
  rw [f38_s4_eq]
  refine ⟨_,build45z,hw.stA (k:=0) rfl rfl (by simp) (by simp [Value.oneCell']) fun w60 h60=>?_⟩
  refine h60.ldA (k:=0) (i:=0) rfl (by simp [splice_length]) ?_
  have hr:c.race a own=none:=by
   unfold Cell.race
   rw [List.take_length] at hnone
   rw [show c.l.find? (fun p=>conflict p.acc a && decide (at0 own p.acc.th < p.tick))=none from hnone]; rfl
  have hk:=hK w60 (hfix w60 h60)
  rw [hr] at hk
  exact hk
structure CB where
 byte:Int
 addr:Nat
 ov:Value
 c:Cell
 L:List (Nat × Obj)
def cellCs (x:CB):List Value:=x.ov::x.c.last.map I64
def cbH (x:CB):List (Nat × Obj):=(x.addr,Cs (cellCs x) 112)::x.L
structure CBok (w0:World) (x:CB):Prop where
 sl:SlO 6 122 x.ov x.c.l.length (pasts x.c.l) x.L
 new:New w0 x.L
 last:x.c.last.length=24
 na:w0.heap.size≤x.addr
 th:∀ p∈x.c.l,0≤p.acc.th∧p.acc.th < 8
theorem kind_lt (a:Acc):0≤kind a∧kind a < 3:=by unfold kind; split <;> (try split) <;> omega
theorem build152 (a:Acc) (x:Int) (wq:World):(Instr.build 122 [(0,(Value.agg (Acccs a).toArray)),(1,(Value.int .i64 x))].toArray).run P wq=.ok (.agg (pastCs ⟨a,x⟩).toArray) wq:=by
 obtain ⟨a,b,c,d,e⟩:=a
 kernel_rfl
theorem info152:P.info? 122=some Tryz.t122:=by kernel_rfl
theorem pasts_snoc (l:List Past) (p:Past):pasts (l++[p])=pasts l++pastCs p:=by simp [pasts]
theorem remember_ok {x:CB} (h:St w0 w (cbH x++H)) (hx:CBok w0 x) {a:Acc} (ha:0≤a.th∧a.th < 8) (hn:x.c.l.length < 2000000000) (tick rel:Int)
  (hK:∀ w' x',x'.addr=x.addr→x'.byte=x.byte→x'.c=x.c.remember a tick rel→CBok w0 x'→St w0 w' (cbH x'++H)→K (.tuple [].toArray) w') :
  CallL P 39 [.pointer (some (Addr.mk x.addr 0 none)),.agg (Acccs a).toArray,.int .i64 tick,.int .i64 rel] w K:=by
 refine f39_ok _ _ _ _ _ _ ?_
 rw [f39_eq]
 refine h.newC fun n4 w5 hn4 h5=>?_
 have h5:St w0 w5 ((n4,Cs (Acccs a) 97)::(cbH x++H)):=h5
 have hd:=h5.drew
 obtain ⟨t,ht,ht8⟩:∃ t:Nat,a.th=t∧t < 8:=⟨a.th.toNat,by omega,by omega⟩
 obtain ⟨k,hk,hk3⟩:∃ k:Nat,kind a=k∧k < 3:=⟨(kind a).toNat,by have:=kind_lt a; omega,by have:=kind_lt a; omega⟩
 have hik:t * 3+k < 24:=by omega
 have s0:∀ w10,St w0 w10 ((n4,Cs (Acccs a) 97)::(cbH x++H))→f39_s0 tick (Addr.mk n4 0 none) (some (Addr.mk x.addr 0 none)) rel (some ((((Addr.mk x.addr 0 none).add 1).add (Int.toNat a.th * 3)).add (Int.toNat (kind a) * 1))) w10 K:=by
  intro w10 h10
  rw [f39_s0_eq,ht,hk]
  simp only [optS,add_lit',Nat.zero_add,Int.toNat_natCast,Nat.mul_one]
  have hi:1+t * 3+k=(t * 3+k)+1:=by omega
  rw [hi]
  refine ⟨x.c.last.getD (t * 3+k) 0,?_,?_⟩
  ·rw [h10.cell (k:=1) (cs:=cellCs x) rfl]
   have:t * 3+k < x.c.last.length:=by rw [hx.last]; exact hik
   simp [cellCs,this]
  rw [BIf_iff]
  have hrem:x.c.remember a tick rel=if x.c.last.getD (t * 3+k) 0=w64 (rel+1) then x.c else { l:=x.c.l++[⟨a,tick⟩],last:=x.c.last.set (t * 3+k) (w64 (rel+1)) }:=by
   unfold Cell.remember
   rw [ht,hk]
   simp only [Int.toNat_natCast]
  constructor
  ·intro he
   rw [if_pos (by simpa [w64] using he)] at hrem
   exact hK w10 x rfl rfl hrem.symm hx (h10.tail hn4)
  ·intro he
   have hne:¬ x.c.last.getD (t * 3+k) 0=w64 (rel+1):=by simpa [w64] using he
   rw [if_neg hne] at hrem
   rw [f39_s1_eq]
   simp only [optS,add_lit',Nat.zero_add]
   refine h10.st1 (k:=1) (cs:=cellCs x) rfl (by simp [cellCs,hx.last]; omega) rfl fun w25 h25=>?_
   have hset:(cellCs x).set (t * 3+k+1) (Value.int .i64 (IntKind.wrap .i64 (rel+1)))=x.ov::(x.c.last.set (t * 3+k) (w64 (rel+1))).map I64:=by
    simp [cellCs,List.map_set,w64]
   rw [hset] at h25
   have h25:St w0 w25 ((n4,Cs (Acccs a) 97)::(x.addr,Cs (x.ov::(x.c.last.set (t * 3+k) (w64 (rel+1))).map I64) 112)::(x.L++H)):=h25
   have h25d:=h25.drew
   refine h25d.ldA (k:=0) (i:=0) rfl (by simp [Acccs_len]) ?_
   refine ⟨_,build152 a tick,?_⟩
   obtain ⟨sa,sc,hov⟩:=hx.sl.form
   have fin:∀ n33 w31,w0.heap.size≤n33→St w0 w31 ((n33,Cs (pastCs ⟨a,tick⟩) 122)::(n4,Cs (Acccs a) 97)::(x.addr,Cs (x.ov::(x.c.last.set (t * 3+k) (w64 (rel+1))).map I64) 112)::(x.L++H))→
     ∃ g cap w35,(Builtin.append_ #[109,109] 109 [x.ov,.slice (some ⟨n33,0,none⟩) 1 1].toArray).run P w31=.ok (.slice (some ⟨g,0,none⟩) (x.c.l.length+1) cap) w35∧
      St1 (Addr.mk x.addr 0 none) (.slice (some ⟨g,0,none⟩) (x.c.l.length+1) cap) w35 fun w37=>K (Value.tuple [].toArray) w37:=by
    intro n33 w31 hn33 h31
    obtain ⟨g,cap,w',L',hr,hS,hs',hN⟩:=St.append (P:=P) 109 109 122 Tryz.t122 (.agg #[I64 0,I64 0,.int .u32 0,.bool false,.bool false,I64 0]) 6 32 Tryz.underlying109 info152 rfl rfl rfl rfl (by omega)
     (A:=[(n33,Cs (pastCs ⟨a,tick⟩) 122),(n4,Cs (Acccs a) 97),(x.addr,Cs (x.ov::(x.c.last.set (t * 3+k) (w64 (rel+1))).map I64) 112)]) h31 hx.sl hx.new (j:=0) rfl rfl (by simpa using pastCs_one ⟨a,tick⟩) (by simp [maxLen]; omega) (by omega)
    refine ⟨g,cap,w',hr,?_⟩
    have hs':St w0 w' ((n33,Cs (pastCs ⟨a,tick⟩) 122)::(n4,Cs (Acccs a) 97)::(x.addr,Cs (x.ov::(x.c.last.set (t * 3+k) (w64 (rel+1))).map I64) 112)::(L'++H)):=hs'
    refine hs'.st1 (k:=2) rfl (by simp) rfl fun w37 h37=>?_
    refine hK w37 ⟨x.byte,x.addr,.slice (some ⟨g,0,none⟩) (x.c.l.length+1) cap,x.c.remember a tick rel,L'⟩ rfl rfl rfl ⟨?_,hN,?_,hx.na,?_⟩ ?_
    ·rw [hrem]; simp only [List.length_append,List.length_singleton]; rw [pasts_snoc]; exact hS
    ·rw [hrem]; simp [hx.last]
    ·rw [hrem]; intro p hp
     rcases List.mem_append.1 hp with hp | hp
     ·exact hx.th p hp
     ·simp at hp; rw [hp]; exact ha
    ·have:=((h37.tail hn33).tail hn4)
     rw [hrem]
     exact this
   have rd:∀ {w':World} {X:HL},St w0 w' (X++((n4,Cs (Acccs a) 97)::(x.addr,Cs (x.ov::(x.c.last.set (t * 3+k) (w64 (rel+1))).map I64) 112)::(x.L++H)))→w'.cell? (Addr.mk x.addr 0 none)=some (Value.slice sa x.c.l.length sc):=fun h'=>by
    rw [cell_of (h'.has x.addr (Cs (x.ov::(x.c.last.set (t * 3+k) (w64 (rel+1))).map I64) 112) (by simp)),hov]; rfl
   constructor
   ·refine ⟨sa,_,sc,rd (X:=[]) h25d,⟨rfl,trivial⟩,?_⟩
    refine h25d.newC fun n33 w31 hn33 h31=>?_
    obtain ⟨g,cap,w35,hr,hst⟩:=fin n33 w31 hn33 h31
    rw [hov] at hr
    exact ⟨_,_,_,w35,hr,hst⟩
   ·refine ⟨⟨rfl,trivial⟩,?_⟩
    refine h25d.newC fun n33 w31 hn33 h31=>?_
    obtain ⟨g,cap,w35,hr,hst⟩:=fin n33 w31 hn33 h31
    rw [hov] at hr
    exact ⟨sa,_,sc,rd (X:=[_]) h31,_,_,_,w35,hr,hst⟩
 have hkl:=kind_lt a
 have cth:∀ {w':World},St w0 w' ((n4,Cs (Acccs a) 97)::(cbH x++H))→w'.cell? ((Addr.mk n4 0 none).add 1)=some (Value.int .i64 a.th):=fun h'=>by rw [add_lit',h'.cell (k:=0) rfl]; rfl
 refine hd.ldA (k:=0) (i:=0) rfl (by simp [Acccs_len]) ⟨?_,?_⟩
 ·refine ⟨a.th,cth hd,ha.1,by have:=ha.2; simpa using this,?_⟩
  refine kind_ok hd a fun w10 h10=>⟨_,rfl,hkl.1,by have:=hkl.2; simpa using this,s0 w10 h10⟩
 ·refine kind_ok hd a fun w10 h10=>⟨_,rfl,a.th,cth h10,ha.1,by have:=ha.2; simpa using this,hkl.1,by have:=hkl.2; simpa using this,s0 w10 h10⟩
end Go.Fx.Tryz
namespace Go.Fx
open Go
variable {P:Program} {w0 w:World}
theorem St.appendS (t ty e:TypeId) (i:TypeInfo) (z:Value) (size bytes:Nat) (ht:P.underlying t=some (.slice e)) (hi:P.info? e=some i) (hz:i.zero=some z)
  (hsize:i.size=size) (hby:i.bytes=bytes) (hzs:z.cells.size=size) (hsz:0 < size)
  {A L H:HL} {ov:Value} {n:Nat} {xs:List Value} (h:St w0 w (A++(L++H))) (hL:SlO size e ov n xs L) (hLn:New w0 L)
  {ad:Addr} {m c:Nat} {news:List Value} (hl:news.length=m * size) (hnews:∀ j u,news[j]?=some u→w.cell? (ad.add j)=some u) (h1:∀ u∈news,u.oneCell'=true)
  (h63:n+m≤maxLen) (hbytes:(n+m) * bytes≤140737488355328) :
  ∃ v' w' L',(Builtin.append_ #[t,t] ty [ov,.slice (some ad) m c].toArray).run P w=.ok v' w'∧
   SlO size e v' (n+m) (xs++news) L'∧St w0 w' (A++(L'++H))∧New w0 L':=by
 have hown:w.ownsRow 0 e size ov n xs:=by
  refine ⟨hL.1,?_⟩
  rcases hL.2 with ⟨h1,h2,_⟩ | ⟨g,cap,cur,h1,h2,h3,h4,h5,h6⟩
  ·exact .inl ⟨h1,h2⟩
  ·exact .inr ⟨g,cap,cur.toArray,h1,Nat.zero_le _,h.has g (Cs cur e) (by simp [h2]),h3,h4,by simpa using h5,by simpa using h6⟩
 obtain ⟨v',w',hr,ho,hgr,_,hblk⟩:=run_append_own_at (P:=P) w 0 t ty e i z size bytes ht hi hz hsize hby hzs hsz ov n xs hown ad m c news hl hnews h1 h63 hbytes (Nat.zero_le _)
 rcases ho.2 with ⟨rfl,h0⟩ | ⟨g,cap,cur,rfl,_,hg,hnc,hcm,hcs,htk⟩
 ·-- nothing to nothing
  have hn0:n=0:=by omega
  have hm0:m=0:=by omega
  subst hn0; subst hm0
  have hx0:xs=[]:=List.eq_nil_of_length_eq_zero (by simpa using hL.1)
  have hn0':news=[]:=List.eq_nil_of_length_eq_zero (by simpa using hl)
  subst hx0; subst hn0'
  rcases hL.2 with ⟨h1,_,h2⟩ | ⟨g0,cap0,cur0,h1,h2,_⟩
  ·subst h2
   refine ⟨_,w',[],hr,⟨by simp,.inl ⟨rfl,rfl,rfl⟩⟩,?_,New.nil w0⟩
   have hs:w'=w':=rfl
   refine ⟨⟨hgr.os.trans h.kept.os,hgr.tape.trans h.kept.tape,hgr.output.trans h.kept.output⟩,Nat.le_trans h.le hgr.size,fun b o hb=>?_,by simpa using h.nd,fun b hb hn=>?_⟩
   ·have hmem:(b,o)∈A++([]++H):=hb
    rw [hgr.block b (h.lt hmem) (by rw [h1]; simp [Value.ownBlock])]
    exact h.has b o hmem
   ·rw [hgr.block b (Nat.lt_of_lt_of_le hb h.le) (by rw [h1]; simp [Value.ownBlock])]
    exact h.old b hb (by simpa using hn)
  ·rcases hblk with hb | hb
   ·rw [h1] at hb; simp [Value.ownBlock] at hb
   ·simp [Value.ownBlock] at hb
 have hnd:=h.nd
 simp only [List.map_append] at hnd
 have hgsz:=hgr.size
 have hgold:=hgr.block
 have keep:∀ b o,(b,o)∈A∨(b,o)∈H→w'.heap[b]?=some o:=fun b o hb=>by
  have hmem:(b,o)∈A++(L++H):=by simp only [List.mem_append]; rcases hb with hb | hb <;> simp [hb]
  rw [hgold b (h.lt hmem) ?_]
  ·exact h.has b o hmem
  ·rcases hL.2 with ⟨h1,_,_⟩ | ⟨g0,cap0,cur0,h1,h2,_⟩
   ·rw [h1]; simp [Value.ownBlock]
   ·rw [h1]
    simp only [Value.ownBlock,ne_eq,Option.some.injEq]
    rintro rfl
    rw [h2] at hnd
    have h3:=List.nodup_append.1 hnd
    rcases hb with hb | hb
    ·exact h3.2.2 b (List.mem_map.2 ⟨_,hb,rfl⟩) b (by simp) rfl
    ·have h4:=h3.2.1
     simp only [List.map_cons,List.map_nil,List.cons_append,List.nil_append,List.nodup_cons] at h4
     exact h4.1 (List.mem_map.2 ⟨_,hb,rfl⟩)
 have hAH:(A.map (·.1)++H.map (·.1)).Nodup:=by
  have h3:=List.nodup_append.1 hnd
  refine List.nodup_append.2 ⟨h3.1,(List.nodup_append.1 h3.2.1).2.1,fun a ha b hb=>h3.2.2 a ha b (by simp [hb])⟩
 have hgn:g ∉ A.map (·.1)∧g ∉ H.map (·.1)∧w0.heap.size≤g:=by
  rcases hblk with hb | hb
  ·rcases hL.2 with ⟨h1,_,_⟩ | ⟨g0,cap0,cur0,h1,h2,_⟩
   ·rw [h1] at hb; simp [Value.ownBlock] at hb
   ·rw [h1] at hb
    simp only [Value.ownBlock,Option.some.injEq] at hb
    subst hb
    rw [h2] at hnd
    have h3:=List.nodup_append.1 hnd
    have h4:=h3.2.1
    simp only [List.map_cons,List.map_nil,List.cons_append,List.nil_append,List.nodup_cons] at h4
    refine ⟨fun ha=>h3.2.2 g ha g (by simp) rfl,h4.1,?_⟩
    rw [h2] at hLn
    simpa using hLn (g,Cs cur0 e) (by simp)
  ·simp only [Value.ownBlock,Option.some.injEq] at hb
   subst hb
   refine ⟨fun ha=>?_,fun ha=>?_,h.le⟩ <;> obtain ⟨⟨c,p⟩,hc,he⟩:=List.mem_map.1 ha <;> have:=h.lt (b:=c) (o:=p) (by simp [hc]) <;> simp at he <;> omega
 refine ⟨_,w',[(g,Cs cur.toList e)],hr,⟨ho.1,.inr ⟨g,cap,cur.toList,rfl,rfl,hnc,hcm,by simpa using hcs,htk⟩⟩,⟨⟨hgr.os.trans h.kept.os,hgr.tape.trans h.kept.tape,hgr.output.trans h.kept.output⟩,Nat.le_trans h.le hgsz,fun b o hb=>?_,?_,fun b hb hn=>?_⟩,by simpa [New] using hgn.2.2⟩
 ·simp only [List.mem_append,List.mem_singleton] at hb
  rcases hb with hb | hb | hb
  ·exact keep b o (.inl hb)
  ·cases hb; simpa [Cs] using hg
  ·exact keep b o (.inr hb)
 ·simp only [List.map_append,List.map_cons,List.map_nil]
  have h3:=List.nodup_append.1 hAH
  refine List.nodup_append.2 ⟨h3.1,?_,?_⟩
  ·simp only [List.cons_append,List.nil_append,List.nodup_cons]; exact ⟨hgn.2.1,h3.2.1⟩
  ·intro a ha b hb
   simp only [List.cons_append,List.nil_append,List.mem_cons] at hb
   rcases hb with rfl | hb
   ·rintro rfl; exact hgn.1 ha
   ·exact h3.2.2 a ha b hb
 ·simp only [List.map_append,List.map_cons,List.map_nil,List.mem_append,List.mem_singleton,not_or] at hn
  have hbL:b ∉ L.map (·.1):=fun hh=>by
   obtain ⟨x,hx,rfl⟩:=List.mem_map.1 hh
   have:=hLn x hx
   omega
  rw [hgold b (Nat.lt_of_lt_of_le hb h.le) ?_]
  ·exact h.old b hb (by simp only [List.map_append,List.mem_append,not_or]; exact ⟨hn.1,hbL,hn.2.2⟩)
  ·rcases hL.2 with ⟨h1,_,_⟩ | ⟨g0,cap0,cur0,h1,h2,_⟩
   ·rw [h1]; simp [Value.ownBlock]
   ·rw [h1]
    simp only [Value.ownBlock,ne_eq,Option.some.injEq]
    rintro rfl
    exact hbL (by simp [h2])
theorem run_append_none (t ty e:TypeId) (i:TypeInfo) (ht:P.underlying t=some (.slice e)) (hi:P.info? e=some i) (w:World) (a:Option Addr) (n cap:Nat) (h:n≤cap) :
  (Builtin.append_ #[t,t] ty [.slice a n cap,.slice none 0 0].toArray).run P w=.ok (.slice a n cap) w:=by
 cases a <;> simp [Builtin.append_,run_underlying ht,sizeOf,typeInfo,hi,Builtin.lenOf,Builtin.firstCells,loadCells,h,storeCells]
theorem St.appendN (t ty e:TypeId) (i:TypeInfo) (z:Value) (size bytes:Nat) (ht:P.underlying t=some (.slice e)) (hi:P.info? e=some i) (hz:i.zero=some z)
  (hsize:i.size=size) (hby:i.bytes=bytes) (hzs:z.cells.size=size) (hsz:0 < size)
  {A L H M:HL} {ov xv:Value} {n m:Nat} {xs news:List Value} (h:St w0 w (A++(L++H))) (hL:SlO size e ov n xs L) (hLn:New w0 L)
  (hx:SlO size e xv m news M) (hM:∀ x∈M,w.heap[x.1]?=some x.2) (h1:∀ u∈news,u.oneCell'=true)
  (h63:n+m≤maxLen) (hbytes:(n+m) * bytes≤140737488355328) :
  ∃ v' w' L',(Builtin.append_ #[t,t] ty [ov,xv].toArray).run P w=.ok v' w'∧
   SlO size e v' (n+m) (xs++news) L'∧St w0 w' (A++(L'++H))∧New w0 L':=by
 rcases hx.2 with ⟨rfl,rfl,rfl⟩ | ⟨g,cap,cur,rfl,rfl,hnc,hcm,hcl,htk⟩
 ·have hn0:news=[]:=List.eq_nil_of_length_eq_zero (by simpa using hx.1)
  subst hn0
  have hle:∃ a c,ov=.slice a n c∧n≤c:=by
   rcases hL.2 with ⟨h1,h2,_⟩ | ⟨g,cap,cur,h1,_,h3,_⟩
   ·exact ⟨_,_,by rw [h1,h2],by omega⟩
   ·exact ⟨_,_,h1,h3⟩
  obtain ⟨a,c,hov,hle⟩:=hle
  refine ⟨ov,w,L,?_,by simpa using hL,h,hLn⟩
  rw [hov]
  exact run_append_none t ty e i ht hi w a n c hle
 ·refine St.appendS (P:=P) t ty e i z size bytes ht hi hz hsize hby hzs hsz h hL hLn hx.1 (fun j u hu=>?_) h1 h63 hbytes
  rw [add_lit',cell_of (hM (g,Cs cur e) (by simp)),Nat.zero_add]
  rw [← htk,List.getElem?_take] at hu
  split at hu
  ·exact hu
  ·cases hu
end Go.Fx
namespace Go.Fx.Mo
theorem put_look {K V:Type} [DecidableEq K] (m:List (K × V)) (a:K) (v:V) (k:K):look (put m a v) k=if k=a then some v else look m k:=by
 unfold put
 split
 ·rename_i u hu
  rw [look_map_if]
  by_cases hk:k=a
  ·subst hk; simp [hu]
  ·simp [hk]
 ·rename_i hu
  rw [look_append]
  by_cases hk:k=a
  ·subst hk; simp [hu]
  ·simp [hk,Ne.symm hk]
theorem scan_mem {d:Det} {a:Acc} {own:Clk}:∀ {bs:List Int} {out out':List Race} {n:Int},scan d a own bs out n=some out'→
  ∃ ext,out'=out++ext∧(ext.map (·.byte)).Sublist bs∧∀ r∈ext,r.second=a∧(look d.told r.byte).getD false=false∧∃ c,look d.cells r.byte=some c∧c.race a own=some r.first
 | [],out,out',n,h=>by
  simp [scan] at h
  exact ⟨[],by simp [h],by simp,by simp⟩
 | b::r,out,out',n,h=>by
  unfold scan at h
  split at h
  ·split at h
   ·cases h
   ·obtain ⟨ext,h1,h2,h3⟩:=scan_mem h
    exact ⟨ext,h1,h2.cons _,h3⟩
  ·rename_i c hc
   split at h
   ·obtain ⟨ext,h1,h2,h3⟩:=scan_mem h
    exact ⟨ext,h1,h2.cons _,h3⟩
   ·rename_i ht
    split at h
    ·rename_i x hx
     obtain ⟨ext,h1,h2,h3⟩:=scan_mem h
     refine ⟨⟨b,x,a⟩::ext,by simp [h1],by simpa using h2,fun q hq=>?_⟩
     rcases List.mem_cons.1 hq with rfl | hq
     ·exact ⟨rfl,by simpa using ht,c,hc,hx⟩
     ·exact h3 q hq
    ·obtain ⟨ext,h1,h2,h3⟩:=scan_mem h
     exact ⟨ext,h1,h2.cons _,h3⟩
theorem tell_told:∀ (out:List Race) (cs:List (Int × Cell)) (ts:List (Int × Bool)) (b:Int),(look (tell out cs ts).2 b).getD false=((look ts b).getD false || out.any fun r=>r.byte == b)
 | [],cs,ts,b=>by simp [tell]
 | x::r,cs,ts,b=>by
  rw [tell,tell_told r,put_look]
  by_cases hb:b=x.byte
  ·simp [hb]
  ·have:(x.byte == b)=false:=by simpa using Ne.symm hb
   simp [hb,this]
theorem feed_inl {d d':Det} {e:Ev} {out:List Race} (h:feed d e=(d',.inl out)):∃ p,plan d.th e=some p∧d.many < 20000∧
  scan d (accOf d e) p.own (if (accesses e).2.2 then bytes e.a e.n else []) [] 0=some out∧w64 (d.told.length+out.length)≤1000∧
  d'=(let t:=tell out (keep (accOf d e) p.tk (at0 d.th.rels e.th) d.told (if (accesses e).2.2 then bytes e.a e.n else []) d.cells) d.told
   { th:=perform d.th e p,many:=w64 (d.many+1),cells:=t.1,told:=t.2 }):=by
 unfold feed at h
 split at h
 ·simp at h
 ·rename_i hm
  split at h
  ·simp at h
  ·rename_i p hp
   simp only at h
   split at h
   ·simp at h
   ·rename_i out' hs
    split at h
    ·simp at h
    ·rename_i hl
     simp only [Prod.mk.injEq,Sum.inl.injEq] at h
     obtain ⟨h1,rfl⟩:=h
     exact ⟨p,hp,by omega,hs,by omega,h1.symm⟩
theorem feeds_cons {e:Ev} {r:List Ev} {d:Det} {out out':List Race} (h:feeds (e::r) d out=.inl out'):∃ d1 x,feed d e=(d1,.inl x)∧feeds r d1 (out++x)=.inl out':=by
 unfold feeds at h
 split at h
 ·cases h
 ·rename_i d1 x hf; exact ⟨d1,x,hf,h⟩
theorem run_feeds:∀ (l:List Ev) (i:Int) (T:Th) (h:Hist) (d:Det) (out:List Race),d.th=T→runL l i T h=none→∃ x,feeds l d out=.inr x
 | [],i,T,h,d,out,_,hr=>by simp [runL] at hr
 | e::r,i,T,h,d,out,ht,hr=>by
  unfold feeds
  split
  ·exact ⟨_,rfl⟩
  ·rename_i d1 x hf
   obtain ⟨p,hp,_,_,_,rfl⟩:=feed_inl hf
   unfold runL at hr
   rw [← ht,hp] at hr
   exact run_feeds r (i+1) (perform d.th e p) ⟨h.orders++p.orders,h.of++List.replicate p.orders.length i,h.events++[⟨p.tk,p.own⟩]⟩ _ _ rfl hr
theorem w32_nodup {a:Int} {n:Nat} (hn:n≤4294967296):((List.range n).map fun i:Nat=>w32 (a+w32 (i:Int))).Nodup:=by
 rw [List.nodup_iff_pairwise_ne,List.pairwise_map]
 refine List.Pairwise.imp_of_mem ?_ (List.nodup_iff_pairwise_ne.1 List.nodup_range)
 intro i j hi hj hij h
 have hi:i < n:=by simpa using hi
 have hj:j < n:=by simpa using hj
 simp only [w32,IntKind.wrap,IntKind.bits,IntKind.signed] at h
 simp at h
 omega
theorem bytes_nodup {a n:Int} (hn:n≤65536):(bytes a n).Nodup:=w32_nodup (by omega)
theorem refused_n {T:Th} {e:Ev} (h:refused T e=false) (hi:(accesses e).2.2=true):0≤e.n∧e.n≤65536:=by
 unfold refused at h
 simp only [Bool.or_eq_false_iff,decide_eq_false_iff_not,Bool.and_eq_false_iff] at h
 obtain ⟨⟨_,h7⟩,_⟩:=h
 rcases h7 with h7 | h7
 ·rw [hi] at h7; cases h7
 ·omega
theorem plan_refused {T:Th} {e:Ev} {p:Pl} (h:plan T e=some p):refused T e=false:=by
 unfold plan at h
 split at h
 ·cases h
 ·rename_i hr; simpa using hr
theorem feeds_bytes:∀ (l:List Ev) (d:Det) (out out':List Race),feeds l d out=.inl out'→(out.map (·.byte)).Nodup→(∀ r∈out,(look d.told r.byte).getD false=true)→(out'.map (·.byte)).Nodup
 | [],d,out,out',h,hn,_=>by simp [feeds] at h; rw [← h]; exact hn
 | e::r,d,out,out',h,hn,ht=>by
  obtain ⟨d1,x,hf,h⟩:=feeds_cons h
  obtain ⟨p,hp,_,hs,_,rfl⟩:=feed_inl hf
  obtain ⟨ext,rfl,hsub,hx⟩:=scan_mem hs
  refine feeds_bytes r _ _ _ h ?_ ?_
  ·rw [List.map_append]
   refine List.nodup_append.2 ⟨hn,hsub.nodup ?_,?_⟩
   ·split
    ·rename_i hi
     exact bytes_nodup (refused_n (plan_refused hp) hi).2
    ·exact List.nodup_nil
   ·intro b hb c hc e
    subst e
    obtain ⟨u,hu,rfl⟩:=List.mem_map.1 hb
    obtain ⟨v,hv,e⟩:=List.mem_map.1 hc
    have h1:=ht u hu
    have h2:=(hx v hv).2.1
    rw [e,h1] at h2
    cases h2
  ·intro u hu
   simp only [tell_told]
   rcases List.mem_append.1 hu with hu | hu
   ·simp [ht u hu]
   ·simp only [Bool.or_eq_true]
    exact .inr (List.any_eq_true.2 ⟨u,hu,by simp⟩)
theorem feeds_nodup {l:List Ev} {out:List Race} (h:feeds l det0 []=.inl out):(out.map (·.byte)).Nodup:=feeds_bytes l det0 [] out h (by simp) (by simp)
theorem w64_small {x:Int} (h1:-9223372036854775808≤x) (h2:x < 9223372036854775808):w64 x=x:=wrap_i64 h1 h2
theorem raceLe_iff (a b:Race):raceLe a b=true↔a.second.ev < b.second.ev∨a.second.ev=b.second.ev∧a.byte≤b.byte:=by simp [raceLe]
theorem raceLe_trans (a b c:Race) (h1:raceLe a b=true) (h2:raceLe b c=true):raceLe a c=true:=by
 rw [raceLe_iff] at *; omega
theorem raceLe_total (a b:Race):(raceLe a b || raceLe b a)=true:=by
 rw [Bool.or_eq_true,raceLe_iff,raceLe_iff]; omega
theorem nodup_inj {l:List Race} (hn:(l.map (·.byte)).Nodup) {a b:Race} (ha:a∈l) (hb:b∈l) (h:a.byte=b.byte):a=b:=by
 induction l with
 | nil=>cases ha
 | cons x r ih=>
  simp only [List.map_cons,List.nodup_cons] at hn
  rcases List.mem_cons.1 ha with ea | ma
  ·rcases List.mem_cons.1 hb with eb | mb
   ·rw [ea,eb]
   ·exact absurd (List.mem_map.2 ⟨b,mb,by rw [← h,ea]⟩) hn.1
  ·rcases List.mem_cons.1 hb with eb | mb
   ·exact absurd (List.mem_map.2 ⟨a,ma,by rw [h,eb]⟩) hn.1
   ·exact ih hn.2 ma mb
theorem sort_eq {l s t:List Race} (hn:(l.map (·.byte)).Nodup) (h1:s.Perm l) (h2:t.Perm l) (hs:s.Pairwise fun a b=>raceLe a b=true) (ht:t.Pairwise fun a b=>raceLe a b=true):s=t:=by
 refine List.Perm.eq_of_pairwise (le:=fun a b=>raceLe a b=true) ?_ hs ht (h1.trans h2.symm)
 intro a b ha hb hab hba
 rw [raceLe_iff] at hab hba
 exact nodup_inj hn (h1.mem_iff.1 ha) (h2.mem_iff.1 hb) (by omega)
theorem sort_is {l s:List Race} (hn:(l.map (·.byte)).Nodup) (h1:s.Perm l) (hs:s.Pairwise fun a b=>raceLe a b=true):s=l.mergeSort raceLe:=
 sort_eq hn h1 (List.mergeSort_perm _ _) hs (List.pairwise_mergeSort raceLe_trans raceLe_total l)
end Go.Fx.Mo
namespace Go.Fx.Tryz
open Go Go.Fx Go.Fx.Mo
open Go.Proofs
variable {w0 w:World} {H:HL} {K:KT}
set_option maxRecDepth 20000
abbrev encU (x:Int):Value:=.int .u32 x
structure DB where
 db:Nat
 tob:Nat
 tnb:Nat
 cb:Nat
 lb:Nat
 es3:Array MapEntry
 c3:Nat
 es4:Array MapEntry
 c4:Nat
 es5:Array MapEntry
 c5:Nat
 es6:Array MapEntry
 c6:Nat
 d:Det
 cs:List CB
def restCs (D:DB):List Value:=[.bool true,I64 D.d.many,.map (some D.cb),.map (some D.lb)]
def cellsH (cs:List CB):List (Nat × Obj):=cs.flatMap cbH
abbrev ptr (b:Nat):Value:=.pointer (some (Addr.mk b 0 none))
def cellM (cs:List CB):List (Int × Value):=cs.map fun x=>(x.byte,ptr x.addr)
def cellD (cs:List CB):List (Int × Cell):=cs.map fun x=>(x.byte,x.c)
def detH (D:DB):List (Nat × Obj):=
 (D.db,Cs (thCs D.d.th D.tob D.tnb++restCs D) 37)::(D.tob,.map D.es3 D.c3)::(D.tnb,.map D.es4 D.c4)::(D.cb,.map D.es5 D.c5)::(D.lb,.map D.es6 D.c6)::cellsH D.cs
structure DBok (w0:World) (D:DB):Prop where
 th:ThOk D.d.th
 m3:MapIs encO D.es3 D.c3 (encM encC D.d.th.objs)
 m4:MapIs encO D.es4 D.c4 (encM encI D.d.th.names)
 m5:MapIs encU D.es5 D.c5 (cellM D.cs)
 m6:MapIs encU D.es6 D.c6 (encM Value.bool D.d.told)
 cells:D.d.cells=cellD D.cs
 each:∀ x∈D.cs,CBok w0 x∧(x.c.l.length:Int)≤65536 * D.d.many
 many:0≤D.d.many∧D.d.many≤20000
 new:w0.heap.size≤D.db∧w0.heap.size≤D.tob∧w0.heap.size≤D.tnb∧w0.heap.size≤D.cb∧w0.heap.size≤D.lb
theorem DBok.newH {D:DB} (h:DBok w0 D):New w0 (detH D):=by
 intro x hx
 simp only [detH,List.mem_cons] at hx
 obtain ⟨a,b,c,d,e⟩:=h.new
 rcases hx with rfl | rfl | rfl | rfl | rfl | hx
 ·exact a
 ·exact b
 ·exact c
 ·exact d
 ·exact e
 ·obtain ⟨y,hy,hx⟩:=List.mem_flatMap.1 hx
  have hy:=(h.each y hy).1
  rcases List.mem_cons.1 hx with rfl | hx
  ·exact hy.na
  ·exact hy.new x hx
theorem PS.frame {B:PB} {R:HL} {p:Pl} (h:PS w0 w B R p):∃ F,St w0 w (R++F)∧(∃ ov ob nb,(B.pb,Cs (planCs B.tb B.e ov ob nb p) B.t)∈F)∧(B.tb,Cs (thCs B.T B.tob B.tnb++B.rest) B.tt)∈F∧
  ∀ w' R',St w0 w' (R'++F)→PS w0 w' B R' p:=by
 obtain ⟨D,L,rfl,hs,h1,h2,h3⟩:=h
 have pm:∀ R':List (Nat × Obj),(L++plH B D R').Perm (R'++(L++plH B D [])):=fun R'=>by
  have e:L++plH B D R'=(L++plH B D [])++R':=by simp [plH]
  rw [e]
  exact List.perm_append_comm
 refine ⟨L++plH B D [],hs.perm (pm R),⟨D.ov,B.ob,B.nb,by simp [plH]⟩,by simp [plH],fun w' R' h'=>⟨D,L,rfl,h'.perm (pm R').symm,h1,h2,h3⟩⟩
theorem lookD (cs:List CB) (b:Int):Mo.look (cellD cs) b=(cs.find? fun x=>x.byte == b).map (·.c):=by
 unfold Mo.look cellD
 rw [List.find?_map]
 cases h:cs.find? ((fun p:Int × Cell=>p.1 == b) ∘ fun x=>(x.byte,x.c)) with
 | none=>rw [show cs.find? (fun x=>x.byte == b)=none from h]; rfl
 | some x=>rw [show cs.find? (fun x=>x.byte == b)=some x from h]; rfl
theorem lookMc (cs:List CB) (b:Int):lookM (cellM cs) b=(cs.find? fun x=>x.byte == b).map fun x=>ptr x.addr:=by
 unfold lookM cellM
 rw [List.find?_map]
 cases h:cs.find? ((fun p:Int × Value=>p.1 == b) ∘ fun x=>(x.byte,ptr x.addr)) with
 | none=>rw [show cs.find? (fun x=>x.byte == b)=none from h]; rfl
 | some x=>rw [show cs.find? (fun x=>x.byte == b)=some x from h]; rfl
theorem mapType123:P.underlying 34=some (.map 43 101):=Tryz.underlying34
theorem mapType124:P.underlying 35=some (.map 43 4):=Tryz.underlying35
theorem zero134 (w:World):(zeroValue 101).run P w=.ok (.pointer none) w:=Tryz.zeroValue101 w
theorem zero4 (w:World):(zeroValue 4).run P w=.ok (.bool false) w:=Tryz.zeroValue4 w
theorem ext_get {wq:World} (hx:Ext w wq) {b:Nat} {o:Obj} (hb:w.heap[b]?=some o):wq.heap[b]?=some o:=by
 rw [hx b (Array.getElem?_eq_some_iff.1 hb).1,hb]
theorem lookup123 {es:Array MapEntry} {clk:Nat} {cs:List CB} (hm:MapIs encU es clk (cellM cs)) {wq:World} {m:Nat} (hx:Ext w wq) (hb:w.heap[m]?=some (.map es clk)) (b:Int) :
  (Instr.lookup 34 (.map (some m)) (.int .u32 b) false).run P wq=.ok (.pointer ((cs.find? fun x=>x.byte == b).map fun x=>Addr.mk x.addr 0 none)) wq:=by
 have:=hm.lookup keyU mapType123 zero134 (ext_get hx hb) b false
 rw [lookMc] at this
 simp only [Bool.false_eq_true,if_false] at this
 rw [this]
 cases cs.find? fun x=>x.byte == b <;> rfl
theorem lookup124 {es:Array MapEntry} {clk:Nat} {m:List (Int × Bool)} (hm:MapIs encU es clk (encM Value.bool m)) {wq:World} {k:Nat} (hx:Ext w wq) (hb:w.heap[k]?=some (.map es clk)) (b:Int) :
  (Instr.lookup 35 (.map (some k)) (.int .u32 b) false).run P wq=.ok (.bool ((Mo.look m b).getD false)) wq:=by
 have:=hm.lookup keyU mapType124 zero4 (ext_get hx hb) b false
 rw [lookM_map] at this
 simp only [Bool.false_eq_true,if_false] at this
 rw [this]
 cases Mo.look m b <;> rfl
theorem find_split {cs:List CB} {b:Int} {x:CB} (h:(cs.find? fun x=>x.byte == b)=some x):x.byte=b∧∃ pre post,cs=pre++x::post:=by
 have h1:=List.find?_some h
 have h2:=List.mem_of_find?_eq_some h
 exact ⟨by simpa using h1,List.append_of_mem h2⟩
theorem cellsH_split (pre post:List CB) (x:CB):(cellsH (pre++x::post)).Perm (cbH x++cellsH (pre++post)):=by
 unfold cellsH
 simp only [List.flatMap_append,List.flatMap_cons]
 rw [← List.append_assoc,← List.append_assoc]
 exact List.Perm.append_right _ List.perm_append_comm
theorem cellM_keys (cs:List CB):(cellM cs).map (·.1)=cs.map (·.byte):=by simp [cellM,Function.comp_def]
theorem put_split {pre post:List CB} {x y:CB} (hn:((pre++x::post).map (·.byte)).Nodup) (hb:y.byte=x.byte):put (cellD (pre++x::post)) x.byte y.c=cellD (pre++y::post):=by
 have hl:Mo.look (cellD (pre++x::post)) x.byte≠none:=by
  rw [lookD]
  have:((pre++x::post).find? fun z=>z.byte == x.byte)≠none:=by
   rw [ne_eq,List.find?_eq_none]
   intro hh
   exact hh x (by simp) (by simp)
  cases h:(pre++x::post).find? fun z=>z.byte == x.byte with
  | none=>exact absurd h this
  | some z=>simp
 unfold put
 cases h:Mo.look (cellD (pre++x::post)) x.byte with
 | none=>exact absurd h hl
 | some c=>
  simp only [cellD,List.map_map,List.map_append,List.map_cons]
  rw [List.map_append,List.map_cons,List.nodup_append,List.nodup_cons] at hn
  congr 1
  ·apply List.map_congr_left
   intro z hz
   have:z.byte≠x.byte:=fun e=>hn.2.2 z.byte (List.mem_map.2 ⟨z,hz,rfl⟩) x.byte (by simp) e
   simp [this]
  ·congr 1
   ·simp [hb]
   ·apply List.map_congr_left
    intro z hz
    have:z.byte≠x.byte:=fun e=>hn.2.1.1 (List.mem_map.2 ⟨z,hz,e⟩)
    simp [this]
theorem keep_one {a:Acc} {tk rel:Int} {ts:List (Int × Bool)} {b:Int} {r:List Int} {cs:List (Int × Cell)}:keep a tk rel ts (b::r) cs =
  keep a tk rel ts r (if (Mo.look ts b).getD false then (match Mo.look cs b with
   | none=>put cs b cell0
   | some _=>cs) else put cs b (((Mo.look cs b).getD cell0).remember a tk rel)):=rfl
def Racecs (r:Mo.Race):List Value:=.int .u32 r.byte::(Acccs r.first++Acccs r.second)
def racesCs (l:List Mo.Race):List Value:=(l.map Racecs).flatten
theorem Racecs_one (r:Mo.Race):∀ v∈(Racecs r),v.oneCell'=true:=by simp [Racecs,Acccs,Value.oneCell']
theorem racesCs_snoc (l:List Mo.Race) (r:Mo.Race):racesCs (l++[r])=racesCs l++Racecs r:=by simp [racesCs]
theorem racesCs_one (l:List Mo.Race):∀ v∈racesCs l,v.oneCell'=true:=by
 intro v hv
 obtain ⟨x,hx,hv⟩:=List.mem_flatten.1 hv
 obtain ⟨r,_,rfl⟩:=List.mem_map.1 hx
 exact Racecs_one r v hv
theorem build47 (b:Int) (x y:Acc) (wq:World):(Instr.build 108 [(0,(Value.int .u32 b)),(1,(Value.agg (Acccs x).toArray)),(2,(Value.agg (Acccs y).toArray))].toArray).run P wq=.ok (.agg (Racecs ⟨b,x,y⟩).toArray) wq:=by
 obtain ⟨x1,x2,x3,x4,x5⟩:=x
 obtain ⟨y1,y2,y3,y4,y5⟩:=y
 kernel_rfl
theorem build45 (a b c:Int) (d e:Bool) (wq:World):(Instr.build 97 [(0,(Value.int .i64 a)),(1,(Value.int .i64 b)),(2,(Value.int .u32 c)),(3,(Value.bool d)),(4,(Value.bool e))].toArray).run P wq=.ok (.agg (Acccs ⟨a,b,c,d,e⟩).toArray) wq:=by kernel_rfl
theorem info47:P.info? 108=some Tryz.t108:=by kernel_rfl
structure GF (G:HL) (D:DB) (n2 n72 n42 pb:Nat) (a:Mo.Acc) (e:Ev) (p:Pl):Prop where
 g2:(n2,Cs [ptr D.db] 25)∈G
 g72:(n72,Cs (Acccs a) 97)∈G
 g42:(n42,Cs [ptr pb] 91)∈G
 gdb:(D.db,Cs (thCs D.d.th D.tob D.tnb++restCs D) 37)∈G
 gpl:∃ ov ob nb t,(pb,Cs (planCs D.db e ov ob nb p) t)∈G
 own:p.own.length=8
theorem det_rest {D:DB} (hT:ThOk D.d.th) (i:Nat):(thCs D.d.th D.tob D.tnb++restCs D)[90+i]?=(restCs D)[i]?:=by
 rw [List.getElem?_append_right (by rw [thCs_len hT]; omega),thCs_len hT]
 congr 1; omega
abbrev scanH (l l' n6 n8 n92 n90:Nat) (o:Obj) (v6:Value) (x8 fresh:Int) (ov:Value) (Lo G:HL):List (Nat × Obj):=
 (l,o)::(l',.deferred (some []))::(n6,Cs [v6] 39)::(n8,Cs [I64 x8] 40)::(n92,Cs [I64 fresh] 3)::(n90,Cs [ov] 39)::(Lo++G)
theorem scanH_mem {l l' n6 n8 n92 n90:Nat} {o:Obj} {v6:Value} {x8 fresh:Int} {ov:Value} {Lo G:HL} {y:Nat × Obj} (h:y∈G):y∈scanH l l' n6 n8 n92 n90 o v6 x8 fresh ov Lo G:=
 .tail _ (.tail _ (.tail _ (.tail _ (.tail _ (.tail _ (List.mem_append_right _ h))))))
theorem z25:zcells P 39=#[.slice none 0 0]:=by kernel_rfl
theorem z28:zcells P 40=#[I64 0]:=by kernel_rfl
theorem z3:zcells P 3=#[I64 0]:=by kernel_rfl
theorem len123 {es:Array MapEntry} {clk:Nat} {cs:List CB} (hm:MapIs encU es clk (cellM cs)) {wq:World} {m:Nat} (hx:Ext w wq) (hb:w.heap[m]?=some (.map es clk)) :
  (Builtin.len_ #[34] 3 [Value.map (some m)].toArray).run P wq=.ok (.int .i64 cs.length) wq:=by
 have:=hm.len (ext_get hx hb) mapType123 3
 rw [this]
 simp [cellM]
variable {D:DB} {G:HL} {n2 n72 n42 pb:Nat} {a:Mo.Acc} {e:Ev} {p:Pl}
theorem scan_s12 {l l' n6 n8 n92 n90 n153:Nat} {fresh:Int} {ov:Value} {Lo:HL} {out:List Mo.Race} {Rr:LoopState→Option Code→Loop} {post:Option Code→World→Prop} (hG:GF G D n2 n72 n42 pb a e p)
  (hLo:SlO 11 108 ov out.length (racesCs out) Lo) (hLn:New w0 Lo) (hlen:out.length < 1000000) (b:Int) (x:Option Mo.Acc) {xs:List Value} (hxs:∀ y,x=some y→xs=Acccs y)
  (h:St w0 w ((n153,Cs xs 97)::scanH l l' n6 n8 n92 n90 (.loop (Rr .busy none)) (.slice none 0 0) 0 fresh ov Lo G)) (hn153:w0.heap.size≤n153)
  (hpost:∀ w' ov' Lo',SlO 11 108 ov' (out++(x.map fun y=>Mo.Race.mk b y a).toList).length (racesCs (out++(x.map fun y=>Mo.Race.mk b y a).toList)) Lo'→New w0 Lo'→
   St w0 w' (scanH l l' n6 n8 n92 n90 (.loop (Rr .ready none)) (.slice none 0 0) 0 fresh ov' Lo' G)→post none w') :
  f7_s12 (Addr.mk n90 0 none) (Addr.mk n72 0 none) (Addr.mk n153 0 none) b x.isSome w l Rr post:=by
 rw [f7_s12_eq]
 cases x with
 | none=>
  rw [Option.isSome_none,BIf_false]
  refine ⟨h.get (k:=1) rfl,?_⟩
  have:=(h.put (k:=1) rfl (.loop (Rr .ready none))).tail hn153
  exact hpost _ ov Lo (by simpa using hLo) hLn this
 | some y=>
  rw [Option.isSome_some,BIf_true]
  have hxs:=hxs y rfl
  subst hxs
  obtain ⟨sa,sc,hov⟩:=hLo.form
  refine ⟨sa,out.length,sc,by rw [h.cell (k:=6) rfl,← hov]; rfl,?_⟩
  refine h.ldA (k:=0) (i:=0) rfl (by simp [Acccs_len]) (LdA_of (h.has n72 _ (.tail _ (scanH_mem hG.g72))) (by simp [Acccs_len]) ?_)
  refine ⟨_,build47 b y a,⟨rfl,trivial⟩,?_⟩
  refine h.newC fun n168 w166 hn168 h166=>?_
  obtain ⟨g,cap,w',L',hr,hS,hs',hN⟩:=St.append (P:=P) 39 39 108 Tryz.t108 (.agg #[.int .u32 0,I64 0,I64 0,.int .u32 0,.bool false,.bool false,I64 0,I64 0,.int .u32 0,.bool false,.bool false]) 11 56 Tryz.underlying39 info47 rfl rfl rfl rfl (by omega)
   (A:=[(n168,Cs (Racecs ⟨b,y,a⟩) 108),(n153,Cs (Acccs y) 97),(l,.loop (Rr .busy none)),(l',.deferred (some [])),(n6,Cs [.slice none 0 0] 39),(n8,Cs [I64 0] 40),(n92,Cs [I64 fresh] 3),(n90,Cs [ov] 39)]) (L:=Lo) (H:=G) (by exact h166) hLo hLn (j:=0) rfl rfl (Racecs_one _) (by simp [maxLen]; omega) (by omega)
  rw [hov] at hr
  refine ⟨_,_,_,w',hr,?_⟩
  have hs':St w0 w' ((n168,Cs (Racecs ⟨b,y,a⟩) 108)::(n153,Cs (Acccs y) 97)::scanH l l' n6 n8 n92 n90 (.loop (Rr .busy none)) (.slice none 0 0) 0 fresh ov L' G):=hs'
  refine hs'.st1 (k:=7) rfl (by simp) rfl fun w171 h171=>?_
  refine ⟨h171.get (k:=2) rfl,?_⟩
  have:=((h171.put (k:=2) rfl (.loop (Rr .ready none))).tail hn168).tail hn153
  refine hpost _ (.slice (some ⟨g,0,none⟩) (out.length+1) cap) L' ?_ hN this
  have e:out++(Option.map (fun y=>Mo.Race.mk b y a) (some y)).toList=out++[⟨b,y,a⟩]:=rfl
  rw [e,racesCs_snoc,List.length_append]
  exact hS
theorem scan_round {l l' n6 n8 n92 n90 n4:Nat} {fresh:Int} {ov:Value} {Lo:HL} {out:List Mo.Race} {Rr:LoopState→Option Code→Loop} {post:Option Code→World→Prop} (hG:GF G D n2 n72 n42 pb a e p) (hD:DBok w0 D)
  (hcb:(D.cb,.map D.es5 D.c5)∈G) (hlb:(D.lb,.map D.es6 D.c6)∈G) (hcs:∀ x∈D.cs,∀ y∈cbH x,y∈G) (x107:Int)
  (hLo:SlO 11 108 ov out.length (racesCs out) Lo) (hLn:New w0 Lo) (hlen:out.length < 1000000) (b:Int)
  (h:St w0 w (scanH l l' n6 n8 n92 n90 (.loop (Rr .ready none)) (.slice none 0 0) 0 fresh ov Lo G))
  (hnext:∀ w' out' fresh' ov' Lo',(∀ r,scan D.d a p.own (b::r) out fresh=scan D.d a p.own r out' fresh')→out'.length≤out.length+1→SlO 11 108 ov' out'.length (racesCs out') Lo'→New w0 Lo'→
   St w0 w' (scanH l l' n6 n8 n92 n90 (.loop (Rr .ready none)) (.slice none 0 0) 0 fresh' ov' Lo' G)→post none w')
  (hexit:∀ w' fresh',(∀ r,scan D.d a p.own (b::r) out fresh=none)→St w0 w' (scanH l l' n6 n8 n92 n90 (.loop (Rr .done (some .ret))) (.slice none 0 0) 2 fresh' ov Lo G)→post (some .ret) w') :
  f7_ra7 (Addr.mk n8 0 none) (Addr.mk n6 0 none) (Addr.mk n92 0 none) (Addr.mk n2 0 none) (Addr.mk n90 0 none) (Addr.mk n72 0 none) (Addr.mk n42 0 none) (Addr.mk n4 0 none) x107 b w l Rr post:=by
 rw [f7_ra7_eq]
 refine ⟨h.get (k:=0) rfl,?_⟩
 have h1:St w0 (w.putObj l (.loop (Rr .busy none))) (scanH l l' n6 n8 n92 n90 (.loop (Rr .busy none)) (.slice none 0 0) 0 fresh ov Lo G):=h.put (k:=0) rfl _
 generalize w.putObj l (.loop (Rr .busy none))=w1 at h1
 have c2:∀ {w':World} {o x8 fr v lo},St w0 w' (scanH l l' n6 n8 n92 n90 o (.slice none 0 0) x8 fr v lo G)→w'.cell? (Addr.mk n2 0 none)=some (ptr D.db):=fun h'=>by rw [cell_of (h'.has n2 _ (scanH_mem hG.g2))]; rfl
 have cdb:∀ {w':World} {o x8 fr v lo} (i:Nat),St w0 w' (scanH l l' n6 n8 n92 n90 o (.slice none 0 0) x8 fr v lo G)→w'.cell? (Addr.mk D.db (90+i) none)=(restCs D)[i]?:=fun i h'=>by rw [cell_of (h'.has D.db _ (scanH_mem hG.gdb)),det_rest hD.th]
 rw [f7_s8_eq]
 refine ⟨_,c2 h1,some D.cb,by rw [add_lit',Nat.zero_add,cdb 2 h1]; rfl,?_⟩
 refine ⟨_,fun wq hx=>lookup123 hD.m5 hx (h1.has _ _ (scanH_mem hcb)) b,?_⟩
 have hlk:Mo.look D.d.cells b=(D.cs.find? fun x=>x.byte == b).map (·.c):=by rw [hD.cells,lookD]
 cases hf:D.cs.find? fun x=>x.byte == b with
 | none=>
  rw [hf] at hlk
  simp only [Option.map_none,Option.isNone_none,BIf_true] at hlk ⊢
  refine ⟨fresh,by rw [h1.cell (k:=4) rfl]; rfl,?_⟩
  refine h1.st1 (k:=4) rfl (by simp) rfl fun w2 h2=>?_
  have h2:St w0 w2 (scanH l l' n6 n8 n92 n90 (.loop (Rr .busy none)) (.slice none 0 0) 0 (w64 (fresh+1)) ov Lo G):=h2
  have h2d:=h2.drew
  have hlc:D.d.cells.length=D.cs.length:=by rw [hD.cells]; simp [cellD]
  refine ⟨_,c2 h2d,some D.cb,by rw [add_lit',Nat.zero_add,cdb 2 h2d]; rfl,D.cs.length,fun wq hx=>len123 hD.m5 hx (h2d.has _ _ (scanH_mem hcb)),w64 (fresh+1),by rw [h2d.cell (k:=4) rfl]; rfl,?_⟩
  rw [BIf_iff]
  constructor
  ·intro hgt
   have hgt:w64 (D.d.cells.length+w64 (fresh+1)) > 20000:=by rw [hlc]; simpa [w64] using hgt
   refine h2d.st1 (k:=2) rfl (by simp) rfl fun w3 h3=>h3.st1 (k:=3) rfl (by simp) rfl fun w4 h4=>?_
   refine ⟨h4.get (k:=0) rfl,?_⟩
   refine hexit _ (w64 (fresh+1)) (fun r=>by simp only [scan,hlk,hgt,if_true]) ?_
   exact h4.put (k:=0) rfl _
  ·intro hle
   have hle:¬ w64 (D.d.cells.length+w64 (fresh+1)) > 20000:=by rw [hlc]; simpa [w64] using hle
   rw [f7_s9_eq]
   refine ⟨h2d.get (k:=0) rfl,?_⟩
   exact hnext _ out (w64 (fresh+1)) ov Lo (fun r=>by simp only [scan,hlk,hle,if_false]) (by omega) hLo hLn (h2d.put (k:=0) rfl _)
 | some x=>
  rw [hf] at hlk
  obtain ⟨hxb,pre,post',hsp⟩:=find_split hf
  have hxm:x∈D.cs:=List.mem_of_find?_eq_some hf
  simp only [Option.map_some,Option.isNone_some,BIf_false] at hlk ⊢
  rw [f7_s10_eq]
  refine ⟨_,c2 h1,some D.lb,by rw [add_lit',Nat.zero_add,cdb 3 h1]; rfl,_,fun wq hx=>lookup124 hD.m6 hx (h1.has _ _ (scanH_mem hlb)) b,?_⟩
  rw [BIf_iff]
  constructor
  ·intro ht
   refine ⟨h1.get (k:=0) rfl,?_⟩
   exact hnext _ out fresh ov Lo (fun r=>by simp only [scan,hlk,ht,if_true]) (by omega) hLo hLn (h1.put (k:=0) rfl _)
  ·intro ht
   rw [f7_s11_eq]
   have hd:=h1.drew
   obtain ⟨pov,pob,pnb,pt,hpl⟩:=hG.gpl
   obtain ⟨hxo,hxl⟩:=hD.each x hxm
   have hmany:=hD.many
   have hscan:∀ r,scan D.d a p.own (b::r) out fresh=scan D.d a p.own r (out++((x.c.race a p.own).map fun y=>Mo.Race.mk b y a).toList) fresh:=fun r=>by
    rw [scan,hlk]
    simp only [ht,Bool.false_eq_true,if_false]
    cases x.c.race a p.own <;> simp
   have hfin:∀ w' ov' Lo',SlO 11 108 ov' (out++((x.c.race a p.own).map fun y=>Mo.Race.mk b y a).toList).length (racesCs (out++((x.c.race a p.own).map fun y=>Mo.Race.mk b y a).toList)) Lo'→New w0 Lo'→
     St w0 w' (scanH l l' n6 n8 n92 n90 (.loop (Rr .ready none)) (.slice none 0 0) 0 fresh ov' Lo' G)→post none w':=fun w' ov' Lo' k1 k2 k3=>
    hnext w' _ fresh ov' Lo' hscan (by cases x.c.race a p.own <;> simp) k1 k2 k3
   have hrace:∀ {w':World} {X:HL} {K':KT},St w0 w' (X++scanH l l' n6 n8 n92 n90 (.loop (Rr .busy none)) (.slice none 0 0) 0 fresh ov Lo G)→(∀ w'',St w0 w'' (X++scanH l l' n6 n8 n92 n90 (.loop (Rr .busy none)) (.slice none 0 0) 0 fresh ov Lo G)→K' (raceV (x.c.race a p.own)) w'')→
     CallL P 38 [.pointer (some (Addr.mk x.addr 0 none)),.agg (Acccs a).toArray,.agg (p.own.map I64).toArray] w' K':=fun h' hk=>
    race_ok h' (c:=x.c) (ov:=x.ov) (rest:=x.c.last.map I64) (t:=112) (L:=x.L) (List.mem_append_right _ (scanH_mem (hcs x hxm _ (by simp [cbH,cellCs])))) hxo.sl (fun y hy=>List.mem_append_right _ (scanH_mem (hcs x hxm y (by simp [cbH,hy])))) hxo.th hG.own (by omega) a hk
   refine LdA_of (hd.has n72 _ (scanH_mem hG.g72)) (by simp [Acccs_len]) ?_
   refine ⟨some (Addr.mk pb 0 none),by rw [cell_of (hd.has n42 _ (scanH_mem hG.g42))]; rfl,?_⟩
   have hown:((planCs D.db e pov pob pnb p).drop 8).take 8=p.own.map I64:=by
    obtain ⟨a,b,c,d,f,g,h,j,hl⟩:=own8 hG.own
    simp only [planCs,Evcs,hl]
    rfl
   show LdA 8 ((Addr.mk pb 0 none).add 8) _ _
   rw [add_lit',Nat.zero_add]
   refine LdA_of (hd.has pb _ (scanH_mem hpl)) (by rw [planCs_len hG.own]; omega) ?_
   rw [hown]
   have tail12:∀ w' n153 (cs151:List Value),w0.heap.size≤n153→St w0 w' ((n153,Cs cs151 97)::scanH l l' n6 n8 n92 n90 (.loop (Rr .busy none)) (.slice none 0 0) 0 fresh ov Lo G)→(∀ y,x.c.race a p.own=some y→cs151=Acccs y)→
     f7_s12 (Addr.mk n90 0 none) (Addr.mk n72 0 none) (Addr.mk n153 0 none) b (x.c.race a p.own).isSome w' l Rr post:=fun w' n153 cs151 k1 k2 k3=>
    scan_s12 hG hLo hLn hlen b (x.c.race a p.own) k3 k2 k1 hfin
   constructor
   ·refine hrace (X:=[]) hd fun w2 h2=>?_
    have h2:St w0 w2 (scanH l l' n6 n8 n92 n90 (.loop (Rr .busy none)) (.slice none 0 0) 0 fresh ov Lo G):=h2
    rw [z45]
    cases hr:x.c.race a p.own with
    | none=>
     refine ⟨_,_,rfl,h2.newC fun n153 w3 hn153 h3=>h3.stA (k:=0) rfl rfl (by simp) (by simp [Value.oneCell']) fun w4 h4=>?_⟩
     have:=tail12 w4 n153 _ hn153 h4 (by simp [hr])
     rw [hr] at this
     exact this
    | some y=>
     refine ⟨_,_,rfl,h2.newC fun n153 w3 hn153 h3=>h3.stA (k:=0) rfl rfl (by simp) (Acccs_one y) fun w4 h4=>?_⟩
     have:=tail12 w4 n153 (Acccs y) hn153 h4 (by simp [hr])
     rw [hr] at this
     exact this
   ·rw [z45]
    refine hd.newC fun n172 w2 hn172 h2=>?_
    refine hrace (X:=[_]) h2 fun w3 h3=>?_
    cases hr:x.c.race a p.own with
    | none=>
     refine ⟨_,_,rfl,h3.stA (k:=0) rfl rfl (by simp) (by simp [Value.oneCell']) fun w4 h4=>?_⟩
     have:=tail12 w4 n172 _ hn172 h4 (by simp [hr])
     rw [hr] at this
     exact this
    | some y=>
     refine ⟨_,_,rfl,h3.stA (k:=0) rfl rfl (by simp) (Acccs_one y) fun w4 h4=>?_⟩
     have:=tail12 w4 n172 (Acccs y) hn172 h4 (by simp [hr])
     rw [hr] at this
     exact this
end Go.Fx.Tryz
namespace Go.Fx.Tryz
open Go Go.Fx Go.Fx.Mo
open Go.Proofs
variable {w0 w:World} {H:HL} {K:KT}
set_option maxRecDepth 20000
variable {D:DB} {G:HL} {n2 n72 n42 pb n4:Nat} {a:Mo.Acc} {e:Ev} {p:Pl}
abbrev keepH (l l':Nat) (o:Obj) (cb:Nat) (es5:Array MapEntry) (c5:Nat) (cs:List CB) (G:HL):List (Nat × Obj):=
 (l,o)::(l',.deferred (some []))::(cb,.map es5 c5)::(cellsH cs++G)
theorem keepH_mem {l l' cb:Nat} {o:Obj} {es5:Array MapEntry} {c5:Nat} {cs:List CB} {y:Nat × Obj} (h:y∈G):y∈keepH l l' o cb es5 c5 cs G:=.tail _ (.tail _ (.tail _ (List.mem_append_right _ h)))
theorem perm3 {a b c:Nat × Obj} {X Y Z G:HL} (h:X.Perm (Y++Z)):(a::b::c::(X++G)).Perm (Y++(a::b::c::(Z++G))):=by
 refine (List.Perm.append_left [a,b,c] (h.append_right G)).trans ?_
 have e1:[a,b,c]++(Y++Z++G)=([a,b,c]++Y)++(Z++G):=by simp
 have e2:Y++(a::b::c::(Z++G))=(Y++[a,b,c])++(Z++G):=by simp
 rw [e1,e2]
 exact List.perm_append_comm.append_right _
theorem remember_len (c:Cell) (a:Mo.Acc) (tk rel:Int):(c.remember a tk rel).l.length≤c.l.length+1:=by
 unfold Cell.remember
 simp only
 split <;> simp
theorem z142 (wq:World):(Instr.build 112 [].toArray).run P wq=.ok (.agg (cellCs ⟨0,0,.slice none 0 0,cell0,[]⟩).toArray) wq:=by kernel_rfl
theorem s17_eq (a1 a2 a3 a4 a5:Addr) (x:Int) (w:World) (l:Nat) (R:LoopState→Option Code→Loop) (post:Option Code→World→Prop):f7_s17 a1 a2 a3 a4 a5 x w l R post=f7_s18 a1 a2 a3 a4 (some a5) x w l R post:=by
 rw [f7_s17_eq,f7_s18_eq]
theorem det_rels {D:DB} (hT:ThOk D.d.th) {i:Nat} (hi:i < 8):(thCs D.d.th D.tob D.tnb++restCs D)[80+i]?=some (I64 (D.d.th.rels.getD i 0)):=thCs_rels hT hi
theorem keep_s18 {l l':Nat} {es5:Array MapEntry} {c5:Nat} {pre post':List CB} {x:CB} {Rr:LoopState→Option Code→Loop} {post:Option Code→World→Prop} (hG:GF G D n2 n72 n42 pb a e p) (hT:ThOk D.d.th) (hm6:MapIs encU D.es6 D.c6 (encM Value.bool D.d.told))
  (hlb:(D.lb,.map D.es6 D.c6)∈G) (h4:(n4,Cs (Evcs e) 45)∈G) (ht:0≤e.th∧e.th < 8) (ha:a.th=e.th)
  (h:St w0 w (keepH l l' (.loop (Rr .busy none)) D.cb es5 c5 (pre++x::post') G)) (hx:CBok w0 x) (hlen:x.c.l.length < 1900000000)
  (hpost:∀ w' y,y.byte=x.byte→y.addr=x.addr→y.c=(if (Mo.look D.d.told x.byte).getD false then x.c else x.c.remember a p.tk (at0 D.d.th.rels e.th))→CBok w0 y→
   St w0 w' (keepH l l' (.loop (Rr .ready none)) D.cb es5 c5 (pre++y::post') G)→post none w') :
  f7_s18 (Addr.mk n4 0 none) (Addr.mk n2 0 none) (Addr.mk n42 0 none) (Addr.mk n72 0 none) (some (Addr.mk x.addr 0 none)) x.byte w l Rr post:=by
 have c2:∀ {w':World},St w0 w' (keepH l l' (.loop (Rr .busy none)) D.cb es5 c5 (pre++x::post') G)→w'.cell? (Addr.mk n2 0 none)=some (ptr D.db):=fun h'=>by rw [cell_of (h'.has n2 _ (keepH_mem hG.g2))]; rfl
 rw [f7_s18_eq]
 refine ⟨_,c2 h,some D.lb,?_,_,fun wq hx=>lookup124 hm6 hx (h.has _ _ (keepH_mem hlb)) x.byte,?_⟩
 ·rw [add_lit',Nat.zero_add,cell_of (h.has D.db _ (keepH_mem hG.gdb)),show (93:Nat)=90+3 from rfl,det_rest hT]; rfl
 rw [BIf_iff]
 constructor
 ·intro htold
  have htold:(Mo.look D.d.told x.byte).getD false=false:=by simpa using htold
  have hd:=h.drew
  obtain ⟨pov,pob,pnb,pt,hpl⟩:=hG.gpl
  obtain ⟨t,hte,ht8⟩:∃ t:Nat,e.th=t∧t < 8:=⟨e.th.toNat,by omega,by omega⟩
  refine LdA_of (hd.has n72 _ (keepH_mem hG.g72)) (by simp [Acccs_len]) ?_
  refine ⟨some (Addr.mk pb 0 none),by rw [cell_of (hd.has n42 _ (keepH_mem hG.g42))]; rfl,p.tk,?_,_,c2 hd,e.th,?_,ht.1,by have:=ht.2; simpa using this,D.d.th.rels.getD t 0,?_,?_⟩
  ·rw [add_lit',Nat.zero_add,cell_of (hd.has pb _ (keepH_mem hpl))]; exact planCs_rest hG.own 0
  ·rw [add_lit',Nat.zero_add,cell_of (hd.has n4 _ (keepH_mem h4))]; rfl
  ·rw [hte,add_lit',add_lit',Int.toNat_natCast,Nat.mul_one,Nat.zero_add,cell_of (hd.has D.db _ (keepH_mem hG.gdb))]; exact det_rels hT ht8
  refine remember_ok (H:=(l,.loop (Rr .busy none))::(l',.deferred (some []))::(D.cb,.map es5 c5)::(cellsH (pre++post')++G)) (hd.perm (perm3 (cellsH_split pre post' x))) hx (by rw [ha]; exact ht) (by omega) p.tk (D.d.th.rels.getD t 0) fun w' y hya hyb hyc hyo h'=>⟨rfl,?_⟩
  have h'':St w0 w' (keepH l l' (.loop (Rr .busy none)) D.cb es5 c5 (pre++y::post') G):=h'.perm (perm3 (cellsH_split pre post' y)).symm
  refine ⟨h''.get (k:=0) rfl,hpost _ y hyb hya ?_ hyo (h''.put (k:=0) rfl _)⟩
  rw [htold,hyc,hte]
  simp [at0]
 ·intro htold
  have htold:(Mo.look D.d.told x.byte).getD false=true:=by simpa using htold
  refine ⟨h.get (k:=0) rfl,hpost _ x rfl rfl ?_ hx (h.put (k:=0) rfl _)⟩
  rw [htold]
  rfl
theorem put_self {pre post:List CB} {x:CB} (hn:((pre++x::post).map (·.byte)).Nodup):put (cellD (pre++x::post)) x.byte x.c=cellD (pre++x::post):=put_split hn rfl
theorem keep_round {l l':Nat} {es5:Array MapEntry} {c5:Nat} {cs:List CB} {N:Nat} {Rr:LoopState→Option Code→Loop} {post:Option Code→World→Prop} (hG:GF G D n2 n72 n42 pb a e p) (hT:ThOk D.d.th) (hm6:MapIs encU D.es6 D.c6 (encM Value.bool D.d.told))
  (hlb:(D.lb,.map D.es6 D.c6)∈G) (h4:(n4,Cs (Evcs e) 45)∈G) (ht:0≤e.th∧e.th < 8) (ha:a.th=e.th) (n6 n8 n90:Nat)
  (hm5:MapIs encU es5 c5 (cellM cs)) (each:∀ x∈cs,CBok w0 x∧x.c.l.length≤N) (hN:N < 1900000000) (b:Int)
  (h:St w0 w (keepH l l' (.loop (Rr .ready none)) D.cb es5 c5 cs G))
  (hpost:∀ w' es5' c5' cs',MapIs encU es5' c5' (cellM cs')→(∀ x∈cs',CBok w0 x∧x.c.l.length≤N+1)→(∀ r,keep a p.tk (at0 D.d.th.rels e.th) D.d.told (b::r) (cellD cs)=keep a p.tk (at0 D.d.th.rels e.th) D.d.told r (cellD cs'))→
   St w0 w' (keepH l l' (.loop (Rr .ready none)) D.cb es5' c5' cs' G)→post none w') :
  f7_ra15 (Addr.mk n4 0 none) (Addr.mk n2 0 none) (Addr.mk n42 0 none) (Addr.mk n72 0 none) (Addr.mk n6 0 none) (Addr.mk n8 0 none) (Addr.mk n90 0 none) b w l Rr post:=by
 rw [f7_ra15_eq]
 refine ⟨h.get (k:=0) rfl,?_⟩
 have h1:St w0 (w.putObj l (.loop (Rr .busy none))) (keepH l l' (.loop (Rr .busy none)) D.cb es5 c5 cs G):=h.put (k:=0) rfl _
 generalize w.putObj l (.loop (Rr .busy none))=w1 at h1
 have c2:∀ {w':World} {X:HL},St w0 w' (X++keepH l l' (.loop (Rr .busy none)) D.cb es5 c5 cs G)→w'.cell? (Addr.mk n2 0 none)=some (ptr D.db):=fun h'=>by rw [cell_of (h'.has n2 _ (List.mem_append_right _ (keepH_mem hG.g2)))]; rfl
 have cdb:∀ {w':World} {X:HL},St w0 w' (X++keepH l l' (.loop (Rr .busy none)) D.cb es5 c5 cs G)→w'.cell? (Addr.mk D.db 92 none)=some (.map (some D.cb)):=fun h'=>by
  rw [cell_of (h'.has D.db _ (List.mem_append_right _ (keepH_mem hG.gdb))),show (92:Nat)=90+2 from rfl,det_rest hT]; rfl
 have hnd:(cs.map (·.byte)).Nodup:=by have:=hm5.nodup; rwa [cellM_keys] at this
 rw [f7_s16_eq]
 refine ⟨_,c2 (X:=[]) h1,some D.cb,by rw [add_lit',Nat.zero_add]; exact cdb (X:=[]) h1,_,fun wq hx=>lookup123 hm5 hx (h1.get (k:=2) rfl) b,?_⟩
 cases hf:cs.find? fun x=>x.byte == b with
 | none=>
  have hlk:Mo.look (cellD cs) b=none:=by rw [lookD,hf]; rfl
  simp only [Option.map_none,Option.isNone_none,BIf_true]
  refine ⟨_,z142,?_⟩
  refine h1.newC fun n225 w2 hn h2=>?_
  refine ⟨_,c2 (X:=[_]) h2,some D.cb,by rw [add_lit',Nat.zero_add]; exact cdb (X:=[_]) h2,?_⟩
  obtain ⟨es',c',hr,hm'⟩:=hm5.update keyU mapType123 (w:=w2) (b:=D.cb) (h2.get (k:=3) rfl) b (ptr n225)
  refine ⟨_,hr,?_⟩
  have h3:St w0 (w2.putObj D.cb (.map es' c')) ((n225,Cs (cellCs ⟨0,0,.slice none 0 0,cell0,[]⟩) 112)::keepH l l' (.loop (Rr .busy none)) D.cb es' c' cs G):=h2.put (k:=3) rfl _
  let nx:CB:=⟨b,n225,.slice none 0 0,cell0,[]⟩
  have hnx:CBok w0 nx:=⟨SlO.nil 6 122,New.nil w0,by simp [nx,cell0],hn,by simp [nx,cell0]⟩
  have h4':St w0 (w2.putObj D.cb (.map es' c')) (keepH l l' (.loop (Rr .busy none)) D.cb es' c' (cs++nx::[]) G):=by
   refine h3.perm (List.Perm.symm ((perm3 (cellsH_split cs [] nx)).trans ?_))
   rw [List.append_nil]
   exact List.Perm.refl _
  have hm5':MapIs encU es' c' (cellM (cs++[nx])):=by
   have e:putM (cellM cs) b (ptr n225)=cellM (cs++[nx]):=by
    have hl:lookM (cellM cs) b=none:=by rw [lookMc,hf]; rfl
    unfold putM
    rw [hl]
    simp [cellM,nx]
   rw [e] at hm'
   exact hm'
  rw [s17_eq]
  refine keep_s18 (x:=nx) hG hT hm6 hlb h4 ht ha h4' hnx (by simp [nx,cell0]) fun w' y hyb hya hyc hyo h'=>?_
  have hyb:y.byte=b:=hyb
  refine hpost w' es' c' (cs++[y]) ?_ ?_ ?_ h'
  ·have e:cellM (cs++[y])=cellM (cs++[nx]):=by simp [cellM,hyb,hya,nx]
   rw [e]; exact hm5'
  ·intro z hz
   rcases List.mem_append.1 hz with hz | hz
   ·exact ⟨(each z hz).1,by have:=(each z hz).2; omega⟩
   ·simp at hz; subst hz
    refine ⟨hyo,?_⟩
    rw [hyc]
    split
    ·simp [nx,cell0]
    ·have:=remember_len nx.c a p.tk (at0 D.d.th.rels e.th)
     simp [nx,cell0] at this ⊢; omega
  ·intro r
   rw [keep_one,hlk]
   congr 1
   have hput:∀ c,put (cellD cs) b c=cellD cs++[(b,c)]:=fun c=>by simp [put,hlk]
   simp only [hput,Option.getD_none]
   have:cellD (cs++[y])=cellD cs++[(b,y.c)]:=by simp [cellD,hyb]
   rw [this,hyc]
   show _=cellD cs++[(b,if (Mo.look D.d.told b).getD false then cell0 else cell0.remember a p.tk (at0 D.d.th.rels e.th))]
   split <;> rfl
 | some x=>
  obtain ⟨hxb,pre,post',hsp⟩:=find_split hf
  have hxm:x∈cs:=List.mem_of_find?_eq_some hf
  have hlk:Mo.look (cellD cs) b=some x.c:=by rw [lookD,hf]; rfl
  simp only [Option.map_some,Option.isNone_some,BIf_false]
  subst hxb
  rw [hsp] at h1 hnd
  refine keep_s18 (x:=x) hG hT hm6 hlb h4 ht ha h1 (each x hxm).1 (by have:=(each x hxm).2; omega) fun w' y hyb hya hyc hyo h'=>?_
  refine hpost w' es5 c5 (pre++y::post') ?_ ?_ ?_ h'
  ·have e:cellM (pre++y::post')=cellM cs:=by rw [hsp]; simp [cellM,hyb,hya]
   rw [e]; exact hm5
  ·intro z hz
   have hin:∀ z,z∈pre∨z∈post'→CBok w0 z∧z.c.l.length≤N+1:=fun z hz=>by
    have hz':z∈cs:=by rw [hsp]; rcases hz with hz | hz <;> simp [hz]
    exact ⟨(each z hz').1,by have:=(each z hz').2; omega⟩
   simp only [List.mem_append,List.mem_cons] at hz
   rcases hz with hz | rfl | hz
   ·exact hin z (.inl hz)
   ·refine ⟨hyo,?_⟩
    have h1:=(each x hxm).2
    rw [hyc]
    split
    ·omega
    ·have:=remember_len x.c a p.tk (at0 D.d.th.rels e.th)
     omega
   ·exact hin z (.inr hz)
  ·intro r
   rw [keep_one,hlk]
   congr 1
   have e:=put_split (y:=y) hnd hyb
   simp only [Option.getD_some]
   rw [← e,hsp]
   split
   ·rename_i ht'
    rw [hyc,if_pos ht',put_self hnd]
   ·rename_i ht'
    rw [hyc,if_neg ht']
abbrev tellH (lb:Nat) (es6:Array MapEntry) (c6:Nat) (cs:List CB) (G:HL):List (Nat × Obj):=(lb,.map es6 c6)::(cellsH cs++G)
theorem tellH_mem {lb:Nat} {es6:Array MapEntry} {c6:Nat} {cs:List CB} {y:Nat × Obj} (h:y∈G):y∈tellH lb es6 c6 cs G:=.tail _ (List.mem_append_right _ h)
theorem perm2 {a b:Nat × Obj} {X Y Z G:HL} (h:X.Perm (Y++Z)):(a::b::(X++G)).Perm (Y++(a::b::(Z++G))):=by
 refine (List.Perm.append_left [a,b] (h.append_right G)).trans ?_
 have e1:[a,b]++(Y++Z++G)=([a,b]++Y)++(Z++G):=by simp
 have e2:Y++(a::b::(Z++G))=(Y++[a,b])++(Z++G):=by simp
 rw [e1,e2]
 exact List.perm_append_comm.append_right _
theorem Racecs_len (r:Mo.Race):(Racecs r).length=11:=rfl
theorem z47:zcells P 108=#[.int .u32 0,I64 0,I64 0,.int .u32 0,.bool false,.bool false,I64 0,I64 0,.int .u32 0,.bool false,.bool false]:=by kernel_rfl
def clear (x:CB):CB:={ x with ov:=.slice none 0 0,c:={ x.c with l:=[] },L:=[] }
theorem clear_ok {x:CB} (h:CBok w0 x):CBok w0 (clear x):=⟨SlO.nil 6 122,New.nil w0,h.last,h.na,by simp [clear]⟩
theorem tell_step {es5:Array MapEntry} {c5:Nat} {es6:Array MapEntry} {c6 i:Nat} {cs:List CB} {told:List (Int × Bool)} {out:List Mo.Race} {ov:Value} {sa:Option Addr} {sc:Nat} {Lo:HL} {d:List Deferred} {n6 n8 n90:Nat} {Y:YT}
  (g2:(n2,Cs [ptr D.db] 25)∈G) (gdb:(D.db,Cs (thCs D.d.th D.tob D.tnb++restCs D) 37)∈G) (hT:ThOk D.d.th) (gcb:(D.cb,.map es5 c5)∈G)
  (hLo:SlO 11 108 ov out.length (racesCs out) Lo) (hov:ov=.slice sa out.length sc) (hLG:∀ y∈Lo,y∈G)
  (hm5:MapIs encU es5 c5 (cellM cs)) (hm6:MapIs encU es6 c6 (encM Value.bool told)) (h:St w0 w (tellH D.lb es6 c6 cs G)) (hi:i < out.length) (each:∀ x∈cs,CBok w0 x)
  {x:CB} (hx:(cs.find? fun x=>x.byte == out[i].byte)=some x)
  (hK:∀ w' es6' c6' pre post',cs=pre++x::post'→MapIs encU es6' c6' (encM Value.bool (put told out[i].byte true))→St w0 w' (tellH D.lb es6' c6' (pre++clear x::post') G)→
   Y (Env.mk 201 [(168,(Value.int .i64 (IntKind.wrap .i64 ((i:Int)+1)))),(2,(ptr n2)),(166,(Value.slice sa out.length sc)),(4,(ptr n6)),(5,(ptr n8)),(13,(ptr n90)),(6,(ptr n42)),(167,(Value.int .i64 out.length))] d) w') :
  f7_s21 (Addr.mk n2 0 none) sa out.length sc (Addr.mk n6 0 none) (Addr.mk n8 0 none) (Addr.mk n90 0 none) (Addr.mk n42 0 none) out.length i d w K Y:=by
 rw [f7_s21_eq]
 have hsl:((racesCs out).drop (i * 11)).take 11=Racecs out[i]:=flat_slice (f:=Racecs) (fun x _=>Racecs_len x) hi
 obtain ⟨g,cc,hg,hld⟩:=slO_ldA hLo (w:=w) (i:=i) (fun y hy=>h.has _ _ (tellH_mem (hLG y hy))) hi
 rw [hov] at hg
 obtain ⟨hsa,-⟩:sa=some ⟨g,0,none⟩∧sc=cc:=by simpa using hg
 subst hsa
 refine ⟨by omega,by omega,hld _ ?_⟩
 rw [hsl,z47]
 refine h.newC fun n296 w2 hn h2=>h2.stA (k:=0) rfl rfl (by simp) (by simpa using Racecs_one out[i]) fun w3 h3=>?_
 have h3:St w0 w3 ((n296,Cs (Racecs out[i]) 108)::tellH D.lb es6 c6 cs G):=h3
 have hd:=h3.drew
 have c2:∀ {w':World} {X:HL} {es6 c6},St w0 w' (X++tellH D.lb es6 c6 cs G)→w'.cell? (Addr.mk n2 0 none)=some (ptr D.db):=fun h'=>by rw [cell_of (h'.has n2 _ (List.mem_append_right _ (tellH_mem g2)))]; rfl
 have cdb:∀ {w':World} {X:HL} {es6 c6} (j:Nat),St w0 w' (X++tellH D.lb es6 c6 cs G)→w'.cell? (Addr.mk D.db (90+j) none)=(restCs D)[j]?:=fun j h'=>by
  rw [cell_of (h'.has D.db _ (List.mem_append_right _ (tellH_mem gdb))),det_rest hT]
 refine ⟨_,c2 (X:=[_]) hd,some D.lb,by rw [add_lit',Nat.zero_add]; exact cdb (X:=[_]) 3 hd,out[i].byte,by rw [hd.cell (k:=0) rfl]; rfl,?_⟩
 obtain ⟨es',c',hr,hm'⟩:=hm6.update keyU mapType124 (w:=w3.drew) (b:=D.lb) (hd.get (k:=1) rfl) out[i].byte (.bool true)
 rw [putM_map] at hm'
 refine ⟨_,hr,?_⟩
 have h4:St w0 (w3.drew.putObj D.lb (.map es' c')) ((n296,Cs (Racecs out[i]) 108)::tellH D.lb es' c' cs G):=hd.put (k:=1) rfl _
 generalize w3.drew.putObj D.lb (.map es' c')=w4 at h4
 rw [f7_s22_eq]
 have hd4:=h4.drew
 refine ⟨_,c2 (X:=[_]) hd4,some D.cb,by rw [add_lit',Nat.zero_add]; exact cdb (X:=[_]) 2 hd4,out[i].byte,by rw [hd4.cell (k:=0) rfl]; rfl,_,fun wq hx=>lookup123 hm5 hx (hd4.has _ _ (.tail _ (tellH_mem gcb))) out[i].byte,?_⟩
 rw [hx]
 obtain ⟨hxb,pre,post',hsp⟩:=find_split hx
 have hxo:=each x (List.mem_of_find?_eq_some hx)
 have h5:St w0 w4.drew (cbH x++((n296,Cs (Racecs out[i]) 108)::(D.lb,.map es' c')::(cellsH (pre++post')++G))):=by
  rw [hsp] at hd4
  exact hd4.perm (perm2 (cellsH_split pre post' x))
 show St1 (Addr.mk x.addr 0 none) _ _ _
 refine h5.st1 (k:=0) (cs:=cellCs x) rfl (by simp [cellCs]) rfl fun w6 h6=>?_
 rw [f7_s23_eq]
 refine hK w6 es' c' pre post' hsp hm' ?_
 have h6:St w0 w6 ((x.addr,Cs ((cellCs x).set 0 (.slice none 0 0)) 112)::(x.L++((n296,Cs (Racecs out[i]) 108)::(D.lb,.map es' c')::(cellsH (pre++post')++G)))):=h6
 have h7:St w0 w6 (x.L++((x.addr,Cs ((cellCs x).set 0 (.slice none 0 0)) 112)::(n296,Cs (Racecs out[i]) 108)::(D.lb,.map es' c')::(cellsH (pre++post')++G))):=h6.perm List.perm_middle.symm
 have h8:=h7.sub hxo.new
 have h9:St w0 w6 ((n296,Cs (Racecs out[i]) 108)::tellH D.lb es' c' (pre++clear x::post') G):=by
  refine h8.perm (List.Perm.symm ((perm2 (cellsH_split pre post' (clear x))).trans ?_))
  exact List.Perm.refl _
 exact h9.tail hn
theorem tell_loop {es5:Array MapEntry} {c5:Nat} {es6:Array MapEntry} {c6:Nat} {cs:List CB} {told:List (Int × Bool)} {out:List Mo.Race} {ov:Value} {sa:Option Addr} {sc:Nat} {Lo:HL} {d:List Deferred} {n6 n8 n90:Nat} {N:Nat}
  (g2:(n2,Cs [ptr D.db] 25)∈G) (gdb:(D.db,Cs (thCs D.d.th D.tob D.tnb++restCs D) 37)∈G) (hT:ThOk D.d.th) (gcb:(D.cb,.map es5 c5)∈G)
  (hLo:SlO 11 108 ov out.length (racesCs out) Lo) (hov:ov=.slice sa out.length sc) (hLG:∀ y∈Lo,y∈G) (hlen:out.length < 1000000)
  (hm5:MapIs encU es5 c5 (cellM cs)) (hm6:MapIs encU es6 c6 (encM Value.bool told)) (h:St w0 w (tellH D.lb es6 c6 cs G)) (each:∀ x∈cs,CBok w0 x∧x.c.l.length≤N)
  (hx:∀ r∈out,(cs.find? fun x=>x.byte == r.byte).isSome=true)
  (hK:∀ w' es6' c6' cs' told',tell out (cellD cs) told=(cellD cs',told')→MapIs encU es5 c5 (cellM cs')→MapIs encU es6' c6' (encM Value.bool told')→(∀ x∈cs',CBok w0 x∧x.c.l.length≤N)→St w0 w' (tellH D.lb es6' c6' cs' G)→
   f7_s24 (Addr.mk n6 0 none) (Addr.mk n8 0 none) (Addr.mk n90 0 none) (Addr.mk n2 0 none) (Addr.mk n42 0 none) d w' K) :
  LoopE (f7_lp20 K) (Env.mk 201 [(168,(Value.int .i64 0)),(2,(ptr n2)),(166,(Value.slice sa out.length sc)),(4,(ptr n6)),(5,(ptr n8)),(13,(ptr n90)),(6,(ptr n42)),(167,(Value.int .i64 out.length))] d) w:=by
 refine ⟨fun m e w=>∃ (i:Nat) (es6':Array MapEntry) (c6':Nat) (cs':List CB) (told':List (Int × Bool)),i≤out.length∧m=out.length - i∧
  e=Env.mk 201 [(168,(Value.int .i64 i)),(2,(ptr n2)),(166,(Value.slice sa out.length sc)),(4,(ptr n6)),(5,(ptr n8)),(13,(ptr n90)),(6,(ptr n42)),(167,(Value.int .i64 out.length))] d∧
  tell out (cellD cs) told=tell (out.drop i) (cellD cs') told'∧MapIs encU es5 c5 (cellM cs')∧MapIs encU es6' c6' (encM Value.bool told')∧(∀ x∈cs',CBok w0 x∧x.c.l.length≤N)∧cs'.map (·.byte)=cs.map (·.byte)∧St w0 w (tellH D.lb es6' c6' cs' G),
  ⟨out.length,0,es6,c6,cs,told,by omega,rfl,rfl,rfl,hm5,hm6,each,rfl,h⟩,?_⟩
 rintro m e w ⟨i,es6',c6',cs',told',hi,rfl,rfl,htell,hm5',hm6',each',hkeys,hw⟩
 show f7_lb20 ..
 rw [f7_lb20_eq,BIf_iff]
 constructor
 ·intro hlt
  have hlt:i < out.length:=by simpa using hlt
  have hfind:∃ x,(cs'.find? fun x=>x.byte == out[i].byte)=some x:=by
   have h1:=hx out[i] (List.getElem_mem hlt)
   cases hf:cs'.find? fun x=>x.byte == out[i].byte with
   | some x=>exact ⟨x,rfl⟩
   | none=>
    obtain ⟨y,hy⟩:=Option.isSome_iff_exists.1 h1
    have hyb:out[i].byte∈cs.map (·.byte):=List.mem_map.2 ⟨y,List.mem_of_find?_eq_some hy,by simpa using List.find?_some hy⟩
    rw [← hkeys] at hyb
    obtain ⟨z,hz,hzb⟩:=List.mem_map.1 hyb
    have:=List.find?_eq_none.1 hf z hz
    simp [hzb] at this
  obtain ⟨x,hxf⟩:=hfind
  refine tell_step (es5:=es5) (c5:=c5) g2 gdb hT gcb hLo hov hLG hm5' hm6' hw hlt (fun x hx=>(each' x hx).1) hxf fun w' es6'' c6'' pre post' hsp hm6'' h'=>?_
  refine ⟨out.length - (i+1),by omega,i+1,es6'',c6'',pre++clear x::post',put told' out[i].byte true,by omega,rfl,?_,?_,?_,hm6'',?_,?_,h'⟩
  ·rw [wrap_i64 (by omega) (by omega)]; rfl
  ·obtain ⟨hxb,-,-,-⟩:=find_split hxf
   have hnd:((pre++x::post').map (·.byte)).Nodup:=by have:=hm5'.nodup; rwa [cellM_keys,hsp] at this
   rw [htell,List.drop_eq_getElem_cons hlt,tell,← put_split (y:=clear x) hnd rfl,hxb,← hsp]
   have hl:Mo.look (cellD cs') out[i].byte=some x.c:=by rw [lookD,hxf]; rfl
   rw [hl]
   rfl
  ·have e:cellM (pre++clear x::post')=cellM cs':=by rw [hsp]; simp [cellM,clear]
   rw [e]; exact hm5'
  ·intro z hz
   have hin:∀ z,z∈pre∨z∈post'→CBok w0 z∧z.c.l.length≤N:=fun z hz=>each' z (by rw [hsp]; rcases hz with hz | hz <;> simp [hz])
   simp only [List.mem_append,List.mem_cons] at hz
   rcases hz with hz | rfl | hz
   ·exact hin z (.inl hz)
   ·exact ⟨clear_ok (each' x (List.mem_of_find?_eq_some hxf)).1,by simp [clear]⟩
   ·exact hin z (.inr hz)
  ·rw [← hkeys,hsp]; simp [clear]
 ·intro hge
  have:i=out.length:=by simp at hge; omega
  subst this
  rw [List.drop_length] at htell
  exact hK w es6' c6' cs' told' htell hm5' hm6' each' hw
end Go.Fx.Tryz
namespace Go.Fx.Mo
def Same (p q:Pl):Prop:=q.fork=p.fork∧q.ends=p.ends
theorem Same.refl (p:Pl):Same p p:=⟨rfl,rfl⟩
theorem Same.trans {p q r:Pl} (h1:Same p q) (h2:Same q r):Same p r:=⟨h2.1.trans h1.1,h2.2.trans h1.2⟩
theorem tick_same (e:Ev) (p:Pl) (o:Ord):Same p (tick e p o):=⟨rfl,rfl⟩
theorem number_same (T:Th) (p:Pl) (x:Ob):Same p (number T p x).2:=by
 unfold number
 split
 ·exact .refl p
 ·split
  ·exact .refl p
  ·exact ⟨rfl,rfl⟩
theorem acquire_same (T:Th) (p:Pl) (x:Ob):Same p (acquire T p x):=⟨rfl,rfl⟩
theorem release_same (T:Th) (p:Pl) (x:Ob):Same p (release T p x):=⟨rfl,rfl⟩
theorem atomic1_same (T:Th) (e:Ev) (x:Ob) (p:Pl):Same p (atomic1 T e x p):=
 (((number_same T p x).trans (acquire_same T _ x)).trans (tick_same e _ _)).trans (release_same T _ x)
theorem atomicL_same (T:Th) (e:Ev):∀ (l:List Int) (x:Ob) (p:Pl),Same p (atomicL T e l x p)
 | [],_,p=>.refl p
 | a::r,last,p=>by
  unfold atomicL
  simp only
  split
  ·exact atomicL_same T e r last p
  ·exact (atomic1_same T e _ p).trans (atomicL_same T e r _ _)
theorem act_fork {T:Th} {e:Ev} {p:Pl} (hf:p.fork < 8) (he:p.ends < 8):(act T e p).fork < 8∧(act T e p).ends < 8:=by
 have key:∀ {q},Same p q→q.fork < 8∧q.ends < 8:=fun h=>by rw [h.1,h.2]; exact ⟨hf,he⟩
 unfold act
 split
 ·exact key (atomicL_same T e _ _ p)
 ·split
  ·unfold spawn
   split
   ·exact ⟨hf,he⟩
   ·rename_i h
    simp only [Bool.or_eq_true,not_or] at h
    have:otherIs e=true:=by simpa using h.1
    simp [otherIs] at this
    exact ⟨this.2,he⟩
  ·split
   ·unfold join
    split
    ·exact ⟨hf,he⟩
    ·rename_i h
     simp only [Bool.or_eq_true,not_or] at h
     have:otherIs e=true:=by simpa using h.1.1.1
     simp [otherIs] at this
     exact ⟨hf,this.2⟩
   ·split
    ·unfold lock
     exact key (((number_same T p _).trans (acquire_same T _ _)).trans (tick_same e _ _))
    ·split
     ·unfold unlock
      exact key (((number_same T p _).trans (tick_same e _ _)).trans (release_same T _ _))
     ·exact ⟨hf,he⟩
theorem plan_fork {T:Th} {e:Ev} {q:Pl} (h:plan T e=some q):q.fork < 8∧q.ends < 8:=by
 unfold plan at h
 split at h
 ·cases h
 ·split at h
  ·cases h
  ·cases h; exact act_fork (by simp [pl0]) (by simp [pl0])
end Go.Fx.Mo
namespace Go.Fx
open Go
theorem perm_by {l l':HL} (h:∀ c:Nat × Obj→Nat,(l.map c).sum=(l'.map c).sum):l.Perm l':=by
 classical
 rw [List.perm_iff_count]
 intro a
 have e:∀ l:List (Nat × Obj),l.count a=(l.map fun y=>if y == a then 1 else 0).sum:=by
  intro l
  induction l with
  | nil=>rfl
  | cons x r ih=>rw [List.count_cons,List.map_cons,List.sum_cons,ih]; omega
 rw [e,e]
 exact h _
namespace Tryz
open Go Go.Fx Go.Fx.Mo
open Go.Proofs
variable {w0 w:World} {H:HL} {K:KT}
set_option maxRecDepth 20000
variable {D:DB} {n2 n72 n42 pb n4 n6 n8 n90:Nat} {e:Ev}
abbrev nilS:Value:=.slice none 0 0
theorem leave_25 (v200 v199 v198 v197 v196 v195 v194 v193:Value) (a4 a5:Addr) (r:List (Nat × Value)) (d0:List Deferred) (w:World) (K:KT) :
  LeaveS P rs7 (Env.mk 201 ((200,v200)::(199,v199)::(198,v198)::(197,v197)::(196,v196)::(195,v195)::(194,v194)::(193,v193)::(4,(Value.pointer (some a4)))::(5,(Value.pointer (some a5)))::r) d0) K [] w =
   (∃ (sa:Option Addr) (sl sc:Nat),w.cell? a4=some (Value.slice sa sl sc)∧∃ x:Int,w.cell? a5=some (Value.int .i64 x)∧K (Value.tuple [(Value.slice sa sl sc),(Value.int .i64 x)].toArray) w):=by kernel_rfl
theorem leave_13 (v0 v1 v2 v3 v4 v5 v6 v7 v8 v9:Value) (a4 a5:Addr) (r:List (Nat × Value)) (d0:List Deferred) (w:World) (K:KT) :
  LeaveS P rs7 (Env.mk 201 ((122,v0)::(122,v1)::(121,v2)::(120,v3)::(119,v4)::(118,v5)::(117,v6)::(116,v7)::(115,v8)::(114,v9)::(4,(Value.pointer (some a4)))::(5,(Value.pointer (some a5)))::r) d0) K [] w =
   (∃ (sa:Option Addr) (sl sc:Nat),w.cell? a4=some (Value.slice sa sl sc)∧∃ x:Int,w.cell? a5=some (Value.int .i64 x)∧K (Value.tuple [(Value.slice sa sl sc),(Value.int .i64 x)].toArray) w):=by kernel_rfl
theorem leave_rr7 (a4 a5:Addr) (r:List (Nat × Value)) (d0:List Deferred) (w:World) (K:KT) :
  LeaveS P rs7 (Env.mk 201 ((5,(Value.pointer (some a5)))::(4,(Value.pointer (some a4)))::r) d0) K [] w =
   (∃ (sa:Option Addr) (sl sc:Nat),w.cell? a4=some (Value.slice sa sl sc)∧∃ x:Int,w.cell? a5=some (Value.int .i64 x)∧K (Value.tuple [(Value.slice sa sl sc),(Value.int .i64 x)].toArray) w):=by kernel_rfl
abbrev planB (D:DB) (e:Ev) (pb ob nb:Nat):PB:=⟨pb,ob,nb,D.db,D.tob,D.tnb,106,37,e,D.d.th,restCs D,D.es3,D.c3,D.es4,D.c4⟩
theorem restCs_set {T:Th} (hT:ThOk T) {tob tnb:Nat} {D D':DB} (x:Int) (h:restCs D'=[.bool true,I64 x,.map (some D.cb),.map (some D.lb)]):(thCs T tob tnb++restCs D).set 91 (I64 x)=thCs T tob tnb++restCs D':=by
 have hl:=thCs_len (ob:=tob) (nb:=tnb) hT
 rw [List.set_append_right _ _ (by omega),hl,h]
 rfl
def grown (D:DB) (T:Th) (es3:Array MapEntry) (c3:Nat) (es4:Array MapEntry) (c4:Nat) (es5:Array MapEntry) (c5:Nat) (es6:Array MapEntry) (c6:Nat) (cs:List CB) (told:List (Int × Bool)):DB:=
 ⟨D.db,D.tob,D.tnb,D.cb,D.lb,es3,c3,es4,c4,es5,c5,es6,c6,{ th:=T,many:=w64 (D.d.many+1),cells:=cellD cs,told },cs⟩
theorem feed_s24 {q:Pl} {ob nb l1 l2:Nat} {sa:Option Addr} {sl sc:Nat} {Z J:HL}
  (h:PS w0 w (planB D e pb ob nb) ((l2,.deferred (some []))::(l1,.deferred (some []))::(n6,Cs [nilS] 39)::(n8,Cs [I64 0] 40)::(n90,Cs [.slice sa sl sc] 39)::(n2,Cs [ptr D.db] 25)::(n42,Cs [ptr pb] 91)::(J++Z)) q)
  (hB:PBok (planB D e pb ob nb)) (hf:q.fork < 8∧q.ends < 8) (hnew:∀ x∈[l2,l1,n6,n8,n90,n2,n42,pb,ob,nb],w0.heap.size≤x) (hJ:New w0 J)
  (hK:∀ w' es3 c3 es4 c4,ThOk (perform D.d.th e q)→MapIs encO es3 c3 (encM encC (perform D.d.th e q).objs)→MapIs encO es4 c4 (encM encI (perform D.d.th e q).names)→
   St w0 w' ((D.db,Cs (thCs (perform D.d.th e q) D.tob D.tnb++[.bool true,I64 (w64 (D.d.many+1)),.map (some D.cb),.map (some D.lb)]) 37)::(D.tob,.map es3 c3)::(D.tnb,.map es4 c4)::Z)→K (.tuple [.slice sa sl sc,I64 0].toArray) w') :
  f7_s24 (Addr.mk n6 0 none) (Addr.mk n8 0 none) (Addr.mk n90 0 none) (Addr.mk n2 0 none) (Addr.mk n42 0 none) [mk l2,mk l1] w K:=by
 rw [f7_s24_eq]
 have hd:=h.drew
 refine ⟨some (Addr.mk D.db 0 none),by rw [cell_of (hd.get (k:=5) rfl)]; rfl,some (Addr.mk pb 0 none),by rw [cell_of (hd.get (k:=6) rfl)]; rfl,?_⟩
 refine perform_ps (B:=planB D e pb ob nb) hd hB hf.1 hf.2 fun w1 es3 c3 es4 c4 h1 hB1=>⟨rfl,?_⟩
 have hs:=h1.forget (hnew pb (by simp)) (hnew ob (by simp)) (hnew nb (by simp))
 have hs:St w0 w1 ((D.db,Cs (thCs (perform D.d.th e q) D.tob D.tnb++restCs D) 37)::(D.tob,.map es3 c3)::(D.tnb,.map es4 c4)::(l2,.deferred (some []))::(l1,.deferred (some []))::(n6,Cs [nilS] 39)::(n8,Cs [I64 0] 40)::(n90,Cs [.slice sa sl sc] 39)::(n2,Cs [ptr D.db] 25)::(n42,Cs [ptr pb] 91)::(J++Z)):=hs
 have hT:=hB1.th
 have hT:ThOk (perform D.d.th e q):=hT
 rw [f7_s25_eq]
 have hlen:=thCs_len (ob:=D.tob) (nb:=D.tnb) hT
 refine ⟨some (Addr.mk D.db 0 none),by rw [hs.cell (k:=8) rfl]; rfl,D.d.many,?_,?_⟩
 ·rw [add_lit',Nat.zero_add,hs.cell (k:=0) rfl,List.getElem?_append_right (by omega),hlen]; rfl
 show St1 ((Addr.mk D.db 0 none).add 91) _ _ _
 rw [add_lit',Nat.zero_add]
 refine hs.st1 (k:=0) rfl (by rw [List.length_append,hlen]; simp [restCs]) rfl fun w2 h2=>?_
 rw [restCs_set (D:=D) (D':=grown D (perform D.d.th e q) es3 c3 es4 c4 D.es5 D.c5 D.es6 D.c6 D.cs D.d.told) hT (IntKind.wrap .i64 (D.d.many+1)) rfl] at h2
 refine ⟨sa,sl,sc,by rw [h2.cell (k:=7) rfl]; rfl,?_⟩
 refine h2.st1 (k:=5) rfl (by simp) rfl fun w3 h3=>h3.st1 (k:=6) rfl (by simp) rfl fun w4 h4=>?_
 refine ⟨h4.get (k:=3) rfl,?_⟩
 have h5:=h4.put (k:=3) rfl (.deferred none)
 refine ⟨h5.get (k:=4) rfl,?_⟩
 have h6:=h5.put (k:=4) rfl (.deferred none)
 rw [leave_25]
 refine ⟨sa,sl,sc,by rw [h6.cell (k:=5) rfl]; rfl,0,by rw [h6.cell (k:=6) rfl]; rfl,?_⟩
 refine hK _ es3 c3 es4 c4 hT hB1.m3 hB1.m4 ?_
 refine St.sub (L:=(l2,.deferred none)::(l1,.deferred none)::(n6,Cs [.slice sa sl sc] 39)::(n8,Cs [I64 0] 40)::(n90,Cs [.slice sa sl sc] 39)::(n2,Cs [ptr D.db] 25)::(n42,Cs [ptr pb] 91)::J) (h6.perm ?_) ?_
 ·refine perm_by fun c=>?_
  simp only [List.map_append,List.map_cons,List.sum_append,List.sum_cons,List.set_cons_succ,List.set_cons_zero]
  have:restCs (grown D (perform D.d.th e q) es3 c3 es4 c4 D.es5 D.c5 D.es6 D.c6 D.cs D.d.told)=[.bool true,I64 (w64 (D.d.many+1)),.map (some D.cb),.map (some D.lb)]:=rfl
  rw [this]
  simp only [I64,Cs]
  omega
 ·intro x hx
  simp only [List.mem_cons] at hx
  rcases hx with rfl | rfl | rfl | rfl | rfl | rfl | rfl | hx
  ·exact hnew l2 (by simp)
  ·exact hnew l1 (by simp)
  ·exact hnew n6 (by simp)
  ·exact hnew n8 (by simp)
  ·exact hnew n90 (by simp)
  ·exact hnew n2 (by simp)
  ·exact hnew n42 (by simp)
  ·exact hJ x hx
end Tryz
end Go.Fx
namespace Go.Fx.Tryz
open Go Go.Fx Go.Fx.Mo
open Go.Proofs
variable {w0 w:World} {H:HL} {K:KT}
set_option maxRecDepth 20000
variable {D:DB} {n2 n72 n42 pb ob nb n4 n6 n8 n90 l1 l2:Nat} {e:Ev} {q:Pl} {a:Mo.Acc} {F R0 Lo J:HL} {out:List Mo.Race} {ov:Value}
abbrev dfr:Obj:=.deferred (some [])
theorem run_len_25 {p:Option Addr} {l c:Nat} (wq:World):(Builtin.len_ #[39] 3 [Value.slice p l c].toArray).run P wq=.ok (.int .i64 l) wq:=run_len_slice p l c Tryz.underlying39 3
structure Fr (w0:World) (D:DB) (e:Ev) (q:Pl) (pb ob nb:Nat) (F:HL):Prop where
 plan:plan D.d.th e=some q
 pl:∃ ov ob nb,(pb,Cs (planCs D.db e ov ob nb q) 106)∈F
 db:(D.db,Cs (thCs D.d.th D.tob D.tnb++restCs D) 37)∈F
 own:q.own.length=8
 back:∀ w' R',St w0 w' (R'++F)→PS w0 w' (planB D e pb ob nb) R' q
 npb:w0.heap.size≤pb
 nob:w0.heap.size≤ob
 nnb:w0.heap.size≤nb
theorem Fr.planB {w0:World} (hF:Fr w0 D e q pb ob nb F) (hD:DBok w0 D):PBok (planB D e pb ob nb):=⟨hD.th,hD.m3,hD.m4,by obtain ⟨_,_,t1,t2,_⟩:=refused_kind (plan_refused hF.plan); exact ⟨t1,t2⟩⟩
def G3 (D:DB) (es5:Array MapEntry) (c5:Nat) (l1 l2 n6 n8 n90 n2 n42 pb:Nat) (ov:Value) (J Lo R0 F:HL):List (Nat × Obj):=
 (D.cb,.map es5 c5)::(l2,dfr)::(l1,dfr)::(n6,Cs [nilS] 39)::(n8,Cs [I64 0] 40)::(n90,Cs [ov] 39)::(n2,Cs [ptr D.db] 25)::(n42,Cs [ptr pb] 91)::(J++(Lo++(R0++F)))
theorem feed_s19 {es5:Array MapEntry} {c5 N:Nat} {cs:List CB} (hF:Fr w0 D e q pb ob nb F) (hD:DBok w0 D) (hnew:∀ x∈[l2,l1,n6,n8,n90,n2,n42],w0.heap.size≤x) (hJ:New w0 J)
  (hLo:SlO 11 108 ov out.length (racesCs out) Lo) (hlen:out.length < 1000000) (hm5:MapIs encU es5 c5 (cellM cs)) (each:∀ x∈cs,CBok w0 x∧x.c.l.length≤N) (hN:(N:Int)≤65536 * (D.d.many+1)) (hmany:D.d.many < 20000)
  (hx:∀ r∈out,(cs.find? fun x=>x.byte == r.byte).isSome=true)
  (h:St w0 w (tellH D.lb D.es6 D.c6 cs (G3 D es5 c5 l1 l2 n6 n8 n90 n2 n42 pb ov J Lo R0 F)))
  (hK:∀ w' D',D'.d={ th:=perform D.d.th e q,many:=w64 (D.d.many+1),cells:=(tell out (cellD cs) D.d.told).1,told:=(tell out (cellD cs) D.d.told).2 }→DBok w0 D'→D'.db=D.db→St w0 w' (detH D'++(Lo++R0))→K (.tuple [ov,I64 0].toArray) w') :
  f7_s19 (Addr.mk n2 0 none) (Addr.mk n6 0 none) (Addr.mk n8 0 none) (Addr.mk n90 0 none) (Addr.mk n42 0 none) [mk l2,mk l1] w K:=by
 rw [f7_s19_eq]
 obtain ⟨sa,sc,hov⟩:=hLo.form
 have g90:(n90,Cs [ov] 39)∈G3 D es5 c5 l1 l2 n6 n8 n90 n2 n42 pb ov J Lo R0 F:=by simp [G3]
 refine ⟨sa,out.length,sc,by rw [cell_of (h.has n90 _ (tellH_mem g90)),hov]; rfl,out.length,fun wq _=>run_len_25 wq,?_⟩
 have hmem:∀ y,y∈Lo∨y∈F→y∈G3 D es5 c5 l1 l2 n6 n8 n90 n2 n42 pb ov J Lo R0 F:=fun y hy=>by rcases hy with hy | hy <;> simp [G3,hy]
 refine tell_loop (G:=G3 D es5 c5 l1 l2 n6 n8 n90 n2 n42 pb ov J Lo R0 F) (by simp [G3]) (hmem _ (.inr hF.db)) hD.th (by simp [G3]) hLo hov (fun y hy=>hmem y (.inl hy)) hlen hm5 hD.m6 h each hx
  fun w1 es6' c6' cs' told' htell hm5' hm6' each' h1=>?_
 have hp:PS w0 w1 (planB D e pb ob nb) ((l2,dfr)::(l1,dfr)::(n6,Cs [nilS] 39)::(n8,Cs [I64 0] 40)::(n90,Cs [.slice sa out.length sc] 39)::(n2,Cs [ptr D.db] 25)::(n42,Cs [ptr pb] 91)::
   (J++((D.cb,.map es5 c5)::(D.lb,.map es6' c6')::(cellsH cs'++(Lo++R0))))) q:=by
  refine hF.back w1 _ (h1.perm (perm_by fun c=>?_))
  simp only [tellH,G3,hov,List.map_append,List.map_cons,List.sum_append,List.sum_cons]
  omega
 refine feed_s24 (Z:=(D.cb,.map es5 c5)::(D.lb,.map es6' c6')::(cellsH cs'++(Lo++R0))) hp (hF.planB hD) (plan_fork hF.plan) ?_ hJ fun w2 es3 c3 es4 c4 hT hm3 hm4 h2=>?_
 ·intro x hx
  simp only [List.mem_cons,List.not_mem_nil,or_false] at hx
  have hn:∀ y,y∈[l2,l1,n6,n8,n90,n2,n42]→w0.heap.size≤y:=hnew
  rcases hx with rfl | rfl | rfl | rfl | rfl | rfl | rfl | rfl | rfl | rfl
  ·exact hn _ (by simp)
  ·exact hn _ (by simp)
  ·exact hn _ (by simp)
  ·exact hn _ (by simp)
  ·exact hn _ (by simp)
  ·exact hn _ (by simp)
  ·exact hn _ (by simp)
  ·exact hF.npb
  ·exact hF.nob
  ·exact hF.nnb
 ·rw [hov] at hK
  have hmw:w64 (D.d.many+1)=D.d.many+1:=w64_small (by have:=hD.many; omega) (by omega)
  refine hK w2 (grown D (perform D.d.th e q) es3 c3 es4 c4 es5 c5 es6' c6' cs' told') ?_ ⟨hT,hm3,hm4,hm5',hm6',rfl,fun x hx=>⟨(each' x hx).1,?_⟩,?_,hD.new⟩ rfl h2
  ·rw [htell]; rfl
  ·show (x.c.l.length:Int)≤65536 * w64 (D.d.many+1)
   have:=(each' x hx).2
   rw [hmw]; omega
  ·show 0≤w64 (D.d.many+1)∧w64 (D.d.many+1)≤20000
   have:=hD.many
   rw [hmw]; omega
theorem keep_look {a:Mo.Acc} {tk rel:Int} {ts:List (Int × Bool)} {x:Int}:∀ (bs:List Int) (cs:List (Int × Cell)),Mo.look cs x≠none→Mo.look (keep a tk rel ts bs cs) x≠none
 | [],_,h=>h
 | b::r,cs,h=>by
  rw [keep_one]
  refine keep_look r _ ?_
  have hput:∀ c,Mo.look (put cs b c) x≠none:=fun c=>by
   rw [put_look]
   split
   ·simp
   ·exact h
  split
  ·split
   ·exact hput _
   ·exact h
  ·exact hput _
def G13 (D:DB) (l1 n6 n8 n90 n2 n42 pb n72 n4:Nat) (a:Mo.Acc) (e:Ev) (ov:Value) (J Lo R0 F:HL):List (Nat × Obj):=
 (D.lb,.map D.es6 D.c6)::(l1,dfr)::(n6,Cs [nilS] 39)::(n8,Cs [I64 0] 40)::(n90,Cs [ov] 39)::(n2,Cs [ptr D.db] 25)::(n42,Cs [ptr pb] 91)::(n72,Cs (Acccs a) 97)::(n4,Cs (Evcs e) 45)::(J++(Lo++(R0++F)))
theorem bytes_st (h:St w0 w H) (a n:Int)
  (hK:∀ b1 b2 w',w0.heap.size≤b1→w0.heap.size≤b2→St w0 w' ((b1,Cs [I64 n] 3)::(b2,Cs [.int .u32 a] 43)::H)→K (.func (.func 71) #[] #[.pointer (some (Addr.mk b1 0 none)),.pointer (some (Addr.mk b2 0 none))]) w') :
  CallL P 37 [.int .u32 a,.int .i64 n] w K:=by
 refine f37_ok _ _ _ _ ?_
 rw [f37_eq]
 exact h.newC fun b2 w1 h2 h1'=>h1'.newC fun b1 w2 h1 h2'=>hK b1 b2 w2 h1 h2 h2'
theorem drop_bytes (a n:Int) {i:Nat} (hi:i < n.toNat):(Mo.bytes a n).drop i=w32 (a+w32 (i:Int))::(Mo.bytes a n).drop (i+1):=by
 have hl:i < (Mo.bytes a n).length:=by rw [bytes_len]; exact hi
 rw [List.drop_eq_getElem_cons hl,bytes_get]
theorem perm_19 (D:DB) (es5:Array MapEntry) (c5:Nat) (l1 l2 n6 n8 n90 n2 n42 pb n72 n4 c1 c2:Nat) (a:Mo.Acc) (e:Ev) (ov:Value) (J Lo R0 F:HL) (cs:List CB) (o1 o2:Obj) :
  ((l2,dfr)::(D.cb,.map es5 c5)::(cellsH cs++((c1,o1)::(c2,o2)::G13 D l1 n6 n8 n90 n2 n42 pb n72 n4 a e ov J Lo R0 F))).Perm
    (tellH D.lb D.es6 D.c6 cs (G3 D es5 c5 l1 l2 n6 n8 n90 n2 n42 pb ov ((c1,o1)::(c2,o2)::(n72,Cs (Acccs a) 97)::(n4,Cs (Evcs e) 45)::J) Lo R0 F)):=by
 refine perm_by fun c=>?_
 simp only [tellH,G3,G13,List.map_append,List.map_cons,List.sum_append,List.sum_cons,List.cons_append]
 omega
theorem feed_s14 (hF:Fr w0 D e q pb ob nb F) (hD:DBok w0 D) (hnew:∀ x∈[l1,n6,n8,n90,n2,n42,n72,n4],w0.heap.size≤x) (hJ:New w0 J) (ha:a.th=e.th) {n:Int} (hn:n≤65536)
  (hLo:SlO 11 108 ov out.length (racesCs out) Lo) (hlen:out.length < 1000000) (hmany:D.d.many < 20000) (hx:∀ r∈out,Mo.look D.d.cells r.byte≠none)
  (h:St w0 w ((D.cb,.map D.es5 D.c5)::(cellsH D.cs++G13 D l1 n6 n8 n90 n2 n42 pb n72 n4 a e ov J Lo R0 F)))
  (hK:∀ w' D' cs,D'.d={ th:=perform D.d.th e q,many:=w64 (D.d.many+1),cells:=(tell out cs D.d.told).1,told:=(tell out cs D.d.told).2 }→cs=keep a q.tk (at0 D.d.th.rels e.th) D.d.told (Mo.bytes e.a n) D.d.cells→
   DBok w0 D'→D'.db=D.db→St w0 w' (detH D'++(Lo++R0))→K (.tuple [ov,I64 0].toArray) w') :
  f7_s14 (Addr.mk n4 0 none) (Addr.mk n2 0 none) (Addr.mk n42 0 none) (Addr.mk n72 0 none) (Addr.mk n6 0 none) (Addr.mk n8 0 none) (Addr.mk n90 0 none) n [mk l1] w K:=by
 rw [f7_s14_eq]
 have ht:0≤e.th∧e.th < 8:=(hF.planB hD).lt
 refine ⟨e.a,?_,?_⟩
 ·rw [add_lit',cell_of (h.has n4 (Cs (Evcs e) 45) (.tail _ (List.mem_append_right _ (by simp [G13]))))]; rfl
 refine bytes_st h e.a n fun c1 c2 w2 hc1 hc2 h2=>⟨_,rfl,?_⟩
 generalize hG:G13 D l1 n6 n8 n90 n2 n42 pb n72 n4 a e ov J Lo R0 F=G at h h2
 have gm:∀ y,y∈G13 D l1 n6 n8 n90 n2 n42 pb n72 n4 a e ov J Lo R0 F→y∈G:=fun y hy=>hG ▸ hy
 have gF:∀ y,y∈F→y∈G:=fun y hy=>gm y (by simp [G13,hy])
 let G':List (Nat × Obj):=(c1,Cs [I64 n] 3)::(c2,Cs [.int .u32 e.a] 43)::G
 have h3:St w0 w2 ((D.cb,.map D.es5 D.c5)::(cellsH D.cs++G')):=by
  refine h2.perm (perm_by fun c=>?_)
  simp only [G',List.map_append,List.map_cons,List.sum_append,List.sum_cons]
  omega
 have hGF:GF G' D n2 n72 n42 pb a e q:=by
  obtain ⟨o1,o2,o3,hpl⟩:=hF.pl
  exact ⟨.tail _ (.tail _ (gm _ (by simp [G13]))),.tail _ (.tail _ (gm _ (by simp [G13]))),.tail _ (.tail _ (gm _ (by simp [G13]))),.tail _ (.tail _ (gF _ hF.db)),⟨o1,o2,o3,106,.tail _ (.tail _ (gF _ hpl))⟩,hF.own⟩
 let N:Nat:=65536 * D.d.many.toNat
 have hmany0:=hD.many
 let I:Nat→List (Nat × Obj)→Prop:=fun i H'=>∃ es5 c5 cs,MapIs encU es5 c5 (cellM cs)∧(∀ x∈cs,CBok w0 x∧x.c.l.length≤N+i)∧
  keep a q.tk (at0 D.d.th.rels e.th) D.d.told (Mo.bytes e.a n) D.d.cells=keep a q.tk (at0 D.d.th.rels e.th) D.d.told ((Mo.bytes e.a n).drop i) (cellD cs)∧H'=(D.cb,.map es5 c5)::(cellsH cs++G')
 refine range_bytes (b1:=c1) (b2:=c2) (n:=n) (at_:=e.a) (t1:=3) (t2:=43) h3 (by simp [G']) (by omega) I (fun _ _=>False) ⟨D.es5,D.c5,D.cs,hD.m5,fun x hx=>⟨(hD.each x hx).1,by have:=(hD.each x hx).2; show _≤65536 * D.d.many.toNat+0; omega⟩,by rw [hD.cells]; rfl,rfl⟩ ?_ ?_ ?_ ?_
 ·rintro i H' ⟨es5,c5,cs,_,_,_,rfl⟩
  simp [G']
 ·rintro l l' Rr post i W H' hi ⟨es5,c5,cs,hm5,each,hkeep,rfl⟩ hs hl hl' hp _
  rw [f7_rd15_eq]
  refine ⟨rfl,?_⟩
  have hN:N+i < 1900000000:=by show 65536 * D.d.many.toNat+i < _; omega
  refine keep_round (G:=G') (N:=N+i) hGF hD.th hD.m6 (.tail _ (.tail _ (gm _ (by simp [G13])))) (.tail _ (.tail _ (gm _ (by simp [G13])))) ht ha n6 n8 n90 hm5 each hN _ hs fun w' es5' c5' cs' hm5' each' hk' h'=>?_
  refine hp w' ((D.cb,.map es5' c5')::(cellsH cs'++G')) ⟨es5',c5',cs',hm5',each',?_,rfl⟩ h'
  rw [hkeep,drop_bytes _ _ (by omega)]
  exact hk' _
 ·rintro W H' l' hl' ⟨es5,c5,cs,hm5,each,hkeep,rfl⟩ hs
  show f7_rn15 (Addr.mk n4 0 none) (Addr.mk n2 0 none) (Addr.mk n42 0 none) (Addr.mk n72 0 none) (Addr.mk n6 0 none) (Addr.mk n8 0 none) (Addr.mk n90 0 none) [mk l',mk l1] W K
  rw [f7_rn15_eq]
  have hdrop:(Mo.bytes e.a n).drop n.toNat=[]:=List.drop_eq_nil_of_le (by rw [bytes_len]; exact Nat.le_refl _)
  rw [hdrop] at hkeep
  have hkeep:keep a q.tk (at0 D.d.th.rels e.th) D.d.told (Mo.bytes e.a n) D.d.cells=cellD cs:=hkeep
  refine feed_s19 (R0:=R0) (J:=(c1,Cs [I64 n] 3)::(c2,Cs [.int .u32 e.a] 43)::(n72,Cs (Acccs a) 97)::(n4,Cs (Evcs e) 45)::J) (N:=N+n.toNat) (cs:=cs) (es5:=es5) (c5:=c5) hF hD ?_ ?_ hLo hlen hm5 each ?_ hmany ?_ ?_ ?_
  ·intro x hx
   simp only [List.mem_cons,List.not_mem_nil,or_false] at hx
   rcases hx with rfl | rfl | rfl | rfl | rfl | rfl | rfl
   ·exact hl'
   all_goals exact hnew _ (by simp)
  ·intro x hx
   simp only [List.mem_cons] at hx
   rcases hx with rfl | rfl | rfl | rfl | hx
   ·exact hc1
   ·exact hc2
   ·exact hnew n72 (by simp)
   ·exact hnew n4 (by simp)
   ·exact hJ x hx
  ·show ((65536 * D.d.many.toNat+n.toNat:Nat):Int)≤_
   omega
  ·intro r hr
   have h1:=keep_look (a:=a) (tk:=q.tk) (rel:=at0 D.d.th.rels e.th) (ts:=D.d.told) (Mo.bytes e.a n) _ (hx r hr)
   rw [hkeep,lookD] at h1
   cases hf:cs.find? fun x=>x.byte == r.byte with
   | none=>rw [hf] at h1; exact absurd rfl h1
   | some y=>rfl
  ·have hs':St w0 W ((l',dfr)::(D.cb,.map es5 c5)::(cellsH cs++((c1,Cs [I64 n] 3)::(c2,Cs [.int .u32 e.a] 43)::G))):=hs
   rw [← hG] at hs'
   exact hs'.perm (perm_19 D es5 c5 l1 l' n6 n8 n90 n2 n42 pb n72 n4 c1 c2 a e ov J Lo R0 F cs _ _)
  ·intro w' D' h1 h2 h3 h4
   exact hK w' D' (cellD cs) h1 hkeep.symm h2 h3 h4
 ·rintro c W H' l' _ hJ
  exact hJ.elim
end Go.Fx.Tryz
namespace Go.Fx.Tryz
open Go Go.Fx Go.Fx.Mo
open Go.Proofs
variable {w0 w:World} {H:HL} {K:KT}
set_option maxRecDepth 20000
variable {D:DB} {n2 n72 n42 pb ob nb n4 n6 n8 n90 n92 l1 l2:Nat} {e:Ev} {q:Pl} {a:Mo.Acc} {F R0 Lo J:HL} {out:List Mo.Race} {ov:Value}
theorem feed_back (hF:Fr w0 D e q pb ob nb F) {X:HL} (h:St w0 w (X++((D.cb,.map D.es5 D.c5)::(D.lb,.map D.es6 D.c6)::(cellsH D.cs++(R0++F))))) (hX:New w0 X):St w0 w (detH D++R0):=by
 have hp:=hF.back w (X++((D.cb,.map D.es5 D.c5)::(D.lb,.map D.es6 D.c6)::(cellsH D.cs++R0))) (h.perm (perm_by fun c=>by
  simp only [List.map_append,List.map_cons,List.sum_append,List.sum_cons]; omega))
 have hs:=hp.forget hF.npb hF.nob hF.nnb
 refine St.sub (L:=X) (hs.perm (perm_by fun c=>?_)) hX
 simp only [detH,List.map_append,List.map_cons,List.sum_append,List.sum_cons]
 omega
def G6 (D:DB) (n72 n42 n4 n2 pb:Nat) (a:Mo.Acc) (e:Ev) (R0 F:HL):List (Nat × Obj):=
 (n72,Cs (Acccs a) 97)::(n42,Cs [ptr pb] 91)::(n4,Cs (Evcs e) 45)::(n2,Cs [ptr D.db] 25)::(D.cb,.map D.es5 D.c5)::(D.lb,.map D.es6 D.c6)::(cellsH D.cs++(R0++F))
theorem perm_13 (D:DB) (n72 n42 n4 n2 pb l1 n6 n8 n92 n90 b1 b2:Nat) (a:Mo.Acc) (e:Ev) (Lo R0 F:HL) (ov:Value) (o1 o2 o3:Obj) :
  ((l1,dfr)::(n6,Cs [nilS] 39)::(n8,Cs [I64 0] 40)::(n92,o1)::(n90,Cs [ov] 39)::(Lo++((b1,o2)::(b2,o3)::G6 D n72 n42 n4 n2 pb a e R0 F))).Perm
    ((D.cb,.map D.es5 D.c5)::(cellsH D.cs++G13 D l1 n6 n8 n90 n2 n42 pb n72 n4 a e ov [(n92,o1),(b1,o2),(b2,o3)] Lo R0 F)):=by
 refine perm_by fun c=>?_
 simp only [G6,G13,List.map_append,List.map_cons,List.map_nil,List.sum_append,List.sum_cons,List.sum_nil]
 omega
theorem perm_back (D:DB) (n72 n42 n4 n2 pb l1 n6 n8 n92 n90 b1 b2:Nat) (a:Mo.Acc) (e:Ev) (Lo R0 F:HL) (o1 o2 o3 o4 o5 o6 o7:Obj) :
  ((l1,o4)::(n6,o5)::(n8,o6)::(n92,o1)::(n90,o7)::(Lo++((b1,o2)::(b2,o3)::G6 D n72 n42 n4 n2 pb a e R0 F))).Perm
    (((l1,o4)::(n6,o5)::(n8,o6)::(n92,o1)::(n90,o7)::(b1,o2)::(b2,o3)::(n72,Cs (Acccs a) 97)::(n42,Cs [ptr pb] 91)::(n4,Cs (Evcs e) 45)::(n2,Cs [ptr D.db] 25)::Lo)++((D.cb,.map D.es5 D.c5)::(D.lb,.map D.es6 D.c6)::(cellsH D.cs++(R0++F)))):=by
 refine perm_by fun c=>?_
 simp only [G6,List.map_append,List.map_cons,List.sum_append,List.sum_cons,List.cons_append]
 omega
theorem new_list {w0:World} {ns:HL} {Lo:HL} (h:∀ x∈ns.map (·.1),w0.heap.size≤x) (hLo:New w0 Lo):New w0 (ns++Lo):=by
 intro x hx
 rcases List.mem_append.1 hx with hx | hx
 ·exact h _ (List.mem_map.2 ⟨x,hx,rfl⟩)
 ·exact hLo x hx
theorem len124 {es:Array MapEntry} {clk:Nat} {m:List (Int × Bool)} (hm:MapIs encU es clk (encM Value.bool m)) {wq:World} {k:Nat} (hx:Ext w wq) (hb:w.heap[k]?=some (.map es clk)) :
  (Builtin.len_ #[35] 3 [Value.map (some k)].toArray).run P wq=.ok (.int .i64 m.length) wq:=by
 have:=hm.len (ext_get hx hb) mapType124 3
 rw [this]
 simp [encM]
theorem feed_s13 {b1 b2:Nat} {o1 o2 o3:Obj} (hF:Fr w0 D e q pb ob nb F) (hD:DBok w0 D) (hnew:∀ x∈[l1,n6,n8,n92,n90,b1,b2,n72,n42,n4,n2],w0.heap.size≤x) (ha:a.th=e.th) {n:Int} (hn:n≤65536)
  (hLo:SlO 11 108 ov out.length (racesCs out) Lo) (hLn:New w0 Lo) (hlen:out.length < 1000000) (hmany:D.d.many < 20000) (hx:∀ r∈out,Mo.look D.d.cells r.byte≠none)
  (h:St w0 w ((l1,dfr)::(n6,Cs [nilS] 39)::(n8,Cs [I64 0] 40)::(n92,o1)::(n90,Cs [ov] 39)::(Lo++((b1,o2)::(b2,o3)::G6 D n72 n42 n4 n2 pb a e R0 F))))
  (herr:w64 (D.d.told.length+out.length) > 1000→∀ w',St w0 w' (detH D++R0)→K (.tuple [nilS,I64 2].toArray) w')
  (hK:¬ w64 (D.d.told.length+out.length) > 1000→∀ w' D' cs,D'.d={ th:=perform D.d.th e q,many:=w64 (D.d.many+1),cells:=(tell out cs D.d.told).1,told:=(tell out cs D.d.told).2 }→cs=keep a q.tk (at0 D.d.th.rels e.th) D.d.told (Mo.bytes e.a n) D.d.cells→
   DBok w0 D'→D'.db=D.db→St w0 w' (detH D'++(Lo++R0))→K (.tuple [ov,I64 0].toArray) w') :
  f7_s13 (Addr.mk n6 0 none) (Addr.mk n8 0 none) (Addr.mk n4 0 none) (Addr.mk n2 0 none) (Addr.mk n42 0 none) (Addr.mk n72 0 none) (Addr.mk n90 0 none) n [mk l1] w K:=by
 rw [f7_s13_eq]
 have hd:=h.drew
 obtain ⟨sa,sc,hov⟩:=hLo.form
 have gF:∀ y,y∈F→y∈((l1,dfr)::(n6,Cs [nilS] 39)::(n8,Cs [I64 0] 40)::(n92,o1)::(n90,Cs [ov] 39)::(Lo++((b1,o2)::(b2,o3)::G6 D n72 n42 n4 n2 pb a e R0 F))):=fun y hy=>by simp [G6,hy]
 refine ⟨some (Addr.mk D.db 0 none),?_,some D.lb,?_,D.d.told.length,fun wq hx=>len124 hD.m6 hx (hd.has D.lb _ (by simp [G6])),sa,out.length,sc,by rw [hd.cell (k:=4) rfl,hov]; rfl,out.length,fun wq _=>run_len_25 wq,?_⟩
 ·rw [cell_of (hd.has n2 (Cs [ptr D.db] 25) (by simp [G6]))]; rfl
 ·rw [add_lit',Nat.zero_add,cell_of (hd.has D.db _ (gF _ hF.db)),show (93:Nat)=90+3 from rfl,det_rest hD.th]; rfl
 rw [BIf_iff]
 constructor
 ·intro hgt
  have hgt:w64 (D.d.told.length+out.length) > 1000:=by simpa [w64] using hgt
  refine hd.st1 (k:=1) rfl (by simp) rfl fun w1 h1=>h1.st1 (k:=2) rfl (by simp) rfl fun w2 h2=>?_
  refine ⟨h2.get (k:=0) rfl,?_⟩
  have h3:=h2.put (k:=0) rfl (.deferred none)
  rw [leave_13]
  refine ⟨none,0,0,by rw [h3.cell (k:=1) rfl]; rfl,2,by rw [h3.cell (k:=2) rfl]; rfl,?_⟩
  refine herr hgt _ (feed_back hF (X:=(l1,.deferred none)::(n6,Cs [nilS] 39)::(n8,Cs [I64 2] 40)::(n92,o1)::(n90,Cs [ov] 39)::(b1,o2)::(b2,o3)::(n72,Cs (Acccs a) 97)::(n42,Cs [ptr pb] 91)::(n4,Cs (Evcs e) 45)::(n2,Cs [ptr D.db] 25)::Lo) (St.perm h3 (perm_back ..)) ?_)
  exact new_list (ns:=[(l1,.deferred none),(n6,Cs [nilS] 39),(n8,Cs [I64 2] 40),(n92,o1),(n90,Cs [ov] 39),(b1,o2),(b2,o3),(n72,Cs (Acccs a) 97),(n42,Cs [ptr pb] 91),(n4,Cs (Evcs e) 45),(n2,Cs [ptr D.db] 25)]) hnew hLn
 ·intro hle
  have hle:¬ w64 (D.d.told.length+out.length) > 1000:=by simpa [w64] using hle
  refine feed_s14 (R0:=R0) (J:=[(n92,o1),(b1,o2),(b2,o3)]) hF hD ?_ ?_ ha hn hLo hlen hmany hx (hd.perm (perm_13 ..)) (hK hle)
  ·intro x hx
   simp only [List.mem_cons,List.not_mem_nil,or_false] at hx
   rcases hx with rfl | rfl | rfl | rfl | rfl | rfl | rfl | rfl
   all_goals exact hnew _ (by simp)
  ·intro x hx
   simp only [List.mem_cons,List.not_mem_nil,or_false] at hx
   rcases hx with rfl | rfl | rfl
   all_goals exact hnew _ (by simp)
theorem feed_s6 (hF:Fr w0 D e q pb ob nb F) (hD:DBok w0 D) (hnew:∀ x∈[n6,n8,n72,n42,n4,n2],w0.heap.size≤x) (ha:a.th=e.th) {n:Int} (hn:n≤65536) (hmany:D.d.many < 20000)
  (h:St w0 w ((n6,Cs [nilS] 39)::(n8,Cs [I64 0] 40)::G6 D n72 n42 n4 n2 pb a e R0 F))
  (herr:(scan D.d a q.own (Mo.bytes e.a n) [] 0=none∨∃ out,scan D.d a q.own (Mo.bytes e.a n) [] 0=some out∧w64 (D.d.told.length+out.length) > 1000)→∀ w',St w0 w' (detH D++R0)→K (.tuple [nilS,I64 2].toArray) w')
  (hK:∀ out,scan D.d a q.own (Mo.bytes e.a n) [] 0=some out→¬ w64 (D.d.told.length+out.length) > 1000→∀ w' D' cs ov Lo,D'.d={ th:=perform D.d.th e q,many:=w64 (D.d.many+1),cells:=(tell out cs D.d.told).1,told:=(tell out cs D.d.told).2 }→
   cs=keep a q.tk (at0 D.d.th.rels e.th) D.d.told (Mo.bytes e.a n) D.d.cells→DBok w0 D'→D'.db=D.db→SlO 11 108 ov out.length (racesCs out) Lo→New w0 Lo→St w0 w' (detH D'++(Lo++R0))→K (.tuple [ov,I64 0].toArray) w') :
  f7_s6 (Addr.mk n8 0 none) (Addr.mk n6 0 none) (Addr.mk n2 0 none) (Addr.mk n72 0 none) (Addr.mk n42 0 none) (Addr.mk n4 0 none) n w K:=by
 rw [f7_s6_eq,z25,z3]
 refine h.newC fun n90 w1 hn90 h1=>h1.newC fun n92 w2 hn92 h2=>h2.st1 (k:=0) rfl (by simp) rfl fun w3 h3=>?_
 have h3:St w0 w3 ((n92,Cs [I64 0] 3)::(n90,Cs [nilS] 39)::(n6,Cs [nilS] 39)::(n8,Cs [I64 0] 40)::G6 D n72 n42 n4 n2 pb a e R0 F):=h3
 refine ⟨e.a,?_,?_⟩
 ·rw [add_lit',cell_of (h3.has n4 (Cs (Evcs e) 45) (by simp [G6]))]; rfl
 refine bytes_st h3 e.a n fun b1 b2 w4 hb1 hb2 h4=>⟨_,rfl,?_⟩
 generalize hG:G6 D n72 n42 n4 n2 pb a e R0 F=G at h h1 h2 h3 h4
 have gm:∀ y,y∈G6 D n72 n42 n4 n2 pb a e R0 F→y∈G:=fun y hy=>hG ▸ hy
 have gF:∀ y,y∈F→y∈G:=fun y hy=>gm y (by simp [G6,hy])
 let G':List (Nat × Obj):=(b1,Cs [I64 n] 3)::(b2,Cs [.int .u32 e.a] 43)::G
 have gm':∀ y,y∈G6 D n72 n42 n4 n2 pb a e R0 F→y∈G':=fun y hy=>.tail _ (.tail _ (gm y hy))
 have h5:St w0 w4 ((n6,Cs [nilS] 39)::(n8,Cs [I64 0] 40)::(n92,Cs [I64 0] 3)::(n90,Cs [nilS] 39)::([]++G')):=by
  refine h4.perm (perm_by fun c=>?_)
  simp only [G',List.nil_append,List.map_cons,List.sum_cons]
  omega
 have hGF:GF G' D n2 n72 n42 pb a e q:=by
  obtain ⟨o1,o2,o3,hpl⟩:=hF.pl
  exact ⟨gm' _ (by simp [G6]),gm' _ (by simp [G6]),gm' _ (by simp [G6]),.tail _ (.tail _ (gF _ hF.db)),⟨o1,o2,o3,106,.tail _ (.tail _ (gF _ hpl))⟩,hF.own⟩
 have hcs:∀ x∈D.cs,∀ y∈cbH x,y∈G':=fun x hx y hy=>gm' y (by
  have:y∈cellsH D.cs:=List.mem_flatMap.2 ⟨x,hx,hy⟩
  simp [G6,this])
 let I:Nat→List (Nat × Obj)→Prop:=fun i H'=>∃ out fresh ov Lo,scan D.d a q.own (Mo.bytes e.a n) [] 0=scan D.d a q.own ((Mo.bytes e.a n).drop i) out fresh∧out.length≤i∧SlO 11 108 ov out.length (racesCs out) Lo∧New w0 Lo∧
  H'=(n6,Cs [nilS] 39)::(n8,Cs [I64 0] 40)::(n92,Cs [I64 fresh] 3)::(n90,Cs [ov] 39)::(Lo++G')
 let Jx:Code→List (Nat × Obj)→Prop:=fun c H'=>c=.ret∧scan D.d a q.own (Mo.bytes e.a n) [] 0=none∧∃ fresh ov Lo,New w0 Lo∧H'=(n6,Cs [nilS] 39)::(n8,Cs [I64 2] 40)::(n92,Cs [I64 fresh] 3)::(n90,Cs [ov] 39)::(Lo++G')
 have hn6:=hnew n6 (by simp)
 have hn8:=hnew n8 (by simp)
 have nns:∀ l':Nat,w0.heap.size≤l'→∀ x∈[l',n6,n8,n92,n90,b1,b2,n72,n42,n4,n2],w0.heap.size≤x:=fun l' hl' x hx=>by
  simp only [List.mem_cons,List.not_mem_nil,or_false] at hx
  rcases hx with rfl | rfl | rfl | rfl | rfl | rfl | rfl | rfl | rfl | rfl | rfl
  ·exact hl'
  ·exact hn6
  ·exact hn8
  ·exact hn92
  ·exact hn90
  ·exact hb1
  ·exact hb2
  all_goals exact hnew _ (by simp)
 refine range_bytes (b1:=b1) (b2:=b2) (n:=n) (at_:=e.a) (t1:=3) (t2:=43) h5 (by simp [G']) (by omega) I Jx ⟨[],0,nilS,[],rfl,by simp,SlO.nil 11 108,New.nil w0,rfl⟩ ?_ ?_ ?_ ?_
 ·rintro i H' ⟨out,fresh,ov,Lo,_,_,_,_,rfl⟩
  simp [G']
 ·rintro l l' Rr post i W H' hi ⟨out,fresh,ov,Lo,hscan,hol,hS,hN,rfl⟩ hs hl hl' hp hpx
  rw [f7_rd7_eq]
  refine ⟨rfl,?_⟩
  refine scan_round (G:=G') hGF hD (gm' _ (by simp [G6])) (gm' _ (by simp [G6])) hcs n hS hN (by omega) _ hs ?_ ?_
  ·intro w' out' fresh' ov' Lo' hsc hol' hS' hN' h'
   refine hp w' ((n6,Cs [nilS] 39)::(n8,Cs [I64 0] 40)::(n92,Cs [I64 fresh'] 3)::(n90,Cs [ov'] 39)::(Lo'++G')) ⟨out',fresh',ov',Lo',?_,by omega,hS',hN',rfl⟩ h'
   rw [hscan,drop_bytes _ _ (by omega)]
   exact hsc _
  ·intro w' fresh' hsc h'
   refine hpx .ret w' ((n6,Cs [nilS] 39)::(n8,Cs [I64 2] 40)::(n92,Cs [I64 fresh'] 3)::(n90,Cs [ov] 39)::(Lo++G')) ⟨rfl,?_,fresh',ov,Lo,hN,rfl⟩ h'
   rw [hscan,drop_bytes _ _ (by omega)]
   exact hsc _
 ·rintro W H' l' hl' ⟨out,fresh,ov,Lo,hscan,hol,hS,hN,rfl⟩ hs
  show f7_rn7 (Addr.mk n8 0 none) (Addr.mk n6 0 none) (Addr.mk n92 0 none) (Addr.mk n2 0 none) (Addr.mk n90 0 none) (Addr.mk n72 0 none) (Addr.mk n42 0 none) (Addr.mk n4 0 none) n [mk l'] W K
  rw [f7_rn7_eq]
  have hdrop:(Mo.bytes e.a n).drop n.toNat=[]:=List.drop_eq_nil_of_le (by rw [bytes_len]; exact Nat.le_refl _)
  rw [hdrop] at hscan
  have hscan:scan D.d a q.own (Mo.bytes e.a n) [] 0=some out:=hscan
  have hs':St w0 W ((l',dfr)::(n6,Cs [nilS] 39)::(n8,Cs [I64 0] 40)::(n92,Cs [I64 fresh] 3)::(n90,Cs [ov] 39)::(Lo++((b1,Cs [I64 n] 3)::(b2,Cs [.int .u32 e.a] 43)::G))):=hs
  rw [← hG] at hs'
  refine feed_s13 (R0:=R0) hF hD (nns l' hl') ha hn hS hN (by omega) hmany ?_ hs' (fun hgt=>herr (.inr ⟨out,hscan,hgt⟩)) fun hle w' D' cs h1 h2 h3 h4 h5=>hK out hscan hle w' D' cs ov Lo h1 h2 h3 h4 hS hN h5
  intro r hr
  obtain ⟨ext,hxe,_,hx⟩:=scan_mem hscan
  rw [List.nil_append] at hxe
  rw [hxe] at hr
  obtain ⟨_,_,c,hc,_⟩:=hx r hr
  rw [hc]; simp
 ·rintro c W H' l' hl' ⟨rfl,hsc,fresh,ov,Lo,hN,rfl⟩ hs
  show f7_rr7 (Addr.mk n8 0 none) (Addr.mk n6 0 none) (Addr.mk n92 0 none) (Addr.mk n2 0 none) (Addr.mk n90 0 none) (Addr.mk n72 0 none) (Addr.mk n42 0 none) (Addr.mk n4 0 none) n [mk l'] W K
  rw [f7_rr7_eq]
  refine ⟨hs.get (k:=0) rfl,?_⟩
  have hs':St w0 (W.putObj l' (.deferred none)) ((l',.deferred none)::(n6,Cs [nilS] 39)::(n8,Cs [I64 2] 40)::(n92,Cs [I64 fresh] 3)::(n90,Cs [ov] 39)::(Lo++((b1,Cs [I64 n] 3)::(b2,Cs [.int .u32 e.a] 43)::G))):=hs.put (k:=0) rfl (.deferred none)
  rw [← hG] at hs'
  rw [leave_rr7]
  refine ⟨none,0,0,by rw [hs'.cell (k:=1) rfl]; rfl,2,by rw [hs'.cell (k:=2) rfl]; rfl,?_⟩
  refine herr (.inl hsc) _ (feed_back hF (X:=(l',.deferred none)::(n6,Cs [nilS] 39)::(n8,Cs [I64 2] 40)::(n92,Cs [I64 fresh] 3)::(n90,Cs [ov] 39)::(b1,Cs [I64 n] 3)::(b2,Cs [.int .u32 e.a] 43)::(n72,Cs (Acccs a) 97)::(n42,Cs [ptr pb] 91)::(n4,Cs (Evcs e) 45)::(n2,Cs [ptr D.db] 25)::Lo) (St.perm hs' (perm_back ..)) ?_)
  exact new_list (ns:=[(l',.deferred none),(n6,Cs [nilS] 39),(n8,Cs [I64 2] 40),(n92,Cs [I64 fresh] 3),(n90,Cs [ov] 39),(b1,Cs [I64 n] 3),(b2,Cs [.int .u32 e.a] 43),(n72,Cs (Acccs a) 97),(n42,Cs [ptr pb] 91),(n4,Cs (Evcs e) 45),(n2,Cs [ptr D.db] 25)]) (nns l' hl') hN
end Go.Fx.Tryz
namespace Go.Fx.Tryz
open Go Go.Fx Go.Fx.Mo
open Go.Proofs
variable {w0 w:World} {H:HL} {K:KT}
set_option maxRecDepth 20000
variable {D:DB} {n2 n42 pb ob nb n4 n6 n8:Nat} {e:Ev} {q:Pl} {F R0:HL}
theorem z127:zcells P 91=#[.pointer none]:=by kernel_rfl
abbrev locH (n8 n6 n4 n2:Nat) (D:DB) (e:Ev) (R:HL):List (Nat × Obj):=(n8,Cs [I64 0] 40)::(n6,Cs [nilS] 39)::(n4,Cs (Evcs e) 45)::(n2,Cs [ptr D.db] 25)::R
abbrev mapsH (D:DB) (R:HL):List (Nat × Obj):=(D.cb,.map D.es5 D.c5)::(D.lb,.map D.es6 D.c6)::(cellsH D.cs++R)
def evN (e:Ev):Int:=if (accesses e).2.2 then e.n else 0
theorem bytes_evN (e:Ev):(if (accesses e).2.2 then Mo.bytes e.a e.n else [])=Mo.bytes e.a (evN e):=by
 unfold evN
 split <;> rfl
theorem feed_eq {d:Det} {e:Ev} {q:Pl} (hm:d.many < 20000) (hp:plan d.th e=some q):feed d e =
  match scan d (accOf d e) q.own (Mo.bytes e.a (evN e)) [] 0 with
  | none=>(d,.inr 2)
  | some out=>if w64 (d.told.length+out.length) > 1000 then (d,.inr 2) else
   ({ th:=perform d.th e q,many:=w64 (d.many+1),cells:=(tell out (keep (accOf d e) q.tk (at0 d.th.rels e.th) d.told (Mo.bytes e.a (evN e)) d.cells) d.told).1,
      told:=(tell out (keep (accOf d e) q.tk (at0 d.th.rels e.th) d.told (Mo.bytes e.a (evN e)) d.cells) d.told).2 },.inl out):=by
 unfold feed
 rw [if_neg (by omega),hp]
 simp only [bytes_evN]
 rfl
theorem feed_s4 (hF:Fr w0 D e q pb ob nb F) (hD:DBok w0 D) (hnew:∀ x∈[n6,n8,n42,n4,n2],w0.heap.size≤x) (hmany:D.d.many < 20000)
  (h:St w0 w ((n42,Cs [ptr pb] 91)::locH n8 n6 n4 n2 D e (mapsH D (R0++F))))
  (herr:∀ d' x,feed D.d e=(d',.inr x)→∀ w',St w0 w' (detH D++R0)→K (.tuple [nilS,I64 x].toArray) w')
  (hok:∀ d' out,feed D.d e=(d',.inl out)→∀ w' D' ov Lo,D'.d=d'→DBok w0 D'→D'.db=D.db→SlO 11 108 ov out.length (racesCs out) Lo→New w0 Lo→St w0 w' (detH D'++(Lo++R0))→K (.tuple [ov,I64 0].toArray) w') :
  f7_s4 (Addr.mk n8 0 none) (Addr.mk n6 0 none) (Addr.mk n2 0 none) (Addr.mk n42 0 none) (Addr.mk n4 0 none) w K:=by
 rw [f7_s4_eq]
 refine h.ldA (k:=3) (i:=0) rfl (by simp [Evcs]) ?_
 refine accesses_ok h e fun w1 h1=>⟨_,_,_,rfl,?_⟩
 have hd:=h1.drew
 refine ⟨some (Addr.mk D.db 0 none),by rw [hd.cell (k:=4) rfl]; rfl,D.d.many,?_,e.th,by rw [add_lit',Nat.zero_add,hd.cell (k:=3) rfl]; rfl,e.pc,by rw [add_lit',Nat.zero_add,hd.cell (k:=3) rfl]; rfl,_,build45 _ _ _ _ _,?_⟩
 ·have hm:∀ y,y∈F→y∈((n42,Cs [ptr pb] 91)::locH n8 n6 n4 n2 D e (mapsH D (R0++F))):=fun y hy=>by simp [hy]
  rw [add_lit',Nat.zero_add,cell_of (hd.has D.db _ (hm _ hF.db)),show (91:Nat)=90+1 from rfl,det_rest hD.th]; rfl
 rw [z45]
 refine hd.newC fun n72 w2 hn72 h2=>h2.stA (k:=0) rfl rfl (by simp) (Acccs_one (accOf D.d e)) fun w3 h3=>?_
 have h3:St w0 w3 ((n72,Cs (Acccs (accOf D.d e)) 97)::(n42,Cs [ptr pb] 91)::locH n8 n6 n4 n2 D e (mapsH D (R0++F))):=h3
 have hn:evN e≤65536:=by
  unfold evN
  split
  ·rename_i hi; exact (refused_n (plan_refused hF.plan) hi).2
  ·omega
 have hfeed:=feed_eq (e:=e) hmany hF.plan
 have h6:f7_s6 (Addr.mk n8 0 none) (Addr.mk n6 0 none) (Addr.mk n2 0 none) (Addr.mk n72 0 none) (Addr.mk n42 0 none) (Addr.mk n4 0 none) (evN e) w3 K:=by
  refine feed_s6 (R0:=R0) (a:=accOf D.d e) hF hD ?_ rfl hn hmany (h3.perm (perm_by fun c=>?_)) ?_ ?_
  ·intro x hx
   simp only [List.mem_cons,List.not_mem_nil,or_false] at hx
   rcases hx with rfl | rfl | rfl | rfl | rfl | rfl
   ·exact hnew _ (by simp)
   ·exact hnew _ (by simp)
   ·exact hn72
   all_goals exact hnew _ (by simp)
  ·simp only [G6,List.map_append,List.map_cons,List.sum_append,List.sum_cons]
   omega
  ·rintro (hs | ⟨out,hs,hgt⟩) w' h'
   ·rw [hs] at hfeed; exact herr _ _ hfeed w' h'
   ·rw [hs] at hfeed; simp only [hgt,if_true] at hfeed; exact herr _ _ hfeed w' h'
  ·intro out hs hle w' D' cs ov Lo hd' hcs hD' hdb hS hN h'
   rw [hs] at hfeed
   simp only [hle,if_false] at hfeed
   exact hok _ _ hfeed w' D' ov Lo (by rw [hd',hcs]) hD' hdb hS hN h'
 rw [f7_s5_eq,BIf_iff]
 constructor
 ·intro hi
  have e1:evN e=e.n:=by unfold evN; rw [if_pos hi]
  rw [e1] at h6
  exact ⟨e.n,by rw [add_lit',Nat.zero_add,h3.cell (k:=4) rfl]; rfl,h6⟩
 ·intro hi
  have e1:evN e=0:=by unfold evN; rw [if_neg (by rw [hi]; simp)]
  rw [e1] at h6
  exact h6
theorem feed_ok (h:St w0 w (detH D++R0)) (hD:DBok w0 D)
  (herr:∀ d' x,feed D.d e=(d',.inr x)→∀ w',St w0 w' (detH D++R0)→K (.tuple [nilS,I64 x].toArray) w')
  (hok:∀ d' out,feed D.d e=(d',.inl out)→∀ w' D' ov Lo,D'.d=d'→DBok w0 D'→D'.db=D.db→SlO 11 108 ov out.length (racesCs out) Lo→New w0 Lo→St w0 w' (detH D'++(Lo++R0))→K (.tuple [ov,I64 0].toArray) w') :
  CallL P 7 [ptr D.db,.agg (Evcs e).toArray] w K:=by
 refine f7_ok _ _ _ _ ?_
 rw [f7_eq,z25,z28]
 refine h.newC fun n2 w1 hn2 h1=>h1.newC fun n4 w2 hn4 h2=>h2.newC fun n6 w3 hn6 h3=>h3.newC fun n8 w4 hn8 h4=>?_
 have h4:St w0 w4 (locH n8 n6 n4 n2 D e (detH D++R0)):=h4
 have hdet:∀ i,w4.cell? (Addr.mk D.db (90+i) none)=(restCs D)[i]?:=fun i=>by
  rw [h4.cell (k:=4) (cs:=thCs D.d.th D.tob D.tnb++restCs D) rfl,det_rest hD.th]
 have c2:∀ {w':World} {X:HL},St w0 w' (X++locH n8 n6 n4 n2 D e (detH D++R0))→w'.cell? (Addr.mk n2 0 none)=some (ptr D.db):=fun h'=>by rw [cell_of (h'.has n2 (Cs [ptr D.db] 25) (by simp))]; rfl
 refine ⟨some (Addr.mk D.db 0 none),c2 (X:=[]) h4,?_⟩
 rw [Option.isNone_some,BIf_false]
 refine ⟨some (Addr.mk D.db 0 none),c2 (X:=[]) h4,true,by rw [add_lit',Nat.zero_add]; exact hdet 0,?_⟩
 rw [f7_s0_eq,Bool.not_true,BIf_false,f7_s1_eq]
 refine ⟨some (Addr.mk D.db 0 none),c2 (X:=[]) h4,D.d.many,by rw [add_lit',Nat.zero_add]; exact hdet 1,?_⟩
 rw [BIf_iff]
 constructor
 ·intro hge
  have hge:D.d.many≥20000:=by simpa using hge
  refine h4.st1 (k:=1) rfl (by simp) rfl fun w5 h5=>h5.st1 (k:=0) rfl (by simp) rfl fun w6 h6=>?_
  refine ⟨none,0,0,by rw [h6.cell (k:=1) rfl]; rfl,2,by rw [h6.cell (k:=0) rfl]; rfl,?_⟩
  exact herr D.d 2 (by unfold feed; rw [if_pos hge]) w6 ((((h6.tail hn8).tail hn6).tail hn4).tail hn2)
 ·intro hlt
  have hlt:D.d.many < 20000:=by simpa using hlt
  rw [f7_s2_eq]
  have hd:=h4.drew
  refine ⟨some (Addr.mk D.db 0 none),c2 (X:=[]) hd,hd.ldA (k:=2) (i:=0) rfl (by simp [Evcs]) ?_⟩
  have s3n:∀ w' n42 v,w0.heap.size≤n42→plan D.d.th e=none→St w0 w' ((n42,Cs [.pointer v] 91)::locH n8 n6 n4 n2 D e (detH D++R0))→f7_s3 (Addr.mk n6 0 none) (Addr.mk n8 0 none) (Addr.mk n2 0 none) (Addr.mk n42 0 none) (Addr.mk n4 0 none) false w' K:=by
   intro w' n42 v hn42 hp h'
   rw [f7_s3_eq,Bool.not_false,BIf_true]
   refine h'.st1 (k:=2) rfl (by simp) rfl fun w5 h5=>h5.st1 (k:=1) rfl (by simp) rfl fun w6 h6=>?_
   refine ⟨none,0,0,by rw [h6.cell (k:=2) rfl]; rfl,300,by rw [h6.cell (k:=1) rfl]; rfl,?_⟩
   exact herr D.d 300 (by unfold feed; rw [if_neg (by omega),hp]) w6 (((((h6.tail hn42).tail hn8).tail hn6).tail hn4).tail hn2)
  have s3s:∀ w' n42 pb ob nb q F,w0.heap.size≤n42→Fr w0 D e q pb ob nb F→St w0 w' ((n42,Cs [ptr pb] 91)::locH n8 n6 n4 n2 D e (mapsH D (R0++F)))→f7_s3 (Addr.mk n6 0 none) (Addr.mk n8 0 none) (Addr.mk n2 0 none) (Addr.mk n42 0 none) (Addr.mk n4 0 none) true w' K:=by
   intro w' n42 pb ob nb q F hn42 hF h'
   rw [f7_s3_eq,Bool.not_true,BIf_false]
   refine feed_s4 (R0:=R0) hF hD ?_ hlt h' herr hok
   intro x hx
   simp only [List.mem_cons,List.not_mem_nil,or_false] at hx
   rcases hx with rfl | rfl | rfl | rfl | rfl
   ·exact hn6
   ·exact hn8
   ·exact hn42
   ·exact hn4
   ·exact hn2
  have toFr:∀ {w':World} {X:HL} {q pb ob nb},plan D.d.th e=some q→w0.heap.size≤pb→w0.heap.size≤ob→w0.heap.size≤nb→PS w0 w' (planB D e pb ob nb) (X++locH n8 n6 n4 n2 D e (mapsH D R0)) q→
    ∃ F,Fr w0 D e q pb ob nb F∧St w0 w' (X++locH n8 n6 n4 n2 D e (mapsH D (R0++F))):=by
   intro w' X q pb ob nb hp k1 k2 k3 hps
   have ho:=hps.own
   obtain ⟨F,hs,hpl,hth,hback⟩:=hps.frame
   refine ⟨F,⟨hp,hpl,hth,ho,hback,k1,k2,k3⟩,hs.perm (perm_by fun c=>?_)⟩
   simp only [List.map_append,List.map_cons,List.sum_append,List.sum_cons]
   omega
  constructor
  ·refine plan_ok (T:=D.d.th) (tb:=D.db) (tob:=D.tob) (tnb:=D.tnb) (tt:=37) (rest:=restCs D) (R:=locH n8 n6 n4 n2 D e (mapsH D R0)) hD.th hD.m3 hD.m4 (hd.perm (perm_by fun c=>?_)) (fun hp w' v h'=>?_) (fun q hp w' pb ob nb k1 k2 k3 hps=>?_)
   ·simp only [detH,List.map_append,List.map_cons,List.sum_append,List.sum_cons]
    omega
   ·refine ⟨v,false,rfl,?_⟩
    rw [z127]
    have h':St w0 w' (locH n8 n6 n4 n2 D e (detH D++R0)):=h'.perm (perm_by fun c=>by
     simp only [detH,List.map_append,List.map_cons,List.sum_append,List.sum_cons]; omega)
    exact h'.newC fun n42 w5 hn42 h5=>h5.st1 (k:=0) rfl (by simp) rfl fun w6 h6=>s3n w6 n42 v hn42 hp h6
   ·refine ⟨some (Addr.mk pb 0 none),true,rfl,?_⟩
    rw [z127]
    obtain ⟨F,hF,hs⟩:=toFr (X:=[]) hp k1 k2 k3 hps
    have hs:St w0 w' (locH n8 n6 n4 n2 D e (mapsH D (R0++F))):=hs
    exact hs.newC fun n42 w5 hn42 h5=>h5.st1 (k:=0) rfl (by simp) rfl fun w6 h6=>s3s w6 n42 pb ob nb q F hn42 hF h6
  ·rw [z127]
   refine hd.newC fun n350 w5 hn350 h5=>?_
   refine plan_ok (T:=D.d.th) (tb:=D.db) (tob:=D.tob) (tnb:=D.tnb) (tt:=37) (rest:=restCs D) (R:=(n350,Cs [.pointer none] 91)::locH n8 n6 n4 n2 D e (mapsH D R0)) hD.th hD.m3 hD.m4 (h5.perm (perm_by fun c=>?_)) (fun hp w' v h'=>?_) (fun q hp w' pb ob nb k1 k2 k3 hps=>?_)
   ·simp only [detH,List.map_append,List.map_cons,List.sum_append,List.sum_cons]
    omega
   ·refine ⟨v,false,rfl,?_⟩
    have h':St w0 w' ((n350,Cs [.pointer none] 91)::locH n8 n6 n4 n2 D e (detH D++R0)):=h'.perm (perm_by fun c=>by
     simp only [detH,List.map_append,List.map_cons,List.sum_append,List.sum_cons]; omega)
    exact h'.st1 (k:=0) rfl (by simp) rfl fun w6 h6=>s3n w6 n350 v hn350 hp h6
   ·refine ⟨some (Addr.mk pb 0 none),true,rfl,?_⟩
    obtain ⟨F,hF,hs⟩:=toFr (X:=[(n350,Cs [.pointer none] 91)]) hp k1 k2 k3 hps
    have hs:St w0 w' ((n350,Cs [.pointer none] 91)::locH n8 n6 n4 n2 D e (mapsH D (R0++F))):=hs
    exact hs.st1 (k:=0) rfl (by simp) rfl fun w6 h6=>s3s w6 n350 pb ob nb q F hn350 hF h6
end Go.Fx.Tryz
namespace Go.Fx.Tryz
set_option maxRecDepth 100000
open Go Go.Fx Go.Proofs
noncomputable def c31:Code:=bodyOf Tryz.f31
noncomputable def rs31:List ResultVar:=Tryz.f31.results.toList
abbrev f31_kb (K:KT):Exit→YT:=bodyK P rs31 K
def f31 (a:OA) (b c:Nat) (w:World) (K:KT):Prop:=CS P c31 none [2,3] [2,3] (f31_kb K) (env0 38 [(VS a b c)]) w
abbrev f31_k3 (K:KT):Exit→YT:=kseq P (cA c31 30) (cA c31 31) none [2,3] [2,3] (f31_kb K)
abbrev f31_k5 (K:KT):Exit→YT:=kblock 0 (f31_k3 K)
def f31_lp0 (K:KT) (Y0:YT) (e:Env) (w:World):Prop:=Join (fun e w=>CS P (cA c31 244) none [17,6,15,2,3,5,16] [2,3,5,6] (kloop [17,6,15,2,3,5,16] Y0 (f31_k5 K)) e w) e w
abbrev f31_kl0 (K:KT) (Y0:YT):Exit→YT:=kloop [17,6,15,2,3,5,16] Y0 (f31_k5 K)
def f31_lb0 (a:Int) (b:OA) (c d:Nat) (f:OA) (g h:Nat) (i:OA) (j k:Nat) (l:Bool) (m n:Int) (w:World) (K:KT) (Y0:YT):Prop:=SG P (cA c31 244) none [17,6,15,2,3,5,16] [2,3,5,6] (f31_kl0 K Y0) (Env.mk 38 [(17,(VI a)),(6,(VS b c d)),(15,(VS f g h)),(2,(VS i j k)),(3,(VB l)),(5,(VI m)),(16,(VI n))] []) w
def f31_s1 (a:OA) (b c:Nat) (d:OA) (f g:Nat) (h:Bool) (i j k:Int) (l:OA) (m n:Nat) (w:World) (K:KT) (Y0:YT):Prop:=SG P (cA c31 979) none [17,6,15,2,3,5,16] [2,3,5,6] (f31_kl0 K Y0) (Env.mk 38 [(15,(VS a b c)),(2,(VS d f g)),(3,(VB h)),(5,(VI i)),(16,(VI j)),(17,(VI k)),(6,(VS l m n))] []) w
def f31_s2 (a:OA) (b c:Nat) (d:OA) (f g:Nat) (h:OA) (i j:Nat) (k:Bool) (l m n:Int) (w:World) (K:KT) (Y0:YT):Prop:=SG P (cA c31 1959) none [17,6,15,2,3,5,16] [2,3,5,6] (f31_kl0 K Y0) (Env.mk 38 [(6,(VS a b c)),(15,(VS d f g)),(2,(VS h i j)),(3,(VB k)),(5,(VI l)),(16,(VI m)),(17,(VI n))] []) w
theorem f31_s2_eq (a:OA) (b c:Nat) (d:OA) (e f:Nat) (g:OA) (h i:Nat) (j:Bool) (k l m:Int) (w:World) (K:KT) (Y0:YT):f31_s2 a b c d e f g h i j k l m w K Y0=(Y0 (Env.mk 38 [(17,(Value.int .i64 (IntKind.wrap .i64 ((m:Int)+1)))),(6,(Value.slice a b c)),(15,(Value.slice d e f)),(2,(Value.slice g h i)),(3,(Value.bool j)),(5,(Value.int .i64 k)),(16,(Value.int .i64 l))] []) w):=by kernel_rfl
theorem f31_s1_eq (d:OA) (e g:Nat) (h:OA) (i j:Nat) (k:Bool) (l m a:Int) (n:OA) (o p:Nat) (w:World) (K:KT) (Y0:YT):f31_s1 d e g h i j k l m a n o p w K Y0=(optS d (fun z=>0≤(a:Int)∧(a:Int) < (e:Nat)∧LdA 11 (z.add (Int.toNat a * 11)) w (fun a0=>NewC (zcells P 108) 108 w (fun b b0=>StA 11 (Addr.mk b 0 none) a0 b0 (fun c=>∃ q:Int,c.cell? (Addr.mk b 0 none)=some (.int .u32 q)∧∃ r:Int,c.cell? ((Addr.mk b 0 none).add 1)=some (.int .i64 r)∧∃ s:Int,c.cell? ((Addr.mk b 0 none).add 6)=some (.int .i64 s)∧∃ f:Array Value,(∀ wq,(Instr.build 88 [(0,(Value.int .i64 (IntKind.wrap .i64 q))),(1,(Value.int .i64 r)),(2,(Value.int .i64 s))].toArray).run P wq=.ok (.agg f) wq)∧sizesAre 3 [(Value.agg f)]∧NewC (([(Value.agg f)].map fun (v:Value)=>v.cells.toList).flatten.toArray) 88 c (fun c0 d0=>∃ (t:OA) (u x:Nat),∃ y:World,(Builtin.append_ #[84,84] 84 [(Value.slice n o p),(Value.slice (some (Addr.mk c0 0 none)) 1 1)].toArray).run P d0=.ok (.slice t u x) y∧f31_s2 t u x d e g h i j k l m a y K Y0)))))):=by kernel_rfl
def f31_s3 (a:Int) (b:OA) (c d:Nat) (w:World) (K:KT):Prop:=SG P (cA c31 31) none [2,3] [2,3] (f31_kb K) (Env.mk 38 [(5,(VI a)),(6,(VS b c d))] []) w
theorem f31_s3_eq (a:Int) (b:OA) (c d:Nat) (w:World) (K:KT):f31_s3 a b c d w K=(K (Value.tuple [(Value.slice b c d),(Value.bool ((a:Int) == 0))].toArray) w):=by kernel_rfl
theorem f31_lb0_eq (a:Int) (b:OA) (c d:Nat) (g:OA) (h i:Nat) (j:OA) (k l:Nat) (m:Bool) (e f:Int) (w:World) (K:KT) (Y0:YT):f31_lb0 a b c d g h i j k l m e f w K Y0=(BIf (decide ((a:Int) < f)) (f31_s1 g h i j k l m e f a b c d w K Y0) (f31_s3 e b c d w K)):=by kernel_rfl
theorem f31_eq (e:OA) (f g:Nat) (w:World) (K:KT):f31 e f g w K=(CallL P 34 [(Value.slice e f g)] w (fun m n=>∃ (a:OA) (b c:Nat),∃ h:Int,m=(.tuple [(Value.slice a b c),(Value.int .i64 h)].toArray)∧∃ (i:OA) (j k:Nat),∃ d:World,(Instr.buildSlice 84 0 ([]:List (Nat × Value)).toArray).run P n=.ok (.slice i j k) d∧∃ l:Int,(∀ wq,Ext d wq→(Builtin.len_ #[39] 3 [(Value.slice a b c)].toArray).run P wq=.ok (.int .i64 l) wq)∧LoopE (f31_lp0 K) (Env.mk 38 [(17,(Value.int .i64 0)),(6,(Value.slice i j k)),(15,(Value.slice a b c)),(2,(Value.slice none 0 0)),(3,(Value.bool false)),(5,(Value.int .i64 h)),(16,(Value.int .i64 l))] []) d)):=by kernel_rfl
theorem f31_ok (a:OA) (b c:Nat) (w:World) (K:KT) (h:f31 a b c w K):CallL P 31 [(Value.slice a b c)] w K:=okCS c31 Tryz.func31 (by kernel_rfl) (by kernel_rfl) h
noncomputable def c66:Code:=bodyOf Tryz.f66
noncomputable def rs66:List ResultVar:=Tryz.f66.results.toList
abbrev f66_kb (K:KT):Exit→YT:=bodyK P rs66 K
def f66 (a b:Array Value) (w:World) (K:KT):Prop:=CS P c66 none [4] [4] (f66_kb K) (env0 19 [(Value.agg a),(Value.agg b)]) w
def f66_s0 (a:Int) (w:World) (K:KT):Prop:=SG P (cA c66 7) none [4] [4] (f66_kb K) (Env.mk 19 [(4,(VI a))] []) w
theorem f66_s0_eq (a:Int) (w:World) (K:KT):f66_s0 a w K=(K (Value.int .i64 a) w):=by kernel_rfl
theorem f66_eq (s t:Array Value) (w:World) (K:KT):f66 s t w K=(NewC s 108 w (fun d j0=>NewC t 108 j0 (fun e a=>∃ b:Int,a.drew.cell? ((Addr.mk d 0 none).add 6)=some (.int .i64 b)∧∃ c:Int,a.drew.cell? ((Addr.mk e 0 none).add 6)=some (.int .i64 c)∧(CallL P 68 [(Value.int .i64 b),(Value.int .i64 c)] a.drew (fun l0 f=>∃ g:Int,l0=(.int .i64 g)∧∃ u:Int,f.cell? (Addr.mk d 0 none)=some (.int .u32 u)∧∃ x:Int,f.cell? (Addr.mk e 0 none)=some (.int .u32 x)∧CallL P 69 [(Value.int .u32 u),(Value.int .u32 x)] f (fun m0 n0=>∃ h:Int,m0=(.int .i64 h)∧sizesAre 1 [(Value.int .i64 g),(Value.int .i64 h)]∧NewC (([(Value.int .i64 g),(Value.int .i64 h)].map fun (v:Value)=>v.cells.toList).flatten.toArray) 3 n0 (fun o0 p0=>CallL P 67 [(Value.slice (some (Addr.mk o0 0 none)) 2 2)] p0 (fun q0 r0=>∃ y:Int,q0=(.int .i64 y)∧f66_s0 y r0 K)))))∧(∃ i:Int,a.drew.cell? (Addr.mk d 0 none)=some (.int .u32 i)∧(CallL P 68 [(Value.int .i64 b),(Value.int .i64 c)] a.drew (fun s0 z=>∃ j:Int,s0=(.int .i64 j)∧∃ a0:Int,z.cell? (Addr.mk e 0 none)=some (.int .u32 a0)∧CallL P 69 [(Value.int .u32 i),(Value.int .u32 a0)] z (fun t0 u0=>∃ k:Int,t0=(.int .i64 k)∧sizesAre 1 [(Value.int .i64 j),(Value.int .i64 k)]∧NewC (([(Value.int .i64 j),(Value.int .i64 k)].map fun (v:Value)=>v.cells.toList).flatten.toArray) 3 u0 (fun v0 x0=>CallL P 67 [(Value.slice (some (Addr.mk v0 0 none)) 2 2)] x0 (fun y0 z0=>∃ b0:Int,y0=(.int .i64 b0)∧f66_s0 b0 z0 K)))))∧(∃ c0:Int,a.drew.cell? (Addr.mk e 0 none)=some (.int .u32 c0)∧CallL P 68 [(Value.int .i64 b),(Value.int .i64 c)] a.drew (fun A0 B0=>∃ l:Int,A0=(.int .i64 l)∧CallL P 69 [(Value.int .u32 i),(Value.int .u32 c0)] B0 (fun C0 D0=>∃ m:Int,C0=(.int .i64 m)∧sizesAre 1 [(Value.int .i64 l),(Value.int .i64 m)]∧NewC (([(Value.int .i64 l),(Value.int .i64 m)].map fun (v:Value)=>v.cells.toList).flatten.toArray) 3 D0 (fun E0 F0=>CallL P 67 [(Value.slice (some (Addr.mk E0 0 none)) 2 2)] F0 (fun G0 H0=>∃ d0:Int,G0=(.int .i64 d0)∧f66_s0 d0 H0 K))))))∧(∃ n:Int,a.drew.cell? (Addr.mk e 0 none)=some (.int .u32 n)∧(CallL P 68 [(Value.int .i64 b),(Value.int .i64 c)] a.drew (fun I0 e0=>∃ o:Int,I0=(.int .i64 o)∧∃ f0:Int,e0.cell? (Addr.mk d 0 none)=some (.int .u32 f0)∧CallL P 69 [(Value.int .u32 f0),(Value.int .u32 n)] e0 (fun J0 L0=>∃ p:Int,J0=(.int .i64 p)∧sizesAre 1 [(Value.int .i64 o),(Value.int .i64 p)]∧NewC (([(Value.int .i64 o),(Value.int .i64 p)].map fun (v:Value)=>v.cells.toList).flatten.toArray) 3 L0 (fun M0 N0=>CallL P 67 [(Value.slice (some (Addr.mk M0 0 none)) 2 2)] N0 (fun O0 Q0=>∃ g0:Int,O0=(.int .i64 g0)∧f66_s0 g0 Q0 K)))))∧(∃ h0:Int,a.drew.cell? (Addr.mk d 0 none)=some (.int .u32 h0)∧CallL P 68 [(Value.int .i64 b),(Value.int .i64 c)] a.drew (fun R0 S0=>∃ q:Int,R0=(.int .i64 q)∧CallL P 69 [(Value.int .u32 h0),(Value.int .u32 n)] S0 (fun T0 U0=>∃ r:Int,T0=(.int .i64 r)∧sizesAre 1 [(Value.int .i64 q),(Value.int .i64 r)]∧NewC (([(Value.int .i64 q),(Value.int .i64 r)].map fun (v:Value)=>v.cells.toList).flatten.toArray) 3 U0 (fun V0 W0=>CallL P 67 [(Value.slice (some (Addr.mk V0 0 none)) 2 2)] W0 (fun X0 Y0=>∃ i0:Int,X0=(.int .i64 i0)∧f66_s0 i0 Y0 K))))))))):=by kernel_rfl
theorem f66_ok (a b:Array Value) (w:World) (K:KT) (h:f66 a b w K):CallL P 66 [(Value.agg a),(Value.agg b)] w K:=okCS c66 Tryz.func66 (by kernel_rfl) (by kernel_rfl) h
noncomputable def c67:Code:=bodyOf Tryz.f67
noncomputable def rs67:List ResultVar:=Tryz.f67.results.toList
abbrev f67_kb (K:KT):Exit→YT:=bodyK P rs67 K
def f67 (a:OA) (b c:Nat) (w:World) (K:KT):Prop:=CS P c67 none [2] [2] (f67_kb K) (env0 18 [(VS a b c)]) w
abbrev f67_k2 (K:KT):Exit→YT:=kseq P (cA c67 14) (cA c67 15) none [2] [2] (f67_kb K)
abbrev f67_k4 (K:KT):Exit→YT:=kblock 0 (f67_k2 K)
def f67_lp0 (K:KT) (Y0:YT) (e:Env) (w:World):Prop:=Join (fun e w=>CS P (cA c67 116) none [3,8,6,2,7] [2,3] (kloop [3,8,6,2,7] Y0 (f67_k4 K)) e w) e w
abbrev f67_kl0 (K:KT) (Y0:YT):Exit→YT:=kloop [3,8,6,2,7] Y0 (f67_k4 K)
def f67_lb0 (a b:Int) (c:OA) (d f:Nat) (g h:Int) (w:World) (K:KT) (Y0:YT):Prop:=SG P (cA c67 116) none [3,8,6,2,7] [2,3] (f67_kl0 K Y0) (Env.mk 18 [(3,(VI a)),(8,(VI b)),(6,(VS c d f)),(2,(VI g)),(7,(VI h))] []) w
def f67_s1 (a:Int) (b:OA) (c d:Nat) (f g h:Int) (w:World) (K:KT) (Y0:YT):Prop:=SG P (cA c67 467) none [3,8,6,2,7] [2,3] (f67_kl0 K Y0) (Env.mk 18 [(3,(VI a)),(6,(VS b c d)),(7,(VI f)),(8,(VI g)),(2,(VI h))] []) w
def f67_s2 (a:Int) (b:OA) (c d:Nat) (f g h:Int) (w:World) (K:KT) (Y0:YT):Prop:=SG P (cA c67 935) none [3,8,6,2,7] [2,3] (f67_kl0 K Y0) (Env.mk 18 [(3,(VI a)),(6,(VS b c d)),(2,(VI f)),(7,(VI g)),(8,(VI h))] []) w
theorem f67_s2_eq (a:Int) (b:OA) (c d:Nat) (e f g:Int) (w:World) (K:KT) (Y0:YT):f67_s2 a b c d e f g w K Y0=(Y0 (Env.mk 18 [(3,(Value.int .i64 a)),(8,(Value.int .i64 (IntKind.wrap .i64 ((g:Int)+1)))),(6,(Value.slice b c d)),(2,(Value.int .i64 e)),(7,(Value.int .i64 f))] []) w):=by kernel_rfl
theorem f67_s1_eq (b:Int) (c:OA) (d f:Nat) (g a h:Int) (w:World) (K:KT) (Y0:YT):f67_s1 b c d f g a h w K Y0=(optS c (fun i=>0≤(a:Int)∧(a:Int) < (d:Nat)∧∃ e:Int,w.cell? (i.add (Int.toNat a * 1))=some (.int .i64 e)∧BIf ((e:Int) != b) (K (Value.int .i64 e) w) (f67_s2 b c d f h g a w K Y0))):=by kernel_rfl
def f67_s3 (a:Int) (w:World) (K:KT):Prop:=SG P (cA c67 15) none [2] [2] (f67_kb K) (Env.mk 18 [(3,(VI a))] []) w
theorem f67_s3_eq (a:Int) (w:World) (K:KT):f67_s3 a w K=(K (Value.int .i64 a) w):=by kernel_rfl
theorem f67_lb0_eq (a b:Int) (d:OA) (e f:Nat) (g c:Int) (w:World) (K:KT) (Y0:YT):f67_lb0 a b d e f g c w K Y0=(BIf (decide ((b:Int) < c)) (f67_s1 a d e f c b g w K Y0) (f67_s3 a w K)):=by kernel_rfl
theorem f67_eq (a:OA) (b c:Nat) (w:World) (K:KT):f67 a b c w K=(∃ d:Int,(∀ wq,Ext w wq→(Builtin.len_ #[61] 3 [(Value.slice a b c)].toArray).run P wq=.ok (.int .i64 d) wq)∧LoopE (f67_lp0 K) (Env.mk 18 [(3,(Value.int .i64 0)),(8,(Value.int .i64 0)),(6,(Value.slice a b c)),(2,(Value.int .i64 0)),(7,(Value.int .i64 d))] []) w):=by kernel_rfl
theorem f67_ok (a:OA) (b c:Nat) (w:World) (K:KT) (h:f67 a b c w K):CallL P 67 [(Value.slice a b c)] w K:=okCS c67 Tryz.func67 (by kernel_rfl) (by kernel_rfl) h
noncomputable def c68:Code:=bodyOf Tryz.f68
noncomputable def rs68:List ResultVar:=Tryz.f68.results.toList
abbrev f68_kb (K:KT):Exit→YT:=bodyK P rs68 K
def f68 (a b:Int) (w:World) (K:KT):Prop:=CS P c68 none [4] [4] (f68_kb K) (env0 20 [(VI a),(VI b)]) w
abbrev f68_k3 (K:KT):Exit→YT:=kseq P (cA c68 30) (cA c68 31) none [4] [4] (f68_kb K)
def f68_s0 (w:World) (K:KT):Prop:=SG P (cA c68 245) none [1,0,6] [4] (f68_k3 K) (Env.mk 20 [] []) w
def f68_s1 (a b:Int) (c:Bool) (w:World) (K:KT):Prop:=SG P (cA c68 31) none [4] [4] (f68_kb K) (Env.mk 20 [(1,(VI a)),(0,(VI b)),(6,(VB c))] []) w
def f68_s2 (a b:Int) (w:World) (K:KT):Prop:=SG P (cA c68 63) none [4] [4] (f68_kb K) (Env.mk 20 [(1,(VI a)),(0,(VI b))] []) w
def f68_s3 (a b:Int) (w:World) (K:KT):Prop:=SG P (cA c68 127) none [4] [4] (f68_kb K) (Env.mk 20 [(1,(VI a)),(0,(VI b))] []) w
def f68_s4 (w:World) (K:KT):Prop:=SG P (cA c68 255) none [4] [4] (f68_kb K) (Env.mk 20 [] []) w
theorem f68_s4_eq (w:World) (K:KT):f68_s4 w K=(K (Value.int .i64 0) w):=by kernel_rfl
theorem f68_s3_eq (a b:Int) (w:World) (K:KT):f68_s3 a b w K=(BIf (decide ((b:Int) > a)) (K (Value.int .i64 1) w) (f68_s4 w K)):=by kernel_rfl
theorem f68_s2_eq (a b:Int) (w:World) (K:KT):f68_s2 a b w K=(BIf (decide ((b:Int) < a)) (K (Value.int .i64 (-1)) w) (f68_s3 a b w K)):=by kernel_rfl
theorem f68_s1_eq (a b:Int) (c:Bool) (w:World) (K:KT):f68_s1 a b c w K=(BIf c (K (Value.int .i64 1) w) (f68_s2 a b w K)):=by kernel_rfl
theorem f68_eq (a b:Int) (w:World) (K:KT):f68 a b w K=(CallL P 90 [(Value.int .i64 a)] w (fun f g=>∃ e:Bool,f=(.bool e)∧CallL P 90 [(Value.int .i64 b)] g (fun h c=>∃ d:Bool,h=(.bool d)∧BIf e (BIf d (K (Value.int .i64 0) c) (f68_s0 c K)) (f68_s1 b a d c K)))):=by kernel_rfl
theorem f68_ok (a b:Int) (w:World) (K:KT) (h:f68 a b w K):CallL P 68 [(Value.int .i64 a),(Value.int .i64 b)] w K:=okCS c68 Tryz.func68 (by kernel_rfl) (by kernel_rfl) h
noncomputable def c69:Code:=bodyOf Tryz.f69
noncomputable def rs69:List ResultVar:=Tryz.f69.results.toList
abbrev f69_kb (K:KT):Exit→YT:=bodyK P rs69 K
def f69 (a b:Int) (w:World) (K:KT):Prop:=CS P c69 none [4] [4] (f69_kb K) (env0 20 [(Value.int .u32 a),(Value.int .u32 b)]) w
abbrev f69_k3 (K:KT):Exit→YT:=kseq P (cA c69 30) (cA c69 31) none [4] [4] (f69_kb K)
def f69_s0 (w:World) (K:KT):Prop:=SG P (cA c69 245) none [1,0,6] [4] (f69_k3 K) (Env.mk 20 [] []) w
def f69_s1 (a b:Int) (c:Bool) (w:World) (K:KT):Prop:=SG P (cA c69 31) none [4] [4] (f69_kb K) (Env.mk 20 [(1,(Value.int .u32 a)),(0,(Value.int .u32 b)),(6,(VB c))] []) w
def f69_s2 (a b:Int) (w:World) (K:KT):Prop:=SG P (cA c69 63) none [4] [4] (f69_kb K) (Env.mk 20 [(1,(Value.int .u32 a)),(0,(Value.int .u32 b))] []) w
def f69_s3 (a b:Int) (w:World) (K:KT):Prop:=SG P (cA c69 127) none [4] [4] (f69_kb K) (Env.mk 20 [(1,(Value.int .u32 a)),(0,(Value.int .u32 b))] []) w
def f69_s4 (w:World) (K:KT):Prop:=SG P (cA c69 255) none [4] [4] (f69_kb K) (Env.mk 20 [] []) w
theorem f69_s4_eq (w:World) (K:KT):f69_s4 w K=(K (Value.int .i64 0) w):=by kernel_rfl
theorem f69_s3_eq (a b:Int) (w:World) (K:KT):f69_s3 a b w K=(BIf (decide ((b:Int) > a)) (K (Value.int .i64 1) w) (f69_s4 w K)):=by kernel_rfl
theorem f69_s2_eq (a b:Int) (w:World) (K:KT):f69_s2 a b w K=(BIf (decide ((b:Int) < a)) (K (Value.int .i64 (-1)) w) (f69_s3 a b w K)):=by kernel_rfl
theorem f69_s1_eq (a b:Int) (c:Bool) (w:World) (K:KT):f69_s1 a b c w K=(BIf c (K (Value.int .i64 1) w) (f69_s2 a b w K)):=by kernel_rfl
theorem f69_eq (a b:Int) (w:World) (K:KT):f69 a b w K=(CallL P 91 [(Value.int .u32 a)] w (fun f g=>∃ e:Bool,f=(.bool e)∧CallL P 91 [(Value.int .u32 b)] g (fun h c=>∃ d:Bool,h=(.bool d)∧BIf e (BIf d (K (Value.int .i64 0) c) (f69_s0 c K)) (f69_s1 b a d c K)))):=by kernel_rfl
theorem f69_ok (a b:Int) (w:World) (K:KT) (h:f69 a b w K):CallL P 69 [(Value.int .u32 a),(Value.int .u32 b)] w K:=okCS c69 Tryz.func69 (by kernel_rfl) (by kernel_rfl) h
noncomputable def c90:Code:=bodyOf Tryz.f90
noncomputable def rs90:List ResultVar:=Tryz.f90.results.toList
abbrev f90_kb (K:KT):Exit→YT:=bodyK P rs90 K
def f90 (a:Int) (w:World) (K:KT):Prop:=CS P c90 none [2] [2] (f90_kb K) (env0 6 [(VI a)]) w
theorem f90_eq (a:Int) (w:World) (K:KT):f90 a w K=(K (Value.bool ((a:Int) != a)) w):=by kernel_rfl
theorem f90_ok (a:Int) (w:World) (K:KT) (h:f90 a w K):CallL P 90 [(Value.int .i64 a)] w K:=okCS c90 Tryz.func90 (by kernel_rfl) (by kernel_rfl) h
noncomputable def c91:Code:=bodyOf Tryz.f91
noncomputable def rs91:List ResultVar:=Tryz.f91.results.toList
abbrev f91_kb (K:KT):Exit→YT:=bodyK P rs91 K
def f91 (a:Int) (w:World) (K:KT):Prop:=CS P c91 none [2] [2] (f91_kb K) (env0 6 [(Value.int .u32 a)]) w
theorem f91_eq (a:Int) (w:World) (K:KT):f91 a w K=(K (Value.bool ((a:Int) != a)) w):=by kernel_rfl
theorem f91_ok (a:Int) (w:World) (K:KT) (h:f91 a w K):CallL P 91 [(Value.int .u32 a)] w K:=okCS c91 Tryz.func91 (by kernel_rfl) (by kernel_rfl) h
end Go.Fx.Tryz
namespace Go.Fx.Tryz
open Go Go.Fx Go.Fx.Mo
open Go.Proofs
variable {w0 w:World} {H:HL} {K:KT}
set_option maxRecDepth 20000
theorem build121 (a b:Nat) (wq:World):(Instr.build 33 [(4,(Value.map (some a))),(5,(Value.map (some b)))].toArray).run P wq=.ok (.agg ((thCs begin' a b).set 64 (.bool false)).toArray) wq:=by kernel_rfl
theorem z121:∃ cs:List Value,zcells P 33=cs.toArray∧cs.length=90:=⟨(thCs begin' 0 0).set 64 (.bool false) |>.set 88 (.map none) |>.set 89 (.map none),by kernel_rfl,by kernel_rfl⟩
theorem th0_len (a b:Nat):(thCs begin' a b).length=90:=by kernel_rfl
theorem th0_one (a b:Nat):∀ v∈thCs begin' a b,v.oneCell'=true:=by
 intro v hv
 simp [thCs,begin',zeroC,List.replicate] at hv
 rcases hv with rfl | rfl | rfl | rfl | rfl | rfl <;> rfl
theorem splice_whole {cs vs:List Value} (h:vs.length=cs.length):splice cs 0 vs=vs:=by
 rw [splice_eq _ _ _ (by omega)]
 simp [h]
theorem begin_ok (h:St w0 w H) (hK:∀ w' a b,w0.heap.size≤a→w0.heap.size≤b→St w0 w' ((a,.map #[] 0)::(b,.map #[] 0)::H)→K (.agg (thCs begin' a b).toArray) w'):CallL P 47 [] w K:=by
 refine f47_ok _ _ ?_
 obtain ⟨zs,hz,hzl⟩:=z121
 rw [f47_eq,hz]
 refine h.newC fun n0 w1 hn0 h1=>h1.newO fun a w2 ha h2=>h2.newO fun b w3 hb h3=>?_
 refine ⟨_,build121 a b,h3.newC fun n7 w4 hn7 h4=>?_⟩
 have hl:((thCs begin' a b).set 64 (.bool false)).length=90:=by rw [List.length_set,th0_len]
 have hone:∀ v∈(thCs begin' a b).set 64 (.bool false),v.oneCell'=true:=fun v hv=>by
  rcases List.mem_or_eq_of_mem_set hv with hv | rfl
  ·exact th0_one a b v hv
  ·rfl
 refine h4.stA (k:=0) rfl (by simpa using hl) (by simp [hzl]) (by simpa using hone) fun w5 h5=>⟨by omega,by omega,?_⟩
 have h5:St w0 w5 ((n7,Cs (splice zs 0 ((thCs begin' a b).set 64 (.bool false))) 33)::(b,.map #[] 0)::(a,.map #[] 0)::(n0,Cs zs 33)::H):=h5
 rw [splice_whole (by rw [hl,hzl])] at h5
 simp only [add_lit',Nat.zero_add]
 refine h5.st1 (k:=0) rfl (by rw [hl]; decide) rfl fun w6 h6=>?_
 have h6:St w0 w6 ((n7,Cs (((thCs begin' a b).set 64 (.bool false)).set 64 (.bool true)) 33)::(b,.map #[] 0)::(a,.map #[] 0)::(n0,Cs zs 33)::H):=h6
 have e:((thCs begin' a b).set 64 (.bool false)).set 64 (.bool true)=thCs begin' a b:=by
  rw [List.set_set]; kernel_rfl
 rw [e] at h6
 refine h6.ldA (k:=0) (i:=0) rfl (by rw [th0_len]; decide) ?_
 have e2:((thCs begin' a b).drop 0).take 90=thCs begin' a b:=List.take_of_length_le (by simp [th0_len])
 rw [e2]
 refine h6.stA (k:=3) rfl (by simp [th0_len]) (by simp [hzl]) (by simpa using th0_one a b) fun w7 h7=>?_
 have h7:St w0 w7 ((n7,Cs (thCs begin' a b) 33)::(b,.map #[] 0)::(a,.map #[] 0)::(n0,Cs (splice zs 0 (thCs begin' a b)) 33)::H):=h7
 rw [splice_whole (by rw [th0_len,hzl])] at h7
 refine h7.ldA (k:=3) (i:=0) rfl (by rw [th0_len]; decide) ?_
 rw [e2]
 refine hK w7 a b ha hb ?_
 refine St.sub (L:=[(n7,Cs (thCs begin' a b) 33),(n0,Cs (thCs begin' a b) 33)]) (h7.perm (perm_by fun c=>?_)) ?_
 ·simp only [List.map_append,List.map_cons,List.map_nil,List.sum_append,List.sum_cons,List.sum_nil]; omega
 ·intro x hx
  simp only [List.mem_cons,List.not_mem_nil,or_false] at hx
  rcases hx with rfl | rfl
  ·exact hn7
  ·exact hn0
theorem th0_ok:ThOk begin':=⟨rfl,by simp [begin',zeroC],rfl,rfl,rfl,by simp [begin']⟩
def D0 (db tob tnb cb lb:Nat):DB:=⟨db,tob,tnb,cb,lb,#[],0,#[],0,#[],0,#[],0,det0,[]⟩
theorem build126 (a b c d:Nat) (wq:World):(Instr.build 37 [(0,(Value.agg (thCs begin' a b).toArray)),(1,(Value.bool true)),(3,(Value.map (some c))),(4,(Value.map (some d)))].toArray).run P wq=.ok (.agg (thCs begin' a b++restCs (D0 0 a b c d)).toArray) wq:=by kernel_rfl
theorem D0_ok {db a b c d:Nat} (hn:w0.heap.size≤db∧w0.heap.size≤a∧w0.heap.size≤b∧w0.heap.size≤c∧w0.heap.size≤d):DBok w0 (D0 db a b c d):=
 ⟨th0_ok,MapIs.empty,MapIs.empty,MapIs.empty,MapIs.empty,rfl,by simp [D0],by simp [D0,det0],hn⟩
theorem new_ok (h:St w0 w H) (hK:∀ w' D,D.d=det0→DBok w0 D→St w0 w' (detH D++H)→K (ptr D.db) w'):CallL P 11 [] w K:=by
 refine f11_ok _ _ ?_
 rw [f11_eq]
 refine begin_ok h fun w1 a b ha hb h1=>⟨_,rfl,?_⟩
 refine h1.newO fun c w2 hc h2=>h2.newO fun d w3 hd h3=>⟨_,build126 a b c d,?_⟩
 refine h3.newC fun n8 w4 hn8 h4=>hK w4 (D0 n8 a b c d) rfl (D0_ok ⟨hn8,ha,hb,hc,hd⟩) ?_
 have h4:St w0 w4 ((n8,Cs (thCs begin' a b++restCs (D0 n8 a b c d)) 37)::(d,.map #[] 0)::(c,.map #[] 0)::(a,.map #[] 0)::(b,.map #[] 0)::H):=h4
 have e:detH (D0 n8 a b c d)=[(n8,Cs (thCs begin' a b++restCs (D0 n8 a b c d)) 37),(a,.map #[] 0),(b,.map #[] 0),(c,.map #[] 0),(d,.map #[] 0)]:=rfl
 rw [e]
 refine h4.perm (perm_by fun f=>?_)
 simp only [List.map_append,List.map_cons,List.map_nil,List.sum_append,List.sum_cons,List.sum_nil]
 omega
end Go.Fx.Tryz
namespace Go.Fx
open Go
variable {P:Program} {w0 w:World} {H:HL}
theorem add_add' (a:Addr) (m n:Nat):(a.add m).add n=a.add (m+n):=by
 unfold Addr.add
 by_cases hm:m=0
 ·subst hm; simp
 ·by_cases hn:n=0
  ·subst hn; simp [hm]
  ·have:¬ (m+n=0):=by omega
   simp [hm,hn]; omega
def Row (w:World) (size:Nat) (ov:Value) (n:Nat) (xs:List Value):Prop:=
 xs.length=n * size∧((ov=.slice none 0 0∧n=0)∨∃ a c,ov=.slice (some a) n c∧∀ i,i < n * size→w.cell? (a.add i)=xs[i]?)
theorem Row.form {size:Nat} {ov:Value} {n:Nat} {xs:List Value} (h:Row w size ov n xs):∃ a c,ov=.slice a n c:=by
 rcases h.2 with ⟨h1,h2⟩ | ⟨a,c,h1,_⟩
 ·exact ⟨_,_,by rw [h1,h2]⟩
 ·exact ⟨_,_,h1⟩
theorem Row.ldA {size:Nat} {ov:Value} {n:Nat} {xs:List Value} (h:Row w size ov n xs) {i:Nat} (hi:i < n) :
  ∃ a c,ov=.slice (some a) n c∧∀ K:Array Value→Prop,K ((xs.drop (i * size)).take size).toArray→LdA size (a.add (i * size)) w K:=by
 rcases h.2 with ⟨_,h0⟩ | ⟨a,c,h1,h2⟩
 ·omega
 ·have hle:i * size+size≤n * size:=by rw [← Nat.succ_mul]; exact Nat.mul_le_mul_right _ hi
  refine ⟨a,c,h1,fun K hK=>⟨_,by simp [h.1]; omega,fun j hj=>?_,hK⟩⟩
  rw [add_add',h2 _ (by omega)]
  simp [hj]
theorem SlO.row {size:Nat} {e:TypeId} {ov:Value} {n:Nat} {xs:List Value} {L:HL} (h:SlO size e ov n xs L) (hL:∀ x∈L,w.heap[x.1]?=some x.2):Row w size ov n xs:=by
 refine ⟨h.1,?_⟩
 rcases h.2 with ⟨h1,h2,_⟩ | ⟨g,cap,cur,h1,h2,h3,h4,h5,h6⟩
 ·exact .inl ⟨h1,h2⟩
 ·refine .inr ⟨_,_,h1,fun i hi=>?_⟩
  rw [add_lit',cell_of (hL (g,Cs cur e) (by simp [h2])),Nat.zero_add,← h6,List.getElem?_take,if_pos hi]
theorem Row.old {size:Nat} {ov:Value} {n:Nat} {xs:List Value} (h:Row w0 size ov n xs) (hn:New w0 H) (hs:St w0 w H):Row w size ov n xs:=by
 refine ⟨h.1,?_⟩
 rcases h.2 with h1 | ⟨a,c,h1,h2⟩
 ·exact .inl h1
 ·refine .inr ⟨a,c,h1,fun i hi=>?_⟩
  have hx:=h2 i hi
  have hi':i < xs.length:=by rw [h.1]; exact hi
  rw [List.getElem?_eq_getElem hi'] at hx
  rw [List.getElem?_eq_getElem hi',← hx]
  have hb:(a.add i).block < w0.heap.size:=by
   unfold World.cell? at hx
   cases hh:w0.heap[(a.add i).block]? with
   | none=>rw [hh] at hx; simp at hx
   | some o=>exact (Array.getElem?_eq_some_iff.1 hh).1
  unfold World.cell?
  rw [hs.old _ hb (fun hm=>by
   obtain ⟨x,hx,he⟩:=List.mem_map.1 hm
   have:=hn x hx
   omega)]
end Go.Fx
