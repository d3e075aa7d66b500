/- A part of the proof. -/
import Derived.RangeFuncRecord
import Derived.OrdersIn
import Derived.Test.YtamciedmojpjaaaGreatProg
import Derived.KernelRfl
import Derived.Maps.AppendAt
import Derived.MapKept
import GoSem.Core.View
import Derived.Laws.StructEq
import Derived.WideKeyRuns
set_option linter.unusedSectionVars false
set_option autoImplicit true
set_option relaxedAutoImplicit true
noncomputable section
namespace Go.Fx
open Go
def F(r:Option Nat):Fence:={ fn:=fun _=>True,depth:=none,alive:=false,round:=r }
@[simp] theorem qMy(r:Option Nat)(f:FuncId):(F r).fn f=True:=rfl
@[simp] theorem qL7(r:Option Nat):(F r).depth=none:=rfl
@[simp] theorem qC1(r:Option Nat):(F r).round=r:=rfl
section
variable {r:Option Nat} {P:Program} {ops:Array Oper} {Q:Exit->Act->World->Prop} {md:Region.Mode}
def Qc(o:Oper):Prop:=∀ c,o.op≠.defer c
def qmu(P:Program)(Rel:World->World->Prop)(o:Oper):Prop:=
 ∀ ρ w,match(execOp ρ o).run P w with
  | .ok (.value _) w'=>Rel w w'
  | .ok .skip w'=>Rel w w'
  | .ok (.defer _) w'=>Rel w w'
  | .ok _ _=>∀ w',Rel w w'
  | .halt _ _=>True
theorem qmG(P:Program)(o:Oper):qmu P (fun _ _=>True) o:=fun ρ w=>by
 split<;>simp
def Yld(P:Program)(ops:Array Oper)(Rel:World->World->Prop)(o:Oper)(v:Value)(a:Act)(w:World):Prop:=
 (Region.wanted o (yielded ops a.tmps)=true/\∀ w2,Rel w w2->(execOp a.eval o).run P w2=.ok (.value v) w2)\/
 (Region.wanted o (yielded ops a.tmps)=false/\v=undef)
variable {Rel:World->World->Prop} (hrefl:∀ w,Rel w w) (htrans:∀ a b c,Rel a b->Rel b c->Rel a c)
theorem Yld.of_same{o:Oper}{v:Value}{a a':Act}{w:World}(hy:Yld P ops Rel o v a w)(he:execOp a'.eval o=execOp a.eval o)
  (hw:Region.wanted o (yielded ops a'.tmps)=Region.wanted o (yielded ops a.tmps)):Yld P ops Rel o v a' w:=by
 unfold Yld at *
 rw[he,hw]
 exact hy
include htrans in
theorem Yld.later{o:Oper}{v:Value}{a:Act}{w w':World}(hy:Yld P ops Rel o v a w)(h:Rel w w'):Yld P ops Rel o v a w':=
 hy.imp (fun h0=>⟨h0.1,fun w2 hr=>h0.2 w2 (htrans _ _ _ h hr)⟩) id
include htrans in
theorem qbz{j:Nat}{oi oj:Oper}{v:Value}(hj:ops[j]?=some oj)(hap:oi.apart ops oj=true)
  (hsi:∀ cs b,oi.op≠.select cs b) (hsj:∀ cs b,oj.op≠.select cs b) (hdj:Qc oj) (hm:qmu P Rel oj)
  (hQ:∀ c a w,¬ Q (.panic c) a w) {K:Act->World->Prop} {a:Act} {w:World}
  (hy:Yld P ops Rel oi v a w) (h:wpOpIn (F r) 0 P ops Q j K (a.put oi.dst v) w) :
  wpOpIn (F r) 0 P ops Q j (fun a' w'=>Yld P ops Rel oi v a' w'/\K (a'.put oi.dst v) w') a w:=by
 obtain⟨h1,h2,h3⟩:=Oper.apart_spec hap
 have yy:∀ (a:Act) (w:World),Yld P ops Rel oi v a w->∀ u,Yld P ops Rel oi v (a.put oj.dst u) w:=fun a w hy u=>
  hy.of_same (execOp_put oi hsi a oj.dst u h3) (wanted_put oi a oj.dst u h3)
 have keepD:∀ (a:Act) (w:World),Yld P ops Rel oi v a w->∀ d,Yld P ops Rel oi v { a with defers:=d::a.defers } w:=fun a w hy d=>hy.of_same rfl rfl
 unfold wpOpIn at *
 simp only[hj]at *
 rw[wanted_put oj a oi.dst v h1]at h
 have hmm:=hm a.eval w
 split
 ·rename_i hw
  simp only[hw,if_true]at h
  unfold Oper.wpIn at *
  refine⟨fun _ _=>trivial,?_⟩
  have h:=h.2
  rw[Oper.semAt_eq _ _ _ hdj,execOp_put oj hsj a oi.dst v h1]at h
  rw[Oper.semAt_eq _ _ _ hdj]
  generalize (execOp a.eval oj).run P w=rr at *
  cases rr with
  | ok x w'=>
   cases x<;>simp only[Oper.uponIn]at h hmm ⊢
   case value u=>exact⟨yy a w' (hy.later htrans hmm) u,by rw[<-Act.put_comm a v u h2];exact h⟩
   case skip=>exact⟨yy a w' (hy.later htrans hmm) _,by rw[<-Act.put_comm a v undef h2];exact h⟩
   case defer d=>
    refine⟨yy _ w' (keepD a w' (hy.later htrans hmm) d) _,?_⟩
    rw[<-Act.put_comm _ v undef h2,<-Act.put_defers]
    exact h
   case enter f args=>
    refine⟨h.1,CallsIn.mono h.2 fun e w'' he=>?_⟩
    cases e with
    | returned u=>exact⟨yy a w'' (hy.later htrans (hmm w'')) u,by rw[<-Act.put_comm a v u h2];exact he⟩
    | panicked c=>exact(hQ _ _ _ he).elim
    | outgrown=>exact he
   case row row args=>exact⟨h.1,RowsIn.mono h.2 fun u w'' he=>⟨yy a w'' (hy.later htrans (hmm w'')) u,by rw[<-Act.put_comm a v u h2];exact he⟩⟩
   case round l f tmps assign body=>
    refine⟨h.1,RoundIn.mono h.2 fun e w'' he=>?_⟩
    cases e with
    | returned u=>exact⟨yy a w'' (hy.later htrans (hmm w'')) u,by rw[<-Act.put_comm a v u h2];exact he⟩
    | panicked c=>exact(hQ _ _ _ he).elim
    | outgrown=>exact he
  | halt x w'=>
   cases x<;>simp only[Oper.uponIn]at h ⊢
   case panic u=>exact(hQ _ _ _ h).elim
 ·rename_i hw
  simp only[hw]at h
  exact⟨fun _ _=>trivial,yy a w hy _,by rw[<-Act.put_comm a v undef h2];exact h.2⟩
end
def zZ(w w':World):Prop:=∀ b:Nat,b<w.heap.size->w'.heap[b]?=w.heap[b]?
theorem zZ.refl(w:World):zZ w w:=fun _ _=>rfl
theorem zZ.size{w w':World}(h:zZ w w'):w.heap.size<=w'.heap.size:=by
 rcases Nat.lt_or_ge w'.heap.size w.heap.size with h' | h'
 ·have h1:=h w'.heap.size h'
  rw[Array.getElem?_eq_getElem h',Array.getElem?_eq_none (Nat.le_refl _)]at h1
  cases h1
 ·exact h'
theorem zZ.trans(a b c:World)(h:zZ a b)(h':zZ b c):zZ a c:=fun n hn=>(h' n (Nat.lt_of_lt_of_le hn h.size)).trans (h n hn)
theorem zZ.alloc(w:World)(o:Obj):zZ w (w.alloc o):=fun b hb=>by
 show(w.heap.push o)[b]?=_
 rw[Array.getElem?_push]
 simp[Nat.ne_of_lt hb]
theorem zZ.cell{w w':World}(h:zZ w w'){a:Addr}{v:Value}(hc:w.cell? a=some v):w'.cell? a=some v:=by
 have hb:=World.block_lt_of_cell? w a hc
 unfold World.cell? at *
 rw[h _ hb]
 exact hc
def zX{α:Type}(P:Program)(s:Sem α):Prop:=∀ w x w',s.run P w=.ok x w'->zZ w w'
section gentle
variable {α β:Type} {P:Program}
theorem zX.pure(a:α):zX P (Pure.pure a:Sem α):=fun w x w' h=>by simp at h;rw[h.2];exact zZ.refl _
theorem zX.bind{s:Sem α}{f:α->Sem β}(h:zX P s)(hf:∀ a,zX P (f a)):zX P (s >>= f):=fun w x w' hr=>by
 rw[Sem.run_bind]at hr
 cases hs:s.run P w with
 | ok a w1=>rw[hs]at hr;exact zZ.trans _ _ _ (h _ _ _ hs) (hf a _ _ _ hr)
 | halt e w1=>rw[hs]at hr;simp at hr
theorem zX.halt(e:Halt):zX P (Sem.halt e:Sem α):=fun w x w' h=>by simp at h
theorem zX.stuck(s:String):zX P (Go.stuck s:Sem α):=zX.halt _
theorem zX.unsupported(u:Unsupported):zX P (Go.unsupported u:Sem α):=zX.halt _
theorem zX.program:zX P Go.program:=fun w x w' h=>by simp at h;rw[h.2];exact zZ.refl _
theorem zX.newObj(o:Obj):zX P (Go.newObj o):=fun w x w' h=>by
 simp only[run_newObj]at h;cases h;exact zZ.alloc w o
theorem zX.typeInfo(t:TypeId):zX P (Go.typeInfo t):=by
 unfold Go.typeInfo
 refine .bind .program fun p=>?_
 split
 ·exact .pure _
 ·exact .stuck _
theorem zX.zeroValue(t:TypeId):zX P (Go.zeroValue t):=by
 unfold Go.zeroValue
 refine .bind (.typeInfo _) fun p=>?_
 split
 ·exact .pure _
 ·exact .unsupported _
theorem zX.newRow(t:TypeId)(c:Array Value):zX P (Go.newRow t c):=by
 unfold Go.newRow
 exact .bind (.newObj _) fun n=>.pure _
theorem zX.newVar(t:TypeId)(v:Value):zX P (Go.newVar t v):=.newRow _ _
end gentle
structure ql where
 n:Nat
 l:List (Nat × Value)
 d:List Deferred
def ql.find:List (Nat × Value)->Nat->Option Value
 | [],_=>none
 | (s,v)::r,t=>match Nat.beq s t with
  | true=>some v
  | false=>ql.find r t
def ql.get?(e:ql)(t:Nat):Option Value:=ql.find e.l t
def ql.put(e:ql):Option Nat->Value->ql
 | none,_=>e
 | some t,v=>match Nat.ble (t+1) e.n with
  | true=>{ e with l:=(t,v)::e.l }
  | false=>e
def ql.markE(e:ql):Option Nat->ql
 | none=>e
 | some t=>{ e with l:=(e.n+t,.tuple #[])::e.l }
def ql.marked(e:ql):Operand->Bool
 | .tmp t=>(e.get? (e.n+t)).isSome
 | _=>false
def ql.eval(e:ql):Operand->Option Value
 | .tmp t=>e.get? t
 | .const v=>some v
 | .global g=>some (.pointer (some ⟨g,0,none⟩))
 | .func f=>some (.func (.func f) #[] #[])
def ql.evalAll(e:ql):List Operand->Option (List Value)
 | []=>some []
 | x::r=>match e.eval x,e.evalAll r with
  | some v,some vs=>some (v::vs)
  | _,_=>none
def ql.restrictL(e:ql):List Nat->List (Nat × Value)
 | []=>[]
 | t::r=>match e.get? t with
  | some v=>(t,v)::e.restrictL r
  | none=>e.restrictL r
def ql.restrict(e:ql)(L:List Nat):ql:={ e with l:=e.restrictL L }
abbrev qi{α:Type}(x:Option α)(K:α->Prop):Prop:=match x with
 | some a=>K a
 | none=>False
def q8M(b:Bool)(f:Bool->Prop):Prop:=match b with
 | true=>f true
 | false=>f false
theorem q8M.elim{b:Bool}{f:Bool->Prop}(h:q8M b f):f b:=by cases b<;>exact h
def qC(b:Bool)(A B:Prop):Prop:=match b with
 | true=>A
 | false=>B
theorem qfs(b:Bool)(f:Bool->Prop):qC b (f true) (f false)=q8M b f:=by cases b<;>rfl
def Vg(P:Program)(s:TypeId)(f:Nat):Option (Nat × TypeId × Nat):=match P.underlying s with
 | some (.struct fs)=>match fs[f]? with
  | some x=>match P.info? x.type with
   | some i=>some (x.offset,x.type,i.size)
   | none=>none
  | none=>none
 | _=>none
def q0o(P:Program)(t:TypeId):Bool:=match P.underlying t with
 | some (.struct _)=>true
 | some (.array _ _)=>true
 | _=>false
def ZS(P:Program)(t:TypeId):Option Nat:=match P.info? t with
 | some i=>some i.size
 | none=>none
abbrev TyB(P:Program)(t:TypeId)(K:Value->Prop):Prop:=match P.underlying t with
 | some (.int k)=>∃ x:Int,K (.int k x)
 | some .bool=>∃ b:Bool,K (.bool b)
 | some (.pointer _)=>∃ p:Option Addr,K (.pointer p)
 | some (.slice _)=>∃ (a:Option Addr) (l c:Nat),K (.slice a l c)
 | some (.map _ _)=>∃ m:Option Nat,K (.map m)
 | some (.struct _)=>∃ cs:Array Value,K (.agg cs)
 | some (.array _ _)=>∃ cs:Array Value,K (.agg cs)
 | _=>∃ v:Value,K v
abbrev TyL(P:Program):List TypeId->List Value->(Value->Prop)->Prop
 | [],acc,K=>K (.tuple acc.reverse.toArray)
 | t::ts,acc,K=>TyB P t fun x=>TyL P ts (x::acc) K
abbrev TyV(P:Program)(t:TypeId)(v:Value)(K:Value->Prop):Prop:=match P.underlying t with
 | some (.tuple ts)=>TyL P ts.toList [] fun x=>v=x/\K x
 | _=>TyB P t fun x=>v=x/\K x
abbrev TyA(P:Program)(t:TypeId)(K:Value->Prop):Prop:=match P.underlying t with
 | some (.tuple ts)=>TyL P ts.toList [] K
 | _=>TyB P t K
abbrev Ys(P:Program)(t:TypeId)(s:Sem Value)(K:Value->Prop):Prop:=TyB P t fun v=>(∀ w,s.run P w=.ok v w)/\K v
abbrev qkh(P:Program)(t:TypeId)(s:Sem Value)(w:World)(K:Value->Prop):Prop:=TyA P t fun v=>(∀ w2,zZ w w2->s.run P w2=.ok v w2)/\K v
abbrev q0x(P:Program)(t:TypeId)(s:Sem Value)(w:World)(K:Value->World->Prop):Prop:=TyA P t fun v=>∃ w',s.run P w=.ok v w'/\K v w'
abbrev qGV(P:Program)(s:Sem Value)(w:World)(K:Value->World->Prop):Prop:=∃ (b:Nat) (w':World),s.run P w=.ok (.pointer (some ⟨b,0,none⟩)) w'/\K (.pointer (some ⟨b,0,none⟩)) w'
abbrev qJV(P:Program)(s:Sem Value)(w:World)(K:Value->World->Prop):Prop:=
 (∃ w',s.run P w=.ok (.tuple #[.bool false]) w'/\K (.tuple #[.bool false]) w')\/∃ (k v:Value) (w':World),s.run P w=.ok (.tuple #[.bool true,k,v]) w'/\K (.tuple #[.bool true,k,v]) w'
abbrev qJq(P:Program)(s:Sem Value)(w:World)(K:Value->World->Prop):Prop:=∃ (k v:Value) (w':World),s.run P w=.ok (.tuple #[k,v]) w'/\K (.tuple #[k,v]) w'
abbrev qGD(P:Program)(s:Sem Unit)(w:World)(K:World->Prop):Prop:=∃ w',s.run P w=.ok () w'/\K w'
abbrev qia(P:Program)(t:TypeId)(cs:Array Value)(off:Nat)(K:Value->Prop):Prop:=qi (P.underlying t) fun _=>match q0o P t with
 | true=>qi (ZS P t) fun n=>K (.agg (cs.extract off (off+n)))
 | false=>TyB P t fun x=>cs[off]?=some x/\K x
def qf(n:Nat)(a:Addr)(w:World)(K:Array Value->Prop):Prop:=∃ cs:Array Value,cs.size=n/\(∀ i,i<n->w.cell? (a.add i)=cs[i]?)/\K cs
abbrev LdT(P:Program)(t:TypeId)(a:Addr)(w:World)(K:Value->Prop):Prop:=qi (P.underlying t) fun _=>match q0o P t with
 | true=>qi (ZS P t) fun n=>qf n a w fun cs=>K (.agg cs)
 | false=>TyB P t fun x=>w.cell? a=some x/\K x
abbrev qGq(v:Value)(K:Value->Prop):Prop:=match v with
 | .pointer p=>qi p fun a=>K (.pointer (some a))
 | .func (.func f) x y=>K (.func (.func f) x y)
 | .func (.yield f) x y=>K (.func (.yield f) x y)
 | _=>False
abbrev qyD(c a b:Value)(K:Value->Prop):Prop:=match c with
 | .bool c=>match a,b with
  | .bool x,.bool y=>K (.bool (match c with | true=>x | false=>y))
  | _,_=>qC c (K a) (K b)
 | _=>False
abbrev q59(op:BinOp)(k:IntKind)(x y:Int)(K:Value->Prop):Prop:=match op with
 | .add=>K (.int k (k.wrap (x+y)))
 | .sub=>K (.int k (k.wrap (x-y)))
 | .mul=>K (.int k (k.wrap (x*y)))
 | .quo=>y≠0/\K (.int k (k.wrap (x.tdiv y)))
 | .rem=>y≠0/\K (.int k (x.tmod y))
 | .and=>K (.int k (k.wrap ((BitVec.ofInt k.bits x &&& BitVec.ofInt k.bits y).toNat:Int)))
 | .or=>K (.int k (k.wrap ((BitVec.ofInt k.bits x ||| BitVec.ofInt k.bits y).toNat:Int)))
 | .xor=>K (.int k (k.wrap ((BitVec.ofInt k.bits x ^^^ BitVec.ofInt k.bits y).toNat:Int)))
 | .andNot=>K (.int k (k.wrap ((BitVec.ofInt k.bits x &&& ~~~ BitVec.ofInt k.bits y).toNat:Int)))
 | .eql=>K (.bool (x==y))
 | .neq=>K (.bool (x != y))
 | .lss=>K (.bool (decide (x<y)))
 | .leq=>K (.bool (decide (x<=y)))
 | .gtr=>K (.bool (decide (x > y)))
 | .geq=>K (.bool (decide (x>=y)))
 | .shl=>0<=y/\K (.int k (k.wrap (x*2 ^ (min y.toNat k.bits))))
 | .shr=>0<=y/\K (.int k (x.fdiv (2 ^ (min y.toNat k.bits))))
def q3h:BinOp->Bool
 | .shl=>true
 | .shr=>true
 | _=>false
abbrev q1E(op:BinOp)(b:Bool)(K:Value->Prop):Prop:=match op with
 | .eql=>K (.bool b)
 | .neq=>K (.bool (!b))
 | _=>False
abbrev qya(P:Program)(rt:TypeId)(op:BinOp)(T:TypeId)(ox oy:Operand)(x y:Value)(K:Value->Prop):Prop:=
 Ys P rt (do eqGuard op T ox oy x y;binOp op T x y) K
abbrev qJF(P:Program)(rt:TypeId)(op:BinOp)(T:TypeId)(ox oy:Operand)(x y:Value)(K:Value->Prop):Prop:=match x,y with
 | .int k a,.int k' b=>match q3h op with
  | true=>q59 op k a b K
  | false=>match decide (k=k')with
   | true=>q59 op k a b K
   | false=>False
 | .bool a,.bool b=>match P.underlying T with
  | some .bool=>q1E op (a==b) K
  | _=>False
 | .pointer p,.pointer none=>match P.underlying T with
  | some (.pointer _)=>q1E op p.isNone K
  | _=>False
 | .slice p _ _,.slice none _ _=>match P.underlying T with
  | some (.slice _)=>q1E op p.isNone K
  | _=>False
 | .map p,.map none=>match P.underlying T with
  | some (.map _ _)=>q1E op p.isNone K
  | _=>False
 | x,y=>qya P rt op T ox oy x y K
def ZD(P:Program):Op->Bool
 | .move _=>true
 | .assign _=>true
 | .pick _ _ _=>true
 | .nilCheck _=>true
 | .binOp _ _ _ _ _=>true
 | .unOp _ _ _=>true
 | .convert _ dst _=>match P.underlying dst with
  | some (.int _)=>true
  | _=>false
 | .makeFunc _ _ _=>true
 | .fieldAddr _ _ _=>true
 | .field _ _ _=>true
 | .indexAddr _ _ _=>true
 | .index _ _ _=>true
 | .slice _ _ _ _ _=>true
 | .extract _ _=>true
 | .build _ _=>true
 | _=>false
def YM:Op->Bool
 | .load _ _=>true
 | .lookup _ _ _ _=>true
 | .call c=>match c.callee with
  | .builtin .len=>true
  | _=>false
 | _=>false
def q5W:Op->Bool
 | .alloc _=>true
 | .box _ _=>true
 | .makeMap _ none=>true
 | _=>false
def evalParts(e:ql):List (Nat × Operand)->Option (List (Nat × Value))
 | []=>some []
 | (i,x)::r=>match e.eval x,evalParts e r with
  | some v,some vs=>some ((i,v)::vs)
  | _,_=>none
def evalOpt(e:ql):Option Operand->Option (Option Value)
 | none=>some none
 | some x=>match e.eval x with
  | some v=>some (some v)
  | none=>none
abbrev qw0(P:Program)(e:ql)(rt:TypeId)(op:Op)(K:Value->Prop):Prop:=match op with
 | .move x=>qi (e.eval x) K
 | .assign x=>qi (e.eval x) K
 | .pick c a b=>qi (e.eval c) fun c=>qi (e.eval a) fun a=>qi (e.eval b) fun b=>qyD c a b K
 | .nilCheck x=>qi (e.eval x) fun v=>qGq v K
 | .binOp op T x y _=>qi (e.eval x) fun vx=>qi (e.eval y) fun vy=>qJF P rt op T x y vx vy K
 | .unOp op _ x=>qi (e.eval x) fun v=>match op,v with
  | .not,.bool b=>K (.bool (!b))
  | .neg,.int k n=>K (.int k (k.wrap (0-n)))
  | op,v=>Ys P rt (Op.unary op v) K
 | .convert src dst x=>qi (e.eval x) fun v=>match P.underlying src,P.underlying dst,v with
  | some _,some (.int k),.int _ n=>K (.int k (k.wrap n))
  | _,_,v=>Ys P rt (convert src dst v) K
 | .makeFunc fn first captured=>qi (e.evalAll first.toList) fun fs=>qi (e.evalAll captured.toList) fun cs=>K (.func fn fs.toArray cs.toArray)
 | .fieldAddr s x f=>qi (e.eval x) fun v=>qi (Vg P s f) fun ot=>match v with
  | .pointer (some a)=>match ot.2.2 with
   | 0=>False
   | _+1=>K (.pointer (some (a.add ot.1)))
  | _=>False
 | .field s x f=>qi (e.eval x) fun v=>qi (Vg P s f) fun ot=>match v with
  | .agg cs=>qia P ot.2.1 cs ot.1 K
  | _=>False
 | .indexAddr t x i=>qi (e.eval x) fun vx=>qi (e.eval i) fun vi=>match P.underlying t,vx,vi with
  | some (.slice el),.slice base len _,.int _ i=>qi (ZS P el) fun n=>qi base fun a=>0<=i/\i<len/\K (.pointer (some (a.add (i.toNat*n))))
  | some (.array len el),.pointer (some a),.int _ i=>qi (ZS P el) fun n=>0<=i/\i<len/\K (.pointer (some (a.add (i.toNat*n))))
  | _,_,_=>False
 | .index t x i=>qi (e.eval x) fun vx=>qi (e.eval i) fun vi=>match P.underlying t,vx,vi with
  | some (.array len el),.agg cs,.int _ i=>qi (ZS P el) fun n=>0<=i/\i<len/\qia P el cs (i.toNat*n) K
  | _,vx,vi=>Ys P rt (Instr.index t vx vi) K
 | .slice t x lo hi mx=>qi (e.eval x) fun vx=>qi (evalOpt e lo) fun lo=>qi (evalOpt e hi) fun hi=>qi (evalOpt e mx) fun mx=>Ys P rt (Instr.sliceAt t vx lo hi mx) K
 | .extract t i=>qi (e.eval t) fun v=>match v with
  | .tuple vs=>qi (vs[i]?) fun v=>match e.marked t with
   | true=>TyV P rt v K
   | false=>K v
  | _=>False
 | .build t yh=>qi (evalParts e yh.toList) fun ps=>Ys P rt (Instr.build t ps.toArray) K
 | _=>False
abbrev qsC(P:Program)(e:ql)(o:Oper)(w:World)(K:Value->Prop):Prop:=match o.op with
 | .load t x=>qi (e.eval x) fun v=>match v with
  | .pointer (some a)=>LdT P t a w K
  | _=>False
 | .lookup T m k ok=>qi (e.eval m) fun vm=>qi (e.eval k) fun vk=>qkh P o.type (Instr.lookup T vm vk ok) w K
 | .call c=>match c.callee with
  | .builtin .len=>qi (e.evalAll c.args.toList) fun vs=>qkh P o.type (Builtin.len_ c.argTypes o.type vs.toArray) w K
  | _=>False
 | _=>False
def q4L(o:Obj)(w:World)(K:Nat->World->Prop):Prop:=K w.heap.size (w.alloc o)
def qt(cs:Array Value)(t:TypeId)(w:World)(K:Nat->World->Prop):Prop:=K w.heap.size (w.alloc (.cells cs t))
def zG(a:Addr)(v:Value)(w:World)(K:World->Prop):Prop:=(∃ u,w.cell? a=some u)/\w.frozen? a=false/\v.oneCell'=true/\K (w.setCell a v)
def Qf(w:World)(a:Addr):Nat->List Value->World
 | _,[]=>w
 | i,v::r=>Qf (w.setCell (a.add i) v) a (i+1) r
def qN(n:Nat)(a:Addr)(cs:Array Value)(w:World)(K:World->Prop):Prop:=
 cs.size=n/\(∀ i,i<n->(∃ u,w.cell? (a.add i)=some u)/\w.frozen? (a.add i)=false/\∀ v,cs[i]?=some v->v.oneCell'=true)/\K (Qf w a 0 cs.toList)
def yc(P:Program)(g:FuncId):Bool:=match P.funcs[g]? with
 | some fn => fn.name != "runtime.NumGoroutine" && fn.body.isSome
 | none=>false
abbrev q5B(K:Value->World->Prop)(e:Ending)(w:World):Prop:=match e with
 | .returned v=>K v w
 | _=>False
def q3B(P:Program)(g:FuncId)(args:Array Value)(w:World)(K:Value->World->Prop):Prop:=Calls P g args w (q5B K)
def qxW(P:Program)(l:Nat)(args:Array Value)(w:World)(K:Value->World->Prop):Prop:=
 ∃ fn tmps assign body,(Instr.yield l args).run P w=.ok (.round l fn tmps assign body) w/\RoundIn (F none) 0 P l fn tmps assign body w (q5B K)
def qa(P:Program)(g:FuncId)(args:List Value)(w:World)(K:Value->World->Prop):Prop:=q3B P g args.toArray w K
def Zw(P:Program)(f:Value)(args:List Value)(w:World)(K:Value->World->Prop):Prop:=match f with
 | .func (.func g) first cap=>match yc P g with
  | true=>qa P g (first.toList++args++cap.toList) w K
  | false=>False
 | .func (.yield l) first _=>qxW P l (first.toList++args).toArray w K
 | _=>False
def qJ(n:Nat):List Value->Prop
 | []=>True
 | v::r=>v.cells.size=n/\qJ n r
def q3c:Nat->List (Nat × Value)->Bool
 | _,[]=>true
 | i,(j,_)::r=>Nat.beq i j&&q3c (i+1) r
abbrev q9A(P:Program)(t:TypeId)(len:Nat)(ps:List (Nat × Value))(w:World)(K:Value->World->Prop):Prop:=match P.underlying t with
 | some (.slice el)=>qi (ZS P el) fun n=>match q3c 0 ps&&Nat.beq ps.length len&&Nat.ble (len*n) 16777216&&Nat.ble 1 (len*n)&&((P.info? el).bind (·.zero)).isSome with
  | true=>qJ n (ps.map (·.2))/\qt ((ps.map fun p=>p.2.cells.toList).flatten.toArray) el w fun b w'=>K (.slice (some ⟨b,0,none⟩) len len) w'
  | false=>q0x P t (Instr.buildSlice t len ps.toArray) w K
 | _=>False
abbrev qJg(P:Program)(r:Option Nat)(e:ql)(o:Oper)(w:World)(K:ql->World->Prop):Prop:=match o.op with
 | .alloc t=>match P.info? t with
  | some i=>match i.zero with
   | some z=>qt z.cells t w fun b w'=>K (e.put o.dst (.pointer (some ⟨b,0,none⟩))) w'
   | none=>False
  | none=>False
 | .box t x=>qi (e.eval x) fun v=>qt v.cells t w fun b w'=>K (e.put o.dst (.pointer (some ⟨b,0,none⟩))) w'
 | .buildSlice t len yh=>qi (evalParts e yh.toList) fun ps=>q9A P t len ps w fun v w'=>K (e.put o.dst v) w'
 | .store t a x=>qi (e.eval a) fun va=>qi (e.eval x) fun v=>match va with
  | .pointer (some a)=>match q0o P t with
   | true=>match v with
    | .agg cs=>qi (ZS P t) fun n=>qN n a cs w fun w'=>K (e.put o.dst undef) w'
    | _=>False
   | false=>match ZS P t with
    | some 1=>zG a v w fun w'=>K (e.put o.dst undef) w'
    | _=>False
  | _=>False
 | .makeMap _ none=>q4L (.map #[] 0) w fun b w'=>K (e.put o.dst (.map (some b))) w'
 | .makeMap t (some x)=>qi (e.eval x) fun v=>q0x P o.type (Instr.makeMap t (some v)) w fun v w'=>K (e.put o.dst v) w'
 | .makeSlice t l c=>qi (e.eval l) fun l=>qi (e.eval c) fun c=>q0x P o.type (Instr.makeSlice t l c) w fun v w'=>K (e.put o.dst v) w'
 | .convert src dst x=>qi (e.eval x) fun v=>q0x P o.type (convert src dst v) w fun v w'=>K (e.put o.dst v) w'
 | .makeInterface t x=>qi (e.eval x) fun v=>q0x P o.type (Instr.makeInterface t v) w fun v w'=>K (e.put o.dst v) w'
 | .typeAssert x t u ok=>qi (e.eval x) fun v=>q0x P o.type (Instr.typeAssert v t u ok) w fun v w'=>K (e.put o.dst v) w'
 | .mapUpdate t m k x=>qi (e.eval m) fun m=>qi (e.eval k) fun k=>qi (e.eval x) fun x=>qGD P (Instr.mapUpdate t m k x) w fun w'=>K (e.put o.dst undef) w'
 | .insert t m k x=>qi (e.eval m) fun m=>qi (e.eval k) fun k=>qi (e.eval x) fun x=>qGD P (Instr.mapUpdate t m k x) w fun w'=>K (e.put o.dst undef) w'
 | .mapEntry t m k=>qi (e.eval m) fun m=>qi (e.eval k) fun k=>q0x P o.type (Instr.mapEntry t m k) w fun v w'=>K (e.put o.dst v) w'
 | .entryStore t m s x=>qi (e.eval m) fun m=>qi (e.eval s) fun s=>qi (e.eval x) fun x=>qGD P (Instr.entryStore t m s x) w fun w'=>K (e.put o.dst undef) w'
 | .range t x=>qi (e.eval x) fun x=>qGV P (Instr.range t x) w fun v w'=>K (e.put o.dst v) w'
 | .next x s=>qi (e.eval x) fun x=>qJV P (Instr.next x s o.type) w fun v w'=>K (e.put o.dst v) w'
 | .entry x=>qi (e.eval x) fun x=>qJq P (Instr.entry x) w fun v w'=>K ((e.put o.dst v).markE o.dst) w'
 | .call c=>match c.callee with
  | .builtin b=>qi (e.evalAll c.args.toList) fun vs=>match b with
   | .append=>q0x P o.type (Builtin.append_ c.argTypes o.type vs.toArray) w fun v w'=>K (e.put o.dst v) w'
   | .cap=>q0x P o.type (Builtin.cap_ c.argTypes o.type vs.toArray) w fun v w'=>K (e.put o.dst v) w'
   | .copy=>q0x P o.type (Builtin.copy_ c.argTypes o.type vs.toArray) w fun v w'=>K (e.put o.dst v) w'
   | .delete=>q0x P o.type (Builtin.delete_ c.argTypes o.type vs.toArray) w fun v w'=>K (e.put o.dst v) w'
   | .clear=>q0x P o.type (Builtin.clear_ c.argTypes o.type vs.toArray) w fun v w'=>K (e.put o.dst v) w'
   | .min=>q0x P o.type (Builtin.min_ c.argTypes o.type vs.toArray) w fun v w'=>K (e.put o.dst v) w'
   | .max=>q0x P o.type (Builtin.max_ c.argTypes o.type vs.toArray) w fun v w'=>K (e.put o.dst v) w'
   | _=>False
  | .value f=>qi (e.eval f) fun vf=>qi (e.evalAll c.args.toList) fun vs=>Zw P vf vs w fun v w'=>TyV P o.type v fun v=>K (e.put o.dst v) w'
  | _=>False
 | .defer c=>match r with
  | some _=>False
  | none=>match c.callee with
   | .value f=>qi (e.eval f) fun vf=>qi (e.evalAll c.args.toList) fun vs=>match vf with
    | .func fn first cap=>K ({ e with d:={ target:=.fn fn cap,args:=first++vs.toArray }::e.d }.put o.dst undef) w
    | _=>False
   | _=>False
 | _=>False
abbrev opS(P:Program)(r:Option Nat)(e:ql)(o:Oper)(w:World)(K:ql->World->Prop):Prop:=match ZD P o.op with
 | true=>qw0 P e o.type o.op fun v=>K (e.put o.dst v) w
 | false=>match YM o.op with
  | true=>qsC P e o w fun v=>K (e.put o.dst v) w
  | false=>qJg P r e o w K
abbrev qej(P:Program)(r:Option Nat)(t:Nat)(want:Bool)(o:Oper)(e:ql)(w:World)(K:ql->World->Prop)(b:Bool):Prop:=match b==want with
 | true=>opS P r (e.put (some t) (.bool b)) o w K
 | false=>K ((e.put (some t) (.bool b)).put o.dst undef) w
abbrev q3v(P:Program)(r:Option Nat)(ops:Array Oper)(o:Oper)(e:ql)(w:World)(K:ql->World->Prop):Prop:=match o.guard with
 | none=>opS P r e o w K
 | some (j,want)=>match(ops[j]?).bind (·.dst)with
  | some t=>match e.get? t with
   | some (.bool b)=>qC b (qej P r t want o e w K true) (qej P r t want o e w K false)
   | some (.tuple _)=>K (e.put o.dst undef) w
   | _=>False
  | none=>False
abbrev qFY(P:Program)(r:Option Nat)(ops:Array Oper):List Oper->ql->World->(ql->World->Prop)->Prop
 | [],e,w,K=>K e w
 | o::rest,e,w,K=>q3v P r ops o e w fun e w=>qFY P r ops rest e w K
def tb(m i:Nat):Bool:=Nat.beq (Nat.land (Nat.shiftRight m i) 1) 1
def q21(i:Nat):Nat:=Nat.shiftLeft 1 i
def sub(a m:Nat):Bool:=Nat.beq (Nat.land a m) a
def q5P:List Edge->Nat
 | []=>0
 | e::r=>match Region.binds .any e with
  | true=>Nat.lor (q21 e.on) (q5P r)
  | false=>q5P r
def qw9(ops:Array Oper)(i:Nat):Nat:=match ops[i]? with
 | some o=>q5P o.after.toList
 | none=>0
def q7N(ops:Array Oper)(m:Nat):List Nat:=(List.range ops.size).filter fun i=>!(tb m i)&&sub (qw9 ops i) m
def qou(ops:Array Oper)(i:Nat)(o:Oper):Nat->List Oper->Nat
 | _,[]=>0
 | j,oj::r=>match Nat.beq j i||tb (q5P oj.after.toList) i||o.apart ops oj with
  | true=>qou ops i o (j+1) r
  | false=>Nat.lor (q21 j) (qou ops i o (j+1) r)
def qKI(ops:Array Oper)(i:Nat):Nat:=match ops[i]? with
 | some o=>qou ops i o 0 ops.toList
 | none=>0
def qvl(i:Nat):Nat->List Oper->Nat->Nat
 | _,[],D=>D
 | j,oj::r,D=>match Nat.beq (Nat.land (q5P oj.after.toList) (Nat.lor D (q21 i))) 0 with
  | true=>qvl i (j+1) r D
  | false=>qvl i (j+1) r (Nat.lor D (q21 j))
def snL(P:Program):Nat->List Oper->Nat
 | _,[]=>0
 | j,oj::r=>match ZD P oj.op||YM oj.op||q5W oj.op with
  | true=>Nat.lor (q21 j) (snL P (j+1) r)
  | false=>snL P (j+1) r
def rsL(ops:Array Oper)(i m:Nat):Nat:=
 Nat.lor m (Nat.xor (Nat.sub (q21 ops.size) 1) (Nat.land (Nat.sub (q21 ops.size) 1) (Nat.lor (qvl i 0 ops.toList 0) (q21 i))))
def rsM(P:Program)(ops:Array Oper)(i m:Nat):Bool:=
 sub (Nat.xor (rsL ops i m) m) (snL P 0 ops.toList)&&(List.range ops.size).all fun j=>Nat.beq j i||tb (rsL ops i m) j||!(sub (qw9 ops j) (rsL ops i m))
def qjS(P:Program)(ops:Array Oper)(m i:Nat):Bool:=match ops[i]? with
 | none=>false
 | some o=>sub (qKI ops i) m&&(ZD P o.op||YM o.op&&rsM P ops i m)
def qxf(P:Program)(ops:Array Oper)(i:Nat):Bool:=match ops[i]? with
 | none=>false
 | some o=>ZD P o.op
abbrev qEB:List Nat->(Nat->Prop)->Prop
 | [],_=>True
 | [i],p=>p i
 | i::r,p=>p i/\qEB r p
def q7M(P:Program)(ops:Array Oper)(m:Nat)(rs:List Nat):Option Nat:=match rs.find? fun i=>qxf P ops i&&qjS P ops m i with
 | some i=>some i
 | none=>rs.find? fun i=>qjS P ops m i
abbrev qkj(P:Program)(r:Option Nat)(ops:Array Oper)(i:Nat)(e:ql)(w:World)(K:ql->World->Prop):Prop:=match ops[i]? with
 | some o=>q3v P r ops o e w K
 | none=>False
abbrev qqx(P:Program)(r:Option Nat)(ops:Array Oper)(K:ql->World->Prop):Nat->Nat->ql->World->Prop
 | 0,m,e,w=>match q7N ops m with
  | []=>K e w
  | _::_=>False
 | f+1,m,e,w=>match q7N ops m with
  | []=>K e w
  | i0::rs=>match q7M P ops m (i0::rs)with
   | some i=>qkj P r ops i e w (qqx P r ops K f (Nat.lor m (q21 i)))
   | none=>qEB (i0::rs) fun i=>qkj P r ops i e w (qqx P r ops K f (Nat.lor m (q21 i)))
def qhM(ops:Array Oper):Bool:=ops.all fun o=>match o.op with
 | .defer _=>false
 | _=>true
abbrev q9u(P:Program)(r:Option Nat)(ops:Array Oper)(draw:Bool)(e:ql)(w:World)(K:ql->World->Prop):Prop:=match draw with
 | false=>qFY P r ops ops.toList e w K
 | true=>match Region.noSelect ops&&qhM ops&&P.follows .mixedOrders with
  | true=>qqx P r ops K ops.size 0 e w.drew
  | false=>False
def yF(a b:List Nat):List Nat:=a++b.filter fun x=>!a.contains x
def qbI:Operand->List Nat
 | .tmp t=>[t]
 | _=>[]
def qkd(ops:Array Oper):List Oper->List Nat->List Nat
 | [],L=>L
 | o::r,L=>let L:=qkd ops r L
  yF (match o.dst with
   | some d=>L.filter fun x=>!(Nat.beq x d)
   | none=>L) (o.looksAt ops)
def zQ:Code->List Nat->List Nat->List Nat
 | .skip,Lo,_=>Lo
 | .label _,Lo,_=>Lo
 | .region _ ops _,Lo,_=>qkd ops ops.toList Lo
 | .seq a b,Lo,X=>zQ a (zQ b Lo X) X
 | .cond c t f,Lo,X=>yF (qbI c) (yF (zQ t Lo X) (zQ f Lo X))
 | .block _ b,Lo,X=>zQ b Lo (yF X Lo)
 | .loop b,Lo,X=>zQ b [] (yF X Lo)
 | .scope b,Lo,X=>zQ b Lo X
 | .exit _,_,X=>X
 | .ret,_,X=>X
 | .goto _,_,X=>X
 | .refuse _,_,_=>[]
 | .rangeFunc f ps a b,Lo,X=>yF (qbI f) (yF ((zQ a (zQ b [] []) []).filter fun x=>!ps.contains x) (yF Lo X))
def qki:Op->Bool
 | .alloc _=>true
 | .box _ _=>true
 | .buildSlice _ _ _=>true
 | .store _ _ _=>true
 | .makeMap _ _=>true
 | .makeSlice _ _ _=>true
 | .mapUpdate _ _ _ _=>true
 | .insert _ _ _ _=>true
 | .mapEntry _ _ _=>true
 | .entryStore _ _ _ _=>true
 | .call c=>match c.callee with
  | .builtin .len=>false
  | _=>true
 | _=>false
def qc4:Code->Bool
 | .skip=>false
 | .label _=>false
 | .region _ ops draw=>(ops.any fun o=>o.guard.isSome)||(draw&&(ops.any fun o=>qki o.op)&&Nat.ble 2 (ops.toList.filter fun o=>qki o.op||YM o.op).length)
 | .seq a b=>qc4 a||qc4 b
 | _=>true
def za(B:(ql->World->Prop)->ql->World->Prop)(e:ql)(w:World):Prop:=
 ∃ I:Nat->ql->World->Prop,(∃ n,I n e w)/\∀ n e w,I n e w->B (fun e' w'=>∃ m,m<n/\I m e' w') e w
def qzw(w:World):Deferred:={ target:=.collected w.heap.size,args:=#[] }
abbrev zT(e:ql):List Nat->List Value->ql
 | p::ps,v::vs=>zT (e.put (some p) v) ps vs
 | _,_=>e
def q7W(l:Nat)(R:LoopState->Option Code->Loop)(post:Option Code->World->Prop)(x:Exit)(_:ql)(w:World):Prop:=
 w.heap[l]?=some (.loop (R .busy none))/\match x with
  | .normal=>post none (w.putObj l (.loop (R .ready none)))
  | .ret=>post (some .ret) (w.putObj l (.loop (R .done (some .ret))))
  | .exit id=>post (some (.exit id)) (w.putObj l (.loop (R .done (some (.exit id)))))
  | _=>False
def qdy(K:Exit->ql->World->Prop)(e:ql)(w:World):Option Code->Prop
 | none=>K .normal e w
 | some .ret=>K .ret e w
 | some (.exit id)=>K (.exit id) e w
 | _=>False
def Vw(P:Program)(K:Exit->ql->World->Prop)(e:ql)(w:World)(f:Value)(round:Nat->(LoopState->Option Code->Loop)->(Option Code->World->Prop)->List Value->World->Prop):Prop:=match f with
 | .func (.func g) first cap=>yc P g=true/\∀ R:LoopState->Option Code->Loop,
   (∀ args W post,round (w.heap.size+1) R post args W->W.heap[w.heap.size+1]?=some (.loop (R .ready none))->qxW P (w.heap.size+1) args.toArray W fun v W'=>∃ j,v=.bool j.isNone/\post j W')->
   q3B P g (first++#[.func (.yield (w.heap.size+1)) #[] #[]]++cap) ((w.alloc (.deferred (some []))).alloc (.loop (R .ready none))) fun _ W=>
    ∃ st pe,W.heap[w.heap.size+1]?=some (.loop (R st pe))/\st≠.busy/\qdy K { e with d:=qzw w::e.d } (W.putObj (w.heap.size+1) (.loop (R .exhausted pe))) pe
 | _=>False
def CSg(P:Program)(kt:(ql->World->Prop)->(Exit->ql->World->Prop)->Exit->ql->World->Prop)(kb:Nat->(Exit->ql->World->Prop)->Exit->ql->World->Prop)
  (kr:(ql->World->Prop)->Exit->ql->World->Prop) (jn:(ql->World->Prop)->ql->World->Prop):Code->Option Nat->List Nat->List Nat->(Exit->ql->World->Prop)->ql->World->Prop
 | .skip,_,_,_,K,e,w=>K .normal e w
 | .label _,_,_,_,K,e,w=>K .normal e w
 | .region _ ops draw,r,_,_,K,e,w=>q9u P r ops draw e w (K .normal)
 | .seq a b,r,Lo,X,K,e,w=>CSg P kt kb kr jn a r (zQ b Lo X) X (kt (match qc4 a with
   | true=>fun e w=>jn (fun e w=>CSg P kt kb kr jn b r Lo X K e w) (e.restrict (zQ b Lo X)) w
   | false=>fun e w=>CSg P kt kb kr jn b r Lo X K e w) K) e w
 | .cond c t f,r,Lo,X,K,e,w=>match c with
  | .tmp s=>match e.get? s with
   | some (.bool b)=>qC b (CSg P kt kb kr jn t r Lo X K (e.put (some s) (.bool true)) w) (CSg P kt kb kr jn f r Lo X K (e.put (some s) (.bool false)) w)
   | _=>False
  | .const (.bool b)=>qC b (CSg P kt kb kr jn t r Lo X K e w) (CSg P kt kb kr jn f r Lo X K e w)
  | _=>False
 | .block id b,r,Lo,X,K,e,w=>CSg P kt kb kr jn b r Lo (yF X Lo) (kb id K) e w
 | .loop b,r,Lo,X,K,e,w=>za (fun Y e w=>jn (fun e w=>CSg P kt kb kr jn b r (zQ b [] (yF X Lo)) (yF X Lo) (kt (fun e w=>Y (e.restrict (zQ b [] (yF X Lo))) w) K) e w) e w) (e.restrict (zQ b [] (yF X Lo))) w
 | .scope b,r,Lo,X,K,e,w=>CSg P kt kb kr jn b r Lo X (kt (fun e w=>K .normal e w) K) e w
 | .exit id,_,_,_,K,e,w=>K (.exit id) e w
 | .ret,_,_,_,K,e,w=>K .ret e w
 | .goto _,_,_,_,_,_,_=>False
 | .refuse _,_,_,_,_,_,_=>False
 | .rangeFunc f ps a b,r,Lo,X,K,e,w=>match r with
  | some _=>False
  | none=>qi (e.eval f) fun vf=>Vw P K (e.restrict (yF (zQ a (zQ b [] []) []) (yF Lo X))) w vf fun l R post args W=>args.length=ps.size/\
    CSg P kt kb kr jn a (some l) (zQ b [] []) [] (kr (fun e w=>w.heap[l]?=some (.loop (R .ready none))/\
     jn (fun e w=>CSg P kt kb kr jn b (some l) [] [] (q7W l R post) e w) (e.restrict (zQ b [] [])) (w.putObj l (.loop (R .busy none)))))
     { zT (e.restrict (yF (zQ a (zQ b [] []) []) (yF Lo X))) ps.toList args with d:=[] } W
def qHM(n:Nat):Nat:=(fun _=>n) CSg
def qq(id:Nat)(K:Exit->ql->World->Prop)(x:Exit)(e:ql)(w:World):Prop:=(fun(_:Nat)=>match x with
 | .normal=>K .normal e w
 | .ret=>K .ret e w
 | .exit i=>match Nat.beq i id with
  | true=>K .normal e w
  | false=>K (.exit i) e w
 | _=>False) (qHM 0)
def qkC(next:ql->World->Prop)(K:Exit->ql->World->Prop)(x:Exit)(e:ql)(w:World):Prop:=(fun(_:Nat)=>match x with
 | .normal=>next e w
 | .ret=>K .ret e w
 | .exit i=>K (.exit i) e w
 | _=>False) (qHM 0)
def qra(next:ql->World->Prop)(x:Exit)(e:ql)(w:World):Prop:=(fun(_:Nat)=>match x with
 | .normal=>next e w
 | _=>False) (qHM 0)
def zJ(p:ql->World->Prop)(e:ql)(w:World):Prop:=p e w
def CS(P:Program):Code->Option Nat->List Nat->List Nat->(Exit->ql->World->Prop)->ql->World->Prop:=CSg P qkC qq qra zJ
abbrev qox(P:Program)(a b:Code)(r:Option Nat)(Lo X:List Nat)(K:Exit->ql->World->Prop):Exit->ql->World->Prop:=
 qkC (match qc4 a with
  | true=>fun e w=>zJ (fun e w=>CS P b r Lo X K e w) (e.restrict (zQ b Lo X)) w
  | false=>fun e w=>CS P b r Lo X K e w) K
abbrev qw(H:List Nat)(Y:ql->World->Prop)(K:Exit->ql->World->Prop):Exit->ql->World->Prop:=qkC (fun e w=>Y (e.restrict H) w) K
abbrev VT(P:Program)(b:Code)(l:Nat)(R:LoopState->Option Code->Loop)(post:Option Code->World->Prop):Exit->ql->World->Prop:=
 qra fun e w=>w.heap[l]?=some (.loop (R .ready none))/\zJ (fun e w=>CS P b (some l) [] [] (q7W l R post) e w) (e.restrict (zQ b [] [])) (w.putObj l (.loop (R .busy none)))
def ZI:Code->List Nat->Code
 | c,[]=>c
 | .seq a b,i::r=>match i with
  | 0=>ZI a r
  | _=>ZI b r
 | .cond _ a b,i::r=>match i with
  | 0=>ZI a r
  | _=>ZI b r
 | .block _ b,_::r=>ZI b r
 | .loop b,_::r=>ZI b r
 | .scope b,_::r=>ZI b r
 | .rangeFunc _ _ a b,i::r=>match i with
  | 0=>ZI a r
  | _=>ZI b r
 | _,_::_=>.skip
def qn(P:Program)(t:TypeId):Array Value:=match P.info? t with
 | some i=>match i.zero with
  | some z=>z.cells
  | none=>#[]
 | none=>#[]
end Go.Fx
namespace Go.Fx
open Go
structure Ag (e:ql) (a:Act):Prop where
 size:a.tmps.size=e.n
 get:∀ t v,e.get? t=some v->a.tmps.getD t undef=v
 def':a.defers=e.d
section ag
variable {e:ql} {a:Act}
theorem ql.find_cons(s t:Nat)(v:Value)(r:List (Nat × Value)):ql.find ((s,v)::r) t=if s=t then some v else ql.find r t:=by
 show(match Nat.beq s t with
  | true=>some v
  | false=>ql.find r t)=_
 by_cases h:s=t
 ·subst h
  have:Nat.beq s s=true:=Nat.beq_refl s
  rw[this];simp
 ·have h':Nat.beq s t=false:=by
   cases hb:Nat.beq s t
   ·rfl
   ·exact absurd (Nat.eq_of_beq_eq_true hb) h
  rw[h']
  simp only[h,if_false]
theorem Ag.put(h:Ag e a)(dst:Option Nat)(v:Value):Ag (e.put dst v) (a.put dst v):=by
 cases dst with
 | none=>exact h
 | some t=>
  unfold ql.put Act.put
  dsimp only
  cases hb:Nat.ble (t+1) e.n with
  | true=>
   have hlt:t<e.n:=Nat.le_of_ble_eq_true hb
   refine⟨by simpa using h.size,fun s u hs=>?_,h.def'⟩
   unfold ql.get? at hs
   dsimp only at hs
   rw[ql.find_cons]at hs
   by_cases hst:t=s
   ·subst hst
    simp at hs
    subst hs
    have:t<a.tmps.size:=by rw[h.size];exact hlt
    simp[this]
   ·simp only[hst,if_false]at hs
    have:=h.get s u hs
    simp[Array.getElem?_setIfInBounds_ne hst]at this ⊢
    exact this
  | false=>
   have hge:¬ t<e.n:=fun hlt=>by
    have:Nat.ble (t+1) e.n=true:=Nat.ble_eq.mpr hlt
    rw[hb]at this;cases this
   refine⟨by simpa using h.size,fun s u hs=>?_,h.def'⟩
   have hts:a.tmps.size<=t:=by rw[h.size];exact Nat.le_of_not_lt hge
   have:a.tmps.setIfInBounds t v=a.tmps:=Array.setIfInBounds_eq_of_size_le hts
   show(a.tmps.setIfInBounds t v).getD s undef=u
   rw[this]
   exact h.get s u hs
theorem Ag.markE(h:Ag e a)(dst:Option Nat):Ag (e.markE dst) a:=by
 cases dst with
 | none=>exact h
 | some t=>
  refine⟨h.size,fun s u hs=>?_,h.def'⟩
  unfold ql.get? ql.markE at hs
  dsimp only at hs
  rw[ql.find_cons]at hs
  by_cases hst:e.n+t=s
  ·subst hst
   simp at hs
   subst hs
   have:¬ e.n+t<a.tmps.size:=by rw[h.size];omega
   simp[Array.getD,this,undef]
  ·simp only[hst,if_false]at hs
   exact h.get s u hs
theorem q4q(e:ql)(L:List Nat)(t:Nat)(v:Value)(h:ql.find (e.restrictL L) t=some v):e.get? t=some v:=by
 induction L with
 | nil=>simp[ql.restrictL,ql.find]at h
 | cons s r ih=>
  unfold ql.restrictL at h
  cases hs:e.get? s with
  | none=>rw[hs]at h;exact ih h
  | some u=>
   rw[hs]at h
   dsimp only at h
   rw[ql.find_cons]at h
   by_cases hst:s=t
   ·subst hst;simp at h;subst h;exact hs
   ·simp only[hst,if_false]at h;exact ih h
theorem Ag.restrict(h:Ag e a)(L:List Nat):Ag (e.restrict L) a:=⟨h.size,fun t v ht=>h.get t v (q4q e L t v ht),h.def'⟩
theorem Ag.eval(h:Ag e a){x:Operand}{v:Value}(hx:e.eval x=some v):a.eval x=v:=by
 cases x with
 | tmp t=>exact h.get t v hx
 | const c=>simp[ql.eval]at hx;exact hx
 | global g=>simp[ql.eval]at hx;exact hx
 | func f=>simp[ql.eval]at hx;exact hx
theorem Ag.evalAll(h:Ag e a):∀ {l:List Operand} {vs:List Value},e.evalAll l=some vs->l.map a.eval=vs
 | [],vs,hx=>by simp[ql.evalAll]at hx;simp[hx]
 | x::r,vs,hx=>by
  unfold ql.evalAll at hx
  cases h1:e.eval x with
  | none=>rw[h1]at hx;simp at hx
  | some v=>
   cases h2:e.evalAll r with
   | none=>rw[h1,h2]at hx;simp at hx
   | some us=>rw[h1,h2]at hx;simp at hx;rw[<-hx];simp[h.eval h1,h.evalAll h2]
theorem Ag.evalParts(h:Ag e a):∀ {l:List (Nat × Operand)} {vs:List (Nat × Value)},Fx.evalParts e l=some vs->(l.map fun(i,x)=>(i,a.eval x))=vs
 | [],vs,hx=>by simp[Fx.evalParts]at hx;simp[hx]
 | (i,x)::r,vs,hx=>by
  unfold Fx.evalParts at hx
  cases h1:e.eval x with
  | none=>rw[h1]at hx;simp at hx
  | some v=>
   cases h2:Fx.evalParts e r with
   | none=>rw[h1,h2]at hx;simp at hx
   | some us=>
    rw[h1,h2]at hx;simp at hx;rw[<-hx]
    simp only[List.map_cons,h.eval h1,h.evalParts h2]
theorem Ag.evalOpt(h:Ag e a){x:Option Operand}{v:Option Value}(hx:Fx.evalOpt e x=some v):x.map a.eval=v:=by
 cases x with
 | none=>simp[Fx.evalOpt]at hx;simp[hx]
 | some x=>
  unfold Fx.evalOpt at hx
  dsimp only at hx
  cases h1:e.eval x with
  | none=>rw[h1]at hx;simp at hx
  | some u=>rw[h1]at hx;simp at hx;rw[<-hx];simp[h.eval h1]
end ag
theorem qp{α:Type}{x:Option α}{K:α->Prop}(h:qi x K):∃ a,x=some a/\K a:=by
 cases x with
 | none=>exact h.elim
 | some a=>exact⟨a,rfl,h⟩
section runs
variable {P:Program} {w:World}
theorem zn{t:TypeId}{d:TypeDesc}(h:P.underlying t=some d):(underlying t).run P w=.ok d w:=by
 simp[underlying,h]
theorem JC{t:TypeId}{i:TypeInfo}(h:P.info? t=some i):(typeInfo t).run P w=.ok i w:=by
 simp[typeInfo,h]
theorem yN{t:TypeId}{n:Nat}(h:ZS P t=some n):(sizeOf t).run P w=.ok n w:=by
 unfold ZS at h
 cases hi:P.info? t with
 | none=>rw[hi]at h;simp at h
 | some i=>rw[hi]at h;simp at h;simp[sizeOf,JC hi,h]
theorem Yw{t:TypeId}{d:TypeDesc}(h:P.underlying t=some d):(isAgg t).run P w=.ok (q0o P t) w:=by
 unfold isAgg q0o
 simp[zn h,h]
 cases d<;>rfl
theorem vF{t:TypeId}{K:Value->Prop}(h:TyB P t K):∃ v,K v:=by
 unfold TyB at h
 split at h
 ·obtain⟨x,h⟩:=h;exact⟨_,h⟩
 ·obtain⟨x,h⟩:=h;exact⟨_,h⟩
 ·obtain⟨x,h⟩:=h;exact⟨_,h⟩
 ·obtain⟨x,y,z,h⟩:=h;exact⟨_,h⟩
 ·obtain⟨x,h⟩:=h;exact⟨_,h⟩
 ·obtain⟨x,h⟩:=h;exact⟨_,h⟩
 ·obtain⟨x,h⟩:=h;exact⟨_,h⟩
 ·exact h
theorem q4J:∀ (ts:List TypeId) (acc:List Value) {K:Value->Prop},TyL P ts acc K->∃ v,K v
 | [],acc,K,h=>⟨_,h⟩
 | t::ts,acc,K,h=>by
  obtain⟨x,hx⟩:=vF h
  exact q4J ts _ hx
theorem qat{t:TypeId}{v:Value}{K:Value->Prop}(h:TyV P t v K):K v:=by
 unfold TyV at h
 split at h
 ·obtain⟨x,rfl,hx⟩:=q4J _ _ h;exact hx
 ·obtain⟨x,rfl,hx⟩:=vF h;exact hx
theorem vS{t:TypeId}{K:Value->Prop}(h:TyA P t K):∃ v,K v:=by
 unfold TyA at h
 split at h
 ·exact q4J _ _ h
 ·exact vF h
theorem q67{t:TypeId}{cs:Array Value}{off:Nat}{K:Value->Prop}(h:qia P t cs off K) :
  ∃ v,K v/\∀ w,(part t cs off).run P w=.ok v w:=by
 unfold qia at h
 obtain⟨d,hd,h⟩:=qp h
 cases hb:q0o P t with
 | true=>
  rw[hb]at h
  obtain⟨n,hn,hk⟩:=qp h
  exact⟨_,hk,fun w=>by simp[part,Yw hd,hb,yN hn]⟩
 | false=>
  rw[hb]at h
  obtain⟨v,hv,hk⟩:=vF h
  exact⟨v,hk,fun w=>by simp[part,Yw hd,hb,hv]⟩
theorem Zp(a:Addr)(cs:Array Value):∀ (n i:Nat) (acc:Array Value),(∀ j,i<=j->j<i+n->w.cell? (a.add j)=cs[j]?)->i+n=cs.size->
  (loadCellsFrom a i n acc).run P w=.ok (acc++cs.extract i (i+n)) w
 | 0,i,acc,_,hs=>by
  unfold loadCellsFrom
  simp
  omega
 | n+1,i,acc,h,hs=>by
  unfold loadCellsFrom
  have h0:=h i (Nat.le_refl _) (by omega)
  have hi:i<cs.size:=by omega
  rw[Array.getElem?_eq_getElem hi]at h0
  simp only[Sem.run_bind,run_load,h0,Result.andThen]
  rw[Zp a cs n (i+1) _ (fun j h1 h2=>h j (by omega) (by omega)) (by omega)]
  congr 1
  rw[show i+1+n=i+(n+1)by omega]
  apply Array.ext
  ·simp;omega
  ·intro k h1 h2
   by_cases hk:k<acc.size
   ·rw[Array.getElem_append_left (by simp;omega),Array.getElem_push_lt hk,Array.getElem_append_left hk]
   ·by_cases hk2:k=acc.size
    ·subst hk2
     rw[Array.getElem_append_left (by simp),Array.getElem_push_eq,Array.getElem_append_right (by omega)]
     simp
    ·rw[Array.getElem_append_right (by simp;omega),Array.getElem_append_right (by omega)]
     simp
     congr 1
     omega
theorem qii{t:TypeId}{a:Addr}{K:Value->Prop}(h:LdT P t a w K) :
  ∃ v,K v/\∀ w2,zZ w w2->(loadVar t a).run P w2=.ok v w2:=by
 unfold LdT at h
 obtain⟨d,hd,h⟩:=qp h
 cases hb:q0o P t with
 | true=>
  rw[hb]at h
  obtain⟨n,hn,cs,hs,hc,hk⟩:=qp h
  refine⟨_,hk,fun w2 hx=>?_⟩
  have hc2:∀ j,0<=j->j<0+n->w2.cell? (a.add j)=cs[j]?:=fun j _ hj=>by
   have h1:=hc j (by omega)
   rw[Array.getElem?_eq_getElem (by omega)]at h1 ⊢
   exact hx.cell h1
  have h0:=Zp (P:=P) a cs n 0 #[] hc2 (by omega)
  subst hs
  simp[loadVar,Yw hd,hb,yN hn,loadCells,h0]
 | false=>
  rw[hb]at h
  obtain⟨v,hv,hk⟩:=vF h
  exact⟨v,hk,fun w2 hx=>by simp[loadVar,Yw hd,hb,hx.cell hv]⟩
theorem qaa{s:TypeId}{f:Nat}{off:Nat}{t:TypeId}{n:Nat}{a:Addr}(h:Vg P s f=some (off,t,n+1)) :
  (Instr.fieldAt s (.pointer (some a)) f).run P w=.ok (.pointer (some (a.add off))) w:=by
 unfold Vg at h
 split at h
 ·rename_i fs hu
  split at h
  ·rename_i x hx
   split at h
   ·rename_i i hi
    simp at h
    obtain⟨rfl,rfl,hn⟩:=h
    have hsz:ZS P x.type=some (n+1):=by simp[ZS,hi,hn]
    simp[Instr.fieldAt,zn hu,hx,Instr.sureAddr,fieldPlace,yN hsz]
   ·simp at h
  ·simp at h
 ·simp at h
end runs
end Go.Fx
namespace Go.Fx
open Go
variable {P:Program}
theorem qub{v:Value}{K:Value->Prop}(h:qGq v K){o:Oper}{ρ:Operand->Value}{x:Operand}(ho:o.op=.nilCheck x)(hv:ρ x=v) :
  ∃ u,K u/\∀ w,(execOp ρ o).run P w=.ok (.value u) w:=by
 unfold qGq at h
 split at h
 ·rename_i p
  obtain⟨a,rfl,hk⟩:=qp h
  exact⟨_,hk,fun w=>by simp[execOp,ho,hv]⟩
 ·exact⟨_,h,fun w=>by simp[execOp,ho,hv]⟩
 ·exact⟨_,h,fun w=>by simp[execOp,ho,hv]⟩
 ·exact h.elim
section
variable {op:BinOp} {T:TypeId} {ox oy:Operand} (w:World)
theorem qaX(k k':IntKind)(x y:Int):(eqGuard op T ox oy (.int k x) (.int k' y)).run P w=.ok () w:=by cases op<;>rfl
theorem q0L(x y:Bool):(eqGuard op T ox oy (.bool x) (.bool y)).run P w=.ok () w:=by cases op<;>rfl
theorem q2l(x y:Option Addr):(eqGuard op T ox oy (.pointer x) (.pointer y)).run P w=.ok () w:=by cases op<;>rfl
theorem JH(x y:Option Addr)(l c l' c':Nat):(eqGuard op T ox oy (.slice x l c) (.slice y l' c')).run P w=.ok () w:=by cases op<;>rfl
theorem q2n(x y:Option Nat):(eqGuard op T ox oy (.map x) (.map y)).run P w=.ok () w:=by cases op<;>rfl
end
theorem qf8{op:BinOp}{k k':IntKind}{x y:Int}{K:Value->Prop}(h:q59 op k x y K)(hk:q3h op=true\/k=k')(T:TypeId) :
  ∃ u,K u/\∀ w,(binOp op T (.int k x) (.int k' y)).run P w=.ok u w:=by
 cases op
 all_goals unfold q59 at h
 all_goals dsimp only at h
 case shl=>exact⟨_,h.2,fun w=>by have:¬ y<0:=by omega
                                 simp[binOp,Op.shift,this]⟩
 case shr=>exact⟨_,h.2,fun w=>by have:¬ y<0:=by omega
                                 simp[binOp,Op.shift,this]⟩
 all_goals (have hkk:k=k':=hk.resolve_left (by simp[q3h]));subst hkk
 case quo=>exact⟨_,h.2,fun w=>by simp[binOp,Op.intDiv,h.1]⟩
 case rem=>exact⟨_,h.2,fun w=>by simp[binOp,Op.intDiv,h.1]⟩
 all_goals exact⟨_,h,fun w=>by simp[binOp,Op.intArith,Op.intBits,Op.intCmp]⟩
theorem Zu{op:BinOp}{b:Bool}{K:Value->Prop}(h:q1E op b K):(op=.eql/\K (.bool b))\/(op=.neq/\K (.bool (!b))):=by
 unfold q1E at h
 split at h
 ·exact .inl ⟨rfl,h⟩
 ·exact .inr ⟨rfl,h⟩
 ·exact h.elim
theorem VH{T:TypeId}(h:P.underlying T=some .bool)(a b:Bool)(w:World):(Op.equal T (.bool a) (.bool b)).run P w=.ok (a==b) w:=by
 have key:∀ d,(Op.equalIn (d+1) T (.bool a) (.bool b)).run P w=.ok (a==b) w:=fun d=>by
  unfold Op.equalIn
  rw[Sem.run_bind,zn h]
  rfl
 exact key 9999
theorem JE{T e:TypeId}(h:P.underlying T=some (.pointer e))(p:Option Addr)(w:World):(Op.equal T (.pointer p) (.pointer none)).run P w=.ok (p.isNone) w:=by
 have key:∀ d,(Op.equalIn (d+1) T (.pointer p) (.pointer none)).run P w=.ok (p.isNone) w:=fun d=>by
  unfold Op.equalIn
  rw[Sem.run_bind,zn h]
  cases p<;>rfl
 exact key 9999
theorem YW{T e:TypeId}(h:P.underlying T=some (.slice e))(p:Option Addr)(l c l' c':Nat)(w:World):(Op.equal T (.slice p l c) (.slice none l' c')).run P w=.ok (p.isNone) w:=by
 have key:∀ d,(Op.equalIn (d+1) T (.slice p l c) (.slice none l' c')).run P w=.ok (p.isNone) w:=fun d=>by
  unfold Op.equalIn
  rw[Sem.run_bind,zn h]
  cases p<;>rfl
 exact key 9999
theorem JN{T k e:TypeId}(h:P.underlying T=some (.map k e))(p:Option Nat)(w:World):(Op.equal T (.map p) (.map none)).run P w=.ok (p.isNone) w:=by
 have key:∀ d,(Op.equalIn (d+1) T (.map p) (.map none)).run P w=.ok (p.isNone) w:=fun d=>by
  unfold Op.equalIn
  rw[Sem.run_bind,zn h]
  cases p<;>rfl
 exact key 9999
theorem qvn{rt:TypeId}{op:BinOp}{T:TypeId}{ox oy:Operand}{x y:Value}{K:Value->Prop}(h:qJF P rt op T ox oy x y K) :
  ∃ u,K u/\∀ w,(do eqGuard op T ox oy x y;binOp op T x y:Sem Value).run P w=.ok u w:=by
 unfold qJF at h
 split at h
 ·rename_i k a k' b
  have hk:q3h op=true\/k=k':=by
   split at h
   ·exact .inl (by assumption)
   ·split at h
    ·rename_i hd;exact .inr (of_decide_eq_true hd)
    ·exact h.elim
  have h':q59 op k a b K:=by
   split at h
   ·exact h
   ·split at h
    ·exact h
    ·exact h.elim
  obtain⟨u,hu,hr⟩:=qf8 (P:=P) h' hk T
  exact⟨u,hu,fun w=>by simp only[Sem.run_bind,qaX,Result.andThen];exact hr w⟩
 ·rename_i a b
  split at h
  ·rename_i hT
   rcases Zu h with⟨rfl,hk⟩ | ⟨rfl,hk⟩
   ·exact⟨_,hk,fun w=>by simp only[Sem.run_bind,q0L,Result.andThen,binOp,VH hT,Sem.run_pure]⟩
   ·exact⟨_,hk,fun w=>by simp only[Sem.run_bind,q0L,Result.andThen,binOp,VH hT,Sem.run_pure]⟩
  ·exact h.elim
 ·rename_i p
  split at h
  ·rename_i hT
   rcases Zu h with⟨rfl,hk⟩ | ⟨rfl,hk⟩
   ·exact⟨_,hk,fun w=>by simp only[Sem.run_bind,q2l,Result.andThen,binOp,JE hT,Sem.run_pure]⟩
   ·exact⟨_,hk,fun w=>by simp only[Sem.run_bind,q2l,Result.andThen,binOp,JE hT,Sem.run_pure]⟩
  ·exact h.elim
 ·rename_i p l c l' c'
  split at h
  ·rename_i hT
   rcases Zu h with⟨rfl,hk⟩ | ⟨rfl,hk⟩
   ·exact⟨_,hk,fun w=>by simp only[Sem.run_bind,JH,Result.andThen,binOp,YW hT,Sem.run_pure]⟩
   ·exact⟨_,hk,fun w=>by simp only[Sem.run_bind,JH,Result.andThen,binOp,YW hT,Sem.run_pure]⟩
  ·exact h.elim
 ·rename_i p
  split at h
  ·rename_i hT
   rcases Zu h with⟨rfl,hk⟩ | ⟨rfl,hk⟩
   ·exact⟨_,hk,fun w=>by simp only[Sem.run_bind,q2n,Result.andThen,binOp,JN hT,Sem.run_pure]⟩
   ·exact⟨_,hk,fun w=>by simp only[Sem.run_bind,q2n,Result.andThen,binOp,JN hT,Sem.run_pure]⟩
  ·exact h.elim
 ·unfold qya Ys at h
  obtain⟨u,hr,hk⟩:=vF h
  exact⟨u,hk,hr⟩
theorem qlN{c a b:Value}{K:Value->Prop}(h:qyD c a b K):∃ t,c=.bool t/\K (if t then a else b):=by
 unfold qyD at h
 split at h
 ·rename_i t
  refine⟨t,rfl,?_⟩
  split at h
  ·cases t<;>exact h
  ·cases t<;>exact h
 ·exact h.elim
theorem q1x{o:Oper}{e:ql}{a:Act}(hag:Ag e a){K:Value->Prop}(h:qw0 P e o.type o.op K) :
  ∃ u,K u/\∀ w,(execOp a.eval o).run P w=.ok (.value u) w:=by
 obtain⟨dst,op,type,pos,after,guard⟩:=o
 dsimp only at h
 unfold qw0 at h
 split at h
 ·obtain⟨v,hv,hk⟩:=qp h;exact⟨v,hk,fun w=>by simp[execOp,hag.eval hv]⟩
 ·obtain⟨v,hv,hk⟩:=qp h;exact⟨v,hk,fun w=>by simp[execOp,hag.eval hv]⟩
 ·obtain⟨vc,hc,h⟩:=qp h
  obtain⟨va,ha,h⟩:=qp h
  obtain⟨vb,hb,h⟩:=qp h
  obtain⟨t,rfl,hk⟩:=qlN h
  exact⟨_,hk,fun w=>by simp[execOp,hag.eval hc,hag.eval ha,hag.eval hb,asBool]⟩
 ·rename_i x
  obtain⟨v,hv,hk⟩:=qp h
  exact qub hk rfl (hag.eval hv)
 ·rename_i op T x y yT
  obtain⟨vx,hx,h⟩:=qp h
  obtain⟨vy,hy,h⟩:=qp h
  obtain⟨u,hk,hr⟩:=qvn h
  refine⟨u,hk,fun w=>?_⟩
  have:=hr w
  simp only[execOp,hag.eval hx,hag.eval hy]
  rw[Sem.run_bind,this]
  rfl
 ·rename_i op T x
  obtain⟨v,hv,h⟩:=qp h
  split at h
  ·exact⟨_,h,fun w=>by simp[execOp,hag.eval hv,Op.unary]⟩
  ·exact⟨_,h,fun w=>by simp[execOp,hag.eval hv,Op.unary,Op.intArith]⟩
  ·obtain⟨u,hr,hk⟩:=vF h
   exact⟨u,hk,fun w=>by simp[execOp,hag.eval hv,hr w]⟩
 ·rename_i src dst x
  obtain⟨v,hv,h⟩:=qp h
  split at h
  ·rename_i hs hd
   exact⟨_,h,fun w=>by simp[execOp,hag.eval hv,convert,zn hs,zn hd,Conv.intToInt]⟩
  ·obtain⟨u,hr,hk⟩:=vF h
   exact⟨u,hk,fun w=>by simp[execOp,hag.eval hv,hr w]⟩
 ·rename_i fn first captured
  obtain⟨fs,hf,h⟩:=qp h
  obtain⟨cs,hc,h⟩:=qp h
  have h1:=hag.evalAll hf
  have h2:=hag.evalAll hc
  refine⟨_,h,fun w=>?_⟩
  have e1:first.map a.eval=fs.toArray:=by rw[<-h1];simp[<-Array.toList_map]
  have e2:captured.map a.eval=cs.toArray:=by rw[<-h2];simp[<-Array.toList_map]
  simp[execOp,Instr.makeFunc,e1,e2]
 ·rename_i s x f
  obtain⟨v,hv,h⟩:=qp h
  obtain⟨⟨off,t,n⟩,ho,h⟩:=qp h
  dsimp only at h
  split at h
  ·split at h
   ·exact h.elim
   ·exact⟨_,h,fun w=>by simp[execOp,hag.eval hv,qaa ho]⟩
  ·exact h.elim
 ·rename_i s x f
  obtain⟨v,hv,h⟩:=qp h
  obtain⟨⟨off,t,n⟩,ho,h⟩:=qp h
  dsimp only at h
  split at h
  ·rename_i cs
   unfold Vg at ho
   split at ho
   ·rename_i fs hu
    split at ho
    ·rename_i fx hfx
     split at ho
     ·simp at ho
      obtain⟨rfl,rfl,hn⟩:=ho
      obtain⟨u,hk,hr⟩:=q67 h
      exact⟨u,hk,fun w=>by simp[execOp,hag.eval hv,Instr.field,zn hu,hfx,asAgg,hr w]⟩
     ·simp at ho
    ·simp at ho
   ·simp at ho
  ·exact h.elim
 ·rename_i t x i
  replace h:=qp h
  obtain⟨vx,hx,h⟩:=h
  replace h:=qp h
  obtain⟨vi,hi,h⟩:=h
  split at h
  ·rename_i el base len cap k i hu
   obtain⟨n,hn,h⟩:=qp h
   replace h:=qp h
   obtain⟨ad,rfl,h0,h1,hk⟩:=h
   exact⟨_,hk,fun w=>by simp[execOp,hag.eval hx,hag.eval hi,Instr.indexAt,asIntOf,zn hu,h0,h1,yN hn]⟩
  ·rename_i len el ad k i hu
   obtain⟨n,hn,h0,h1,hk⟩:=qp h
   exact⟨_,hk,fun w=>by simp[execOp,hag.eval hx,hag.eval hi,Instr.indexAt,asIntOf,Instr.sureAddr,zn hu,h0,h1,yN hn]⟩
  ·exact h.elim
 ·rename_i t x i
  replace h:=qp h
  obtain⟨vx,hx,h⟩:=h
  replace h:=qp h
  obtain⟨vi,hi,h⟩:=h
  split at h
  ·rename_i len el cs k i hu
   obtain⟨n,hn,h0,h1,hk⟩:=qp h
   obtain⟨u,hk,hr⟩:=q67 hk
   exact⟨u,hk,fun w=>by simp[execOp,hag.eval hx,hag.eval hi,Instr.index,asIntOf,zn hu,h0,h1,yN hn,hr w]⟩
  ·obtain⟨u,hr,hk⟩:=vF h
   exact⟨u,hk,fun w=>by simp[execOp,hag.eval hx,hag.eval hi,hr w]⟩
 ·rename_i t x lo hi mx
  obtain⟨vx,hx,h⟩:=qp h
  obtain⟨l,hl,h⟩:=qp h
  obtain⟨hh,hhh,h⟩:=qp h
  obtain⟨m,hm,h⟩:=qp h
  obtain⟨u,hr,hk⟩:=vF h
  exact⟨u,hk,fun w=>by simp[execOp,hag.eval hx,hag.evalOpt hl,hag.evalOpt hhh,hag.evalOpt hm,hr w]⟩
 ·rename_i t i
  obtain⟨v,hv,h⟩:=qp h
  split at h
  ·obtain⟨u,hu,h⟩:=qp h
   split at h
   ·have hk:=qat h
    exact⟨u,hk,fun w=>by simp[execOp,hag.eval hv,Instr.extract,hu]⟩
   ·exact⟨u,h,fun w=>by simp[execOp,hag.eval hv,Instr.extract,hu]⟩
  ·exact h.elim
 ·rename_i t yh
  obtain⟨ps,hp,h⟩:=qp h
  obtain⟨u,hr,hk⟩:=vF h
  have h1:=hag.evalParts hp
  have e1:(yh.map fun(i,x)=>(i,a.eval x))=ps.toArray:=by rw[<-h1];simp[<-Array.toList_map]
  exact⟨u,hk,fun w=>by simp only[execOp,e1];simp[hr w]⟩
 ·exact h.elim
end Go.Fx
namespace Go.Fx
open Go
variable {P:Program}
theorem q1w{o:Oper}{e:ql}{a:Act}(hag:Ag e a){w:World}{K:Value->Prop}(h:qsC P e o w K) :
  ∃ u,K u/\∀ w2,zZ w w2->(execOp a.eval o).run P w2=.ok (.value u) w2:=by
 unfold qsC at h
 split at h
 ·rename_i t x ho
  replace h:=qp h
  obtain⟨v,hv,h⟩:=h
  split at h
  ·obtain⟨u,hk,hr⟩:=qii h
   exact⟨u,hk,fun w2 hx=>by simp[execOp,ho,hag.eval hv,Instr.loadAt,Instr.sureAddr,hr w2 hx]⟩
  ·exact h.elim
 ·rename_i T m k ok ho
  replace h:=qp h
  obtain⟨vm,hm,h⟩:=h
  replace h:=qp h
  obtain⟨vk,hk,h⟩:=h
  obtain⟨u,hr,hk'⟩:=vS h
  exact⟨u,hk',fun w2 hx=>by simp[execOp,ho,hag.eval hm,hag.eval hk,hr w2 hx]⟩
 ·rename_i c ho
  split at h
  ·rename_i hc
   replace h:=qp h
   obtain⟨vs,hv,h⟩:=h
   obtain⟨u,hr,hk⟩:=vS h
   have h1:=hag.evalAll hv
   have e1:c.args.map a.eval=vs.toArray:=by rw[<-h1];simp[<-Array.toList_map]
   exact⟨u,hk,fun w2 hx=>by simp[execOp,ho,resolve,hc,invoke,builtin,e1,hr w2 hx]⟩
  ·exact h.elim
 ·exact h.elim
section wp
variable {r:Option Nat} {o:Oper} {a:Act} {w:World} {next:Act->World->Prop} {Q:Exit->Act->World->Prop}
theorem zB{v:Value}{w':World}(hd:Qc o)(h:(execOp a.eval o).run P w=.ok (.value v) w')(hk:next (a.put o.dst v) w'):o.wpIn (F r) 0 P a w next Q:=
 ⟨fun _ _=>trivial,by rw[Oper.semAt_eq _ _ _ hd,h];exact hk⟩
theorem wpIn_skip{w':World}(hd:Qc o)(h:(execOp a.eval o).run P w=.ok .skip w')(hk:next (a.put o.dst undef) w'):o.wpIn (F r) 0 P a w next Q:=
 ⟨fun _ _=>trivial,by rw[Oper.semAt_eq _ _ _ hd,h];exact hk⟩
theorem q6A{g:FuncId}{args:Array Value}{R:Ending->World->Prop}(h:Calls P g args w R):CallsIn (F r) 0 P g args w R:=
 (callsIn_wide (n:=0)).2 h
theorem Vq{g:FuncId}(h:yc P g=true)(args:Array Value)(w:World):(callFunc g args).run P w=.ok (.enter g args) w:=by
 unfold yc at h
 split at h
 ·rename_i fn hf
  simp only[Bool.and_eq_true,bne_iff_ne,ne_eq]at h
  obtain⟨b,hb⟩:∃ b,fn.body=some b:=Option.isSome_iff_exists.1 h.2
  simp[callFunc,hf,h.1,hb]
 ·cases h
theorem qtO{c:Call}{f:Operand}{vf:Value}{vs:List Value}{K:Value->World->Prop}(ho:o.op=.call c)(hc:c.callee=.value f)
  (hf:a.eval f=vf) (hv:c.args.map a.eval=vs.toArray) (h:Zw P vf vs w K) (hk:∀ v w',K v w'->next (a.put o.dst v) w'):o.wpIn (F r) 0 P a w next Q:=by
 have hd:Qc o:=fun c' h'=>by rw[ho]at h';cases h'
 unfold Zw at h
 split at h
 ·rename_i g first cap
  split at h
  case h_2=>exact h.elim
  rename_i he
  unfold qa q3B at h
  have e2:(first.toList++vs++cap.toList).toArray=first++vs.toArray++cap:=by simp
  rw[e2]at h
  refine⟨fun _ _=>trivial,?_⟩
  rw[Oper.semAt_eq _ _ _ hd]
  have hr:(execOp a.eval o).run P w=.ok (.enter g (first++vs.toArray++cap)) w:=by
   simp only[execOp,ho,resolve,hc,hf,hv,Deferred.ofValue,Sem.run_bind,Sem.run_pure,Result.andThen,invoke]
   exact Vq he _ _
  rw[hr]
  refine⟨fun h=>by simp at h,q6A (Calls.mono h fun e w' he=>?_)⟩
  cases e with
  | returned v=>exact hk _ _ he
  | panicked c=>exact he.elim
  | outgrown=>exact he.elim
 ·rename_i l first cap
  have e2:(first.toList++vs).toArray=first++vs.toArray:=by simp
  rw[e2]at h
  obtain⟨fn,tmps,assign,body,hy,hr⟩:=h
  refine⟨fun _ _=>trivial,?_⟩
  rw[Oper.semAt_eq _ _ _ hd]
  have hrun:(execOp a.eval o).run P w=.ok (.round l fn tmps assign body) w:=by
   simp only[execOp,ho,resolve,hc,hf,hv,Deferred.ofValue,Sem.run_bind,Sem.run_pure,Result.andThen,invoke]
   exact hy
  rw[hrun]
  refine⟨fun h=>by simp at h,?_⟩
  refine RoundIn.mono (F:=F r) (n:=0) (R:=q5B K) hr fun e w' he=>?_
  cases e with
  | returned v=>exact hk _ _ he
  | panicked c=>exact he.elim
  | outgrown=>exact he.elim
 ·exact h.elim
theorem q4H(t:TypeId)(c:Array Value):(newRow t c).run P w=.ok ⟨w.heap.size,0,none⟩ (w.alloc (.cells c t)):=by
 simp[newRow]
theorem q5L(w:World)(ad:Addr)(vs:List Value):∀ i:Nat,(∀ j v,vs[j]?=some v->(∃ u,w.cell? (ad.add (i+j))=some u)/\w.frozen? (ad.add (i+j))=false/\v.oneCell'=true)->
  (storeCells ad vs i).run P w=.ok () (Qf w ad i vs):=by
 induction vs generalizing w with
 | nil=>intro i _;simp[storeCells,Qf]
 | cons v r ih=>
  intro i h
  obtain⟨⟨u,hu⟩,hf,hv⟩:=h 0 v rfl
  simp only[Nat.add_zero]at hu hf
  unfold storeCells Qf
  rw[Sem.run_bind,run_store P w _ v .plain hv,hu]
  simp only[hf,Bool.false_eq_true,if_false,Result.andThen]
  refine ih _ (i+1) fun j x hx=>?_
  have:=h (j+1) x (by simpa using hx)
  rw[show i+(j+1)=i+1+j by omega]at this
  refine⟨?_,by rw[World.frozen?_setCell];exact this.2.1,this.2.2⟩
  by_cases he:ad.add i=ad.add (i+1+j)
  ·exact⟨v,by rw[<-he];exact World.cell?_setCell_same _ _ _ hu⟩
  ·exact⟨this.1.choose,by rw[World.cell?_setCell_other _ _ _ _ he];exact this.1.choose_spec⟩
theorem q3H(t:TypeId)(v:Value):(newVar t v).run P w=.ok ⟨w.heap.size,0,none⟩ (w.alloc (.cells v.cells t)):=q4H t v.cells
theorem qaf{t:TypeId}{i:TypeInfo}{z:Value}(hi:P.info? t=some i)(hz:i.zero=some z):(zeroValue t).run P w=.ok z w:=by
 simp[zeroValue,JC hi,hz]
theorem q12{t:TypeId}{n:Nat}{ad:Addr}{v:Value}(hn:ZS P t=some n)(hs:v.cells.size=n){w':World}(h:(storeCells ad v.cells.toList).run P w=.ok () w') :
  (storeVar t ad v).run P w=.ok () w':=by
 simp[storeVar,yN hn,hs,h]
theorem q4i(n:Nat):∀ (ps:List (Nat × Value)) (i:Nat) (pre post:List Value),q3c i ps=true->qJ n (ps.map (·.2))->pre.length=i*n->post.length=ps.length*n->
  Instr.fill (fun i=>some (i*n,n)) (pre++post).toArray ps=some (pre++(ps.map fun p=>p.2.cells.toList).flatten).toArray
 | [],i,pre,post,_,_,_,hp=>by
  have:post=[]:=List.length_eq_zero_iff.1 (by simpa using hp)
  subst this
  simp[Instr.fill]
 | (j,v)::r,i,pre,post,ho,hs,h1,h2=>by
  unfold q3c at ho
  simp only[Bool.and_eq_true]at ho
  have:i=j:=Nat.eq_of_beq_eq_true ho.1
  subst this
  obtain⟨hv,hr⟩:=hs
  dsimp only at hv
  simp only[List.length_cons,Nat.succ_mul]at h2
  have hlen:v.cells.toList.length=n:=by simpa using hv
  have key:(v.cells.zipIdx.foldl (fun cs (x:Value × Nat)=>cs.setIfInBounds (i*n+x.2) x.1) (pre++post).toArray)=((pre++v.cells.toList)++post.drop n).toArray:=by
   have gen:∀ (vs:List Value) (k:Nat) (done rest:List Value),done.length=k->vs.length<=rest.length->
     ((vs.zipIdx k).foldl (fun cs (x:Value × Nat)=>cs.setIfInBounds (i*n+x.2) x.1) (pre++done++rest).toArray)=(pre++done++vs++rest.drop vs.length).toArray:=by
    intro vs
    induction vs with
    | nil=>intro k done rest _ _;simp
    | cons x xs ih=>
     intro k done rest hk hl
     obtain⟨y,ys,rfl⟩:∃ y ys,rest=y::ys:=by
      cases rest with
      | nil=>simp at hl
      | cons y ys=>exact⟨y,ys,rfl⟩
     simp only[List.zipIdx_cons,List.foldl_cons]
     have e:((pre++done++y::ys).toArray.setIfInBounds (i*n+k) x)=(pre++(done++[x])++ys).toArray:=by
      rw[List.setIfInBounds_toArray]
      congr 1
      rw[List.set_append_right _ _ (by simp[h1,hk])]
      simp[h1,hk]
     rw[e,ih (k+1) (done++[x]) ys (by simp[hk]) (by simpa using hl)]
     simp
   have:=gen v.cells.toList 0 [] post rfl (by omega)
   simp only[List.append_nil]at this
   rw[hlen]at this
   rw[<-Array.foldl_toList]
   simpa using this
  unfold Instr.fill
  have hc:¬ (v.cells.size≠n\/i*n+v.cells.size > (pre++post).length):=by
   simp only[List.length_append]
   omega
  simp only[List.size_toArray,decide_not,Bool.or_eq_true,Bool.not_eq_true',decide_eq_false_iff_not,decide_eq_true_eq,hc,if_false]
  rw[key,q4i n r (i+1) (pre++v.cells.toList) (post.drop n) ho.2 hr (by simp[h1,hlen,Nat.succ_mul]) (by simp;omega)]
  simp
theorem qaP{t:TypeId}{len:Nat}{ps:List (Nat × Value)}{K:Value->World->Prop}(h:q9A P t len ps w K) :
  ∃ v w',(Instr.buildSlice t len ps.toArray).run P w=.ok v w'/\K v w':=by
 unfold q9A at h
 split at h
 ·rename_i el hu
  replace h:=qp h
  obtain⟨n,hn,h⟩:=h
  split at h
  ·rename_i hb
   simp only[Bool.and_eq_true]at hb
   obtain⟨⟨⟨⟨ho,hl⟩,hle⟩,hge⟩,hz⟩:=hb
   have hl':ps.length=len:=Nat.eq_of_beq_eq_true hl
   have hle':len*n<=16777216:=Nat.le_of_ble_eq_true hle
   have hge':1<=len*n:=Nat.le_of_ble_eq_true hge
   obtain⟨hs,hk⟩:=h
   refine⟨_,_,?_,hk⟩
   obtain⟨z,hz'⟩:=Option.isSome_iff_exists.1 hz
   cases hi:P.info? el with
   | none=>rw[hi]at hz';simp at hz'
   | some inf=>
    rw[hi]at hz'
    simp only[Option.bind_some]at hz'
    have hfill:=q4i n ps 0 [] (((Array.range (len*n)).map (z.cells[· % z.cells.size]!)).toList) ho hs (by simp) (by simp[hl'])
    simp only[List.nil_append,Array.toArray_toList]at hfill
    have h1:¬ len*n > 2 ^ 24:=by omega
    have h2:¬ len*n=0:=by omega
    simp only[Instr.buildSlice,Sem.run_bind,zn hu,Result.andThen,yN hn,h1,if_false,h2,qaf hi hz',Sem.run_pure,hfill,q4H]
  ·obtain⟨v,w',hr,hk⟩:=vS h;exact⟨v,w',hr,hk⟩
 ·exact h.elim
theorem qzJ{e:ql}(hag:Ag e a){K:ql->World->Prop}(h:qJg P r e o w K)(hk:∀ e' a' w',Ag e' a'->K e' w'->next a' w'):o.wpIn (F r) 0 P a w next Q:=by
 obtain⟨dst,op,type,pos,after,guard⟩:=o
 unfold qJg at h
 have put1:∀ v w',K (e.put dst v) w'->next (a.put dst v) w':=fun v w' h=>hk _ _ _ (hag.put dst v) h
 split at h
 case h_20=>exact h.elim
 all_goals (rename_i ho;dsimp only at ho;subst ho;dsimp only at h)
 ·split at h
  ·rename_i i hi
   split at h
   ·rename_i z hz
    exact zB (by intro c;simp) (w':=w.alloc (.cells z.cells _)) (by simp[execOp,Instr.alloc,qaf hi hz,q3H]) (put1 _ _ h)
   ·exact h.elim
  ·exact h.elim
 ·replace h:=qp h
  obtain⟨v,hv,h⟩:=h
  exact zB (by intro c;simp) (w':=w.alloc (.cells v.cells _)) (by simp[execOp,Instr.box,hag.eval hv,q3H]) (put1 _ _ h)
 ·replace h:=qp h
  obtain⟨ps,hp,h⟩:=h
  replace h:=qaP h
  obtain⟨v,w',hr,h⟩:=h
  have h1:=hag.evalParts hp
  rename_i yh
  have e1:(yh.map fun(i,x)=>(i,a.eval x))=ps.toArray:=by rw[<-h1];simp[<-Array.toList_map]
  exact zB (by intro c;simp) (w':=w') (by simp only[execOp,e1];simp[hr]) (put1 _ _ h)
 ·rename_i t x y
  replace h:=qp h
  obtain⟨va,ha,h⟩:=h
  replace h:=qp h
  obtain⟨v,hv,h⟩:=h
  split at h
  ·rename_i ad
   split at h
   ·split at h
    ·rename_i cs
     replace h:=qp h
     obtain⟨n,hn,hs,hc,h⟩:=h
     refine wpIn_skip (by intro c;simp) (w':=Qf w ad 0 cs.toList) ?_ (put1 _ _ h)
     have:=q12 (P:=P) (w:=w) (ad:=ad) (v:=.agg cs) hn hs (q5L w ad cs.toList 0 fun j u hu=>by
      have hj:j<n:=by
       have:=(List.getElem?_eq_some_iff.1 hu).1
       simp at this;omega
      have:=hc j hj
      rw[Nat.zero_add]
      exact⟨this.1,this.2.1,this.2.2 u (by simpa using hu)⟩)
     simp[execOp,hag.eval ha,hag.eval hv,Instr.storeAt,Instr.sureAddr,this]
    ·exact h.elim
   ·split at h
    ·rename_i hn
     obtain⟨⟨u,hu⟩,hf,h1,h⟩:=h
     refine wpIn_skip (by intro c;simp) (w':=w.setCell ad v) ?_ (put1 _ _ h)
     have hcs:v.cells=#[v]:=by cases v<;>first | rfl | simp[Value.oneCell']at h1
     have h2:=q12 (P:=P) (w:=w) (ad:=ad) (v:=v) (w':=w.setCell ad v) hn (by rw[hcs];rfl) (by
      rw[hcs]
      simp[storeCells,run_store P w _ v .plain h1,Addr.add,hu,hf])
     simp[execOp,hag.eval ha,hag.eval hv,Instr.storeAt,Instr.sureAddr,h2]
    ·exact h.elim
  ·exact h.elim
 ·exact zB (by intro c;simp) (w':=w.alloc (.map #[] 0)) (by simp[execOp,Instr.makeMap]) (put1 _ _ h)
 ·replace h:=qp h
  obtain⟨v,hv,h⟩:=h
  replace h:=vS h
  obtain⟨u,w',hr,h⟩:=h
  exact zB (by intro c;simp) (by simp[execOp,hag.eval hv,hr]) (put1 _ _ h)
 ·replace h:=qp h
  obtain⟨v1,hv1,h⟩:=h
  replace h:=qp h
  obtain⟨v2,hv2,h⟩:=h
  replace h:=vS h
  obtain⟨u,w',hr,h⟩:=h
  exact zB (by intro c;simp) (by simp[execOp,hag.eval hv1,hag.eval hv2,hr]) (put1 _ _ h)
 ·replace h:=qp h
  obtain⟨v,hv,h⟩:=h
  replace h:=vS h
  obtain⟨u,w',hr,h⟩:=h
  exact zB (by intro c;simp) (by simp[execOp,hag.eval hv,hr]) (put1 _ _ h)
 ·replace h:=qp h
  obtain⟨v,hv,h⟩:=h
  replace h:=vS h
  obtain⟨u,w',hr,h⟩:=h
  exact zB (by intro c;simp) (by simp[execOp,hag.eval hv,hr]) (put1 _ _ h)
 ·replace h:=qp h
  obtain⟨v,hv,h⟩:=h
  replace h:=vS h
  obtain⟨u,w',hr,h⟩:=h
  exact zB (by intro c;simp) (by simp[execOp,hag.eval hv,hr]) (put1 _ _ h)
 ·replace h:=qp h
  obtain⟨v1,hv1,h⟩:=h
  replace h:=qp h
  obtain⟨v2,hv2,h⟩:=h
  replace h:=qp h
  obtain⟨v3,hv3,h⟩:=h
  obtain⟨w',hr,h⟩:=h
  exact wpIn_skip (by intro c;simp) (w':=w') (by simp[execOp,hag.eval hv1,hag.eval hv2,hag.eval hv3,hr]) (put1 _ _ h)
 ·replace h:=qp h
  obtain⟨v1,hv1,h⟩:=h
  replace h:=qp h
  obtain⟨v2,hv2,h⟩:=h
  replace h:=qp h
  obtain⟨v3,hv3,h⟩:=h
  obtain⟨w',hr,h⟩:=h
  exact wpIn_skip (by intro c;simp) (w':=w') (by simp[execOp,hag.eval hv1,hag.eval hv2,hag.eval hv3,hr]) (put1 _ _ h)
 ·replace h:=qp h
  obtain⟨v1,hv1,h⟩:=h
  replace h:=qp h
  obtain⟨v2,hv2,h⟩:=h
  replace h:=vS h
  obtain⟨u,w',hr,h⟩:=h
  exact zB (by intro c;simp) (by simp[execOp,hag.eval hv1,hag.eval hv2,hr]) (put1 _ _ h)
 ·replace h:=qp h
  obtain⟨v1,hv1,h⟩:=h
  replace h:=qp h
  obtain⟨v2,hv2,h⟩:=h
  replace h:=qp h
  obtain⟨v3,hv3,h⟩:=h
  obtain⟨w',hr,h⟩:=h
  exact wpIn_skip (by intro c;simp) (w':=w') (by simp[execOp,hag.eval hv1,hag.eval hv2,hag.eval hv3,hr]) (put1 _ _ h)
 ·replace h:=qp h
  obtain⟨v,hv,h⟩:=h
  obtain⟨b,w',hr,h⟩:=h
  exact zB (by intro c;simp) (by simp[execOp,hag.eval hv,hr]) (put1 _ _ h)
 ·replace h:=qp h
  obtain⟨v,hv,h⟩:=h
  rcases h with⟨w',hr,h⟩ | ⟨k,u,w',hr,h⟩
  ·exact zB (by intro c;simp) (by simp[execOp,hag.eval hv,hr]) (put1 _ _ h)
  ·exact zB (by intro c;simp) (by simp[execOp,hag.eval hv,hr]) (put1 _ _ h)
 ·replace h:=qp h
  obtain⟨v,hv,h⟩:=h
  obtain⟨k,u,w',hr,h⟩:=h
  exact zB (v:=.tuple #[k,u]) (w':=w') (by intro c;simp) (by simp[execOp,hag.eval hv,hr]) (hk _ _ _ ((hag.put dst _).markE dst) h)
 ·rename_i c
  split at h
  ·rename_i b hc
   replace h:=qp h
   obtain⟨vs,hv,h⟩:=h
   have h1:=hag.evalAll hv
   have e1:c.args.map a.eval=vs.toArray:=by rw[<-h1];simp[<-Array.toList_map]
   split at h
   all_goals first
    | exact h.elim
    | (replace h:=vS h
       obtain⟨u,w',hr,h⟩:=h
       exact zB (by intro c;simp) (w':=w') (by simp[execOp,resolve,hc,invoke,builtin,e1,hr]) (put1 _ _ h))
  ·rename_i f hc
   replace h:=qp h
   obtain⟨vf,hf,h⟩:=h
   replace h:=qp h
   obtain⟨vs,hv,h⟩:=h
   have h1:=hag.evalAll hv
   have e1:c.args.map a.eval=vs.toArray:=by rw[<-h1];simp[<-Array.toList_map]
   exact qtO rfl hc (hag.eval hf) e1 h fun v w' hk'=>put1 _ _ (qat hk')
  ·exact h.elim
 ·rename_i c
  split at h
  ·exact h.elim
  ·split at h
   ·rename_i f hc
    replace h:=qp h
    obtain⟨vf,hf,h⟩:=h
    replace h:=qp h
    obtain⟨vs,hv,h⟩:=h
    have h1:=hag.evalAll hv
    have e1:c.args.map a.eval=vs.toArray:=by rw[<-h1];simp[<-Array.toList_map]
    split at h
    ·rename_i fn first cap
     refine⟨fun _ _=>trivial,?_⟩
     have hr:(execOp a.eval { dst:=dst,op:=.defer c,type:=type,pos:=pos,after:=after,guard:=guard }).run P w =
       .ok (.defer { target:=.fn fn cap,args:=first++vs.toArray }) w:=by
      simp[execOp,resolve,hc,hag.eval hf,e1,Deferred.ofValue]
     rw[qC1,Oper.semAt_none,hr]
     refine hk _ _ _ ?_ h
     have hd:Ag { e with d:={ target:=.fn fn cap,args:=first++vs.toArray }::e.d } { a with defers:={ target:=.fn fn cap,args:=first++vs.toArray }::a.defers }:=
      ⟨hag.size,hag.get,by simp[hag.def']⟩
     exact hd.put _ _
    ·exact h.elim
   ·exact h.elim
end wp
end Go.Fx
namespace Go.Fx
open Go
variable {P:Program}
def QS(K:Exit->ql->World->Prop):Exit->Act->World->Prop
 | .normal,a,w=>∃ e,Ag e a/\K .normal e w
 | .ret,a,w=>∃ e,Ag e a/\K .ret e w
 | .exit id,a,w=>∃ e,Ag e a/\K (.exit id) e w
 | _,_,_=>False
theorem qfo{ops:Array Oper}{e:ql}{a:Act}(hag:Ag e a){j t:Nat}{b:Bool}(ht:(ops[j]?).bind (·.dst)=some t)(hb:e.get? t=some (.bool b)) :
  yielded ops a.tmps j=some b:=by
 have h:=hag.get t _ hb
 unfold yielded
 rw[ht]
 simp only[Option.bind_some]
 cases hx:a.tmps[t]? with
 | none=>
  rw[Array.getElem?_eq_none_iff]at hx
  simp[Array.getD,Nat.not_lt.mpr hx,undef]at h
 | some v=>
  have:a.tmps.getD t undef=v:=by simp[Array.getElem?_eq_some_iff]at hx;obtain⟨h1,h2⟩:=hx;simp[Array.getD,h1,h2]
  rw[this]at h
  subst h
  rfl
theorem VN{r:Option Nat}{ops:Array Oper}{o:Oper}{e:ql}{a:Act}(hag:Ag e a){w:World}{K:ql->World->Prop}(h:q3v P r ops o e w K) :
  (Region.wanted o (yielded ops a.tmps)=true/\∃ e',Ag e' a/\opS P r e' o w K)\/(Region.wanted o (yielded ops a.tmps)=false/\∃ e',Ag e' (a.put o.dst undef)/\K e' w):=by
 unfold q3v at h
 split at h
 ·rename_i hg
  exact .inl ⟨by simp[Region.wanted,hg],e,hag,h⟩
 ·rename_i j want hg
  split at h
  ·rename_i t ht
   split at h
   ·rename_i b hb
    have hy:=qfo hag ht hb
    rw[qfs]at h
    have h:=q8M.elim h
    unfold qej at h
    have hag':Ag (e.put (some t) (.bool b)) a:=by
     have:=hag.put (some t) (.bool b)
     refine⟨?_,?_,?_⟩
     ·have:=this.size;simpa [Act.put]using this
     ·intro s v hs
      have h1:=this.get s v hs
      by_cases hst:t=s
      ·subst hst
       have h2:=hag.get t _ hb
       have:e.put (some t) (.bool b)=e.put (some t) (.bool b):=rfl
       by_cases hlt:t<a.tmps.size
       ·simp[Act.put,hlt]at h1
        rw[<-h1];exact h2
       ·have:a.tmps.setIfInBounds t (.bool b)=a.tmps:=Array.setIfInBounds_eq_of_size_le (Nat.le_of_not_lt hlt)
        simp only[Act.put,this]at h1
        exact h1
      ·simp[Act.put,Array.getElem?_setIfInBounds_ne hst]at h1
       simpa using h1
     ·have:=this.def';simpa [Act.put]using this
    split at h
    ·rename_i he
     exact .inl ⟨by simp[Region.wanted,hg,hy,eq_of_beq he],_,hag',h⟩
    ·rename_i he
     exact .inr ⟨by simp[Region.wanted,hg,hy];intro hh;rw[hh]at he;simp at he,_,hag'.put o.dst undef,h⟩
   ·rename_i vs hb
    have hy:yielded ops a.tmps j=none:=by
     have h2:=hag.get t _ hb
     unfold yielded
     rw[ht]
     simp only[Option.bind_some]
     cases hx:a.tmps[t]? with
     | none=>rfl
     | some v=>
      have:a.tmps.getD t undef=v:=by simp[Array.getElem?_eq_some_iff]at hx;obtain⟨h1,h2⟩:=hx;simp[Array.getD,h1,h2]
      rw[this]at h2
      subst h2
      rfl
    exact .inr ⟨by simp[Region.wanted,hg,hy],_,hag.put o.dst undef,h⟩
   ·exact h.elim
  ·exact h.elim
theorem Vb{o:Oper}(h:ZD P o.op=true):Qc o:=fun c hc=>by rw[hc]at h;simp[ZD]at h
theorem YY{o:Oper}(h:YM o.op=true):Qc o:=fun c hc=>by rw[hc]at h;simp[YM]at h
theorem qwe{r:Option Nat}{o:Oper}{e:ql}{a:Act}(hag:Ag e a){w:World}{K:ql->World->Prop}{next:Act->World->Prop}{Q:Exit->Act->World->Prop}
  (h:opS P r e o w K) (hk:∀ e' a' w',Ag e' a'->K e' w'->next a' w'):o.wpIn (F r) 0 P a w next Q:=by
 unfold opS at h
 split at h
 ·rename_i hp
  obtain⟨u,hu,hr⟩:=q1x hag h
  exact zB (Vb hp) (hr w) (hk _ _ _ (hag.put _ _) hu)
 ·split at h
  ·rename_i hp
   obtain⟨u,hu,hr⟩:=q1w hag h
   exact zB (YY hp) (hr w (zZ.refl w)) (hk _ _ _ (hag.put _ _) hu)
  ·exact qzJ hag h hk
theorem qvo{r:Option Nat}{ops:Array Oper}{i:Nat}{o:Oper}(ho:ops[i]?=some o){e:ql}{a:Act}(hag:Ag e a){w:World}{K:ql->World->Prop}
  {next:Act->World->Prop} {Q:Exit->Act->World->Prop} (h:q3v P r ops o e w K) (hk:∀ e' a' w',Ag e' a'->K e' w'->next a' w'):wpOpIn (F r) 0 P ops Q i next a w:=by
 unfold wpOpIn
 rw[ho]
 rcases VN hag h with⟨hw,e',hag',h⟩ | ⟨hw,e',hag',h⟩
 ·simp only[hw,if_true];exact qwe hag' h hk
 ·simp only[hw,Bool.false_eq_true,if_false];exact⟨fun _ _=>trivial,hk _ _ _ hag' h⟩
theorem qk5{r:Option Nat}{ops:Array Oper}{K:ql->World->Prop}{Q:Exit->Act->World->Prop}(hQ:∀ e a w,Ag e a->K e w->Q .normal a w) :
  ∀ (l:List Oper) (k:Nat) (e:ql) (a:Act) (w:World),(∀ j,l[j]?=ops[k+j]?)->Ag e a->qFY P r ops l e w K->wpOpsIn (F r) 0 P ops Q (List.range' k l.length) a w
 | [],_,e,a,w,_,hag,h=>hQ e a w hag h
 | o::l,k,e,a,w,hl,hag,h=>by
  have ho:ops[k]?=some o:=by simpa using(hl 0).symm
  simp only[List.length_cons,List.range'_succ]
  rw[wpOpsIn_cons]
  refine qvo ho hag h fun e' a' w' hag' h'=>qk5 hQ l (k+1) e' a' w' (fun j=>?_) hag' h'
  have:=hl (j+1)
  simpa [Nat.add_assoc,Nat.add_comm 1 j]using this
theorem q6C{p:Nat->Prop}:∀ (l:List Nat),qEB l p->∀ i∈l,p i
 | [],_,_,h=>by cases h
 | [i],h,j,hj=>by simp at hj;subst hj;exact h
 | i::k::r,h,j,hj=>by
  rcases List.mem_cons.1 hj with rfl | hj
  ·exact h.1
  ·exact q6C (k::r) h.2 j hj
def Qs(P:Program)(o:Oper):Bool:=ZD P o.op||YM o.op
def wpOpG(r:Option Nat)(P:Program)(ops:Array Oper)(Q:Exit->Act->World->Prop)(i:Nat)(K:Act->World->Prop)(a:Act)(w:World):Prop:=
 match ops[i]? with
 | none=>K a w
 | some o=>if Region.wanted o (yielded ops a.tmps)=true then
   (if Qs P o=true then ∃ v,(execOp a.eval o).run P w=.ok (.value v) w/\K (a.put o.dst v) w else o.wpIn (F r) 0 P a w K Q)
  else K (a.put o.dst undef) w
def q57(r:Option Nat)(P:Program)(ops:Array Oper)(Q:Exit->Act->World->Prop):Nat->Array Bool->Act->World->Prop
 | 0,listed,a,w=>Region.ready .any ops listed=[]/\Q .normal a w
 | fuel+1,listed,a,w=>
  (Region.ready .any ops listed=[]->Q .normal a w)/\
  ∀ i∈Region.ready .any ops listed,wpOpG r P ops Q i (q57 r P ops Q fuel (listed.setIfInBounds i true)) a w
section G
variable {r:Option Nat} {ops:Array Oper} {Q:Exit->Act->World->Prop}
theorem q1J{o:Oper}(h:Qs P o=true):Qc o:=by
 unfold Qs at h
 simp only[Bool.or_eq_true]at h
 rcases h with h | h
 ·exact Vb h
 ·exact YY h
theorem qea{i:Nat}{a:Act}{w:World}{K K':Act->World->Prop}(h:∀ a w,K a w->K' a w)(hh:wpOpG r P ops Q i K a w):wpOpG r P ops Q i K' a w:=by
 unfold wpOpG at *
 split
 ·rename_i ho;rw[ho]at hh;exact h _ _ hh
 ·rename_i o ho
  rw[ho]at hh
  dsimp only at hh
  split
  ·rename_i hw
   rw[if_pos hw]at hh
   split
   ·rename_i hs;rw[if_pos hs]at hh;obtain⟨v,h1,h2⟩:=hh;exact⟨v,h1,h _ _ h2⟩
   ·rename_i hs;rw[if_neg hs]at hh;exact Oper.wpIn_mono h hh
  ·rename_i hw;rw[if_neg hw]at hh;exact h _ _ hh
theorem q2m{i:Nat}{a:Act}{w:World}{K:Act->World->Prop}(hh:wpOpG r P ops Q i K a w):wpOpIn (F r) 0 P ops Q i K a w:=by
 unfold wpOpG at hh
 unfold wpOpIn
 split
 ·rename_i ho;rw[ho]at hh;exact hh
 ·rename_i o ho
  rw[ho]at hh
  dsimp only at hh
  split
  ·rename_i hw
   rw[if_pos hw]at hh
   split at hh
   ·rename_i hs;obtain⟨v,h1,h2⟩:=hh;exact zB (q1J hs) h1 h2
   ·exact hh
  ·rename_i hw;rw[if_neg hw]at hh;exact⟨fun _ _=>trivial,hh⟩
theorem q0u:∀ (fuel:Nat) (listed:Array Bool) (a:Act) (w:World),q57 r P ops Q fuel listed a w->wpAnyIn (F r) 0 P .any ops Q fuel listed a w
 | 0,_,_,_,h=>h
 | fuel+1,_,_,_,h=>⟨h.1,fun i hi=>wpOpIn_mono (fun a w h=>q0u fuel _ a w h) (q2m (h.2 i hi))⟩
theorem qzC{i:Nat}{o:Oper}(ho:ops[i]?=some o){e:ql}{a:Act}(hag:Ag e a){w:World}{K:ql->World->Prop}
  {next:Act->World->Prop} (h:q3v P r ops o e w K) (hk:∀ e' a' w',Ag e' a'->K e' w'->next a' w'):wpOpG r P ops Q i next a w:=by
 unfold wpOpG
 rw[ho]
 dsimp only
 rcases VN hag h with⟨hw,e',hag',h⟩ | ⟨hw,e',hag',h⟩
 ·rw[if_pos hw]
  split
  ·rename_i hs
   unfold opS at h
   split at h
   ·obtain⟨u,hu,hr⟩:=q1x hag' h
    exact⟨u,hr w,hk _ _ _ (hag'.put _ _) hu⟩
   ·rename_i hp
    split at h
    ·obtain⟨u,hu,hr⟩:=q1w hag' h
     exact⟨u,hr w (zZ.refl w),hk _ _ _ (hag'.put _ _) hu⟩
    ·rename_i hq;simp[Qs,hp,hq]at hs
  ·exact qwe hag' h hk
 ·rw[if_neg (by rw[hw];simp)];exact hk _ _ _ hag' h
variable {Rel:World->World->Prop}
theorem qvH{o:Oper}(h:q5W o.op=true):qmu P zZ o:=fun ρ w=>by
 obtain⟨dst,op,type,pos,after,guard⟩:=o
 cases op<;>try (simp[q5W]at h;done)
 ·rename_i t
  have hg:zX P (Instr.alloc t true (.tuple #[])):=.bind (.zeroValue _) fun _=>.bind (.newVar _ _) fun _=>.pure _
  simp only[execOp]
  rw[Sem.run_bind]
  cases hr:(Instr.alloc t true (.tuple #[])).run P w with
  | ok v w'=>exact hg _ _ _ hr
  | halt x w'=>trivial
 ·rename_i t x
  have hg:zX P (Instr.box t (ρ x)):=.bind (.newVar _ _) fun _=>.pure _
  simp only[execOp]
  rw[Sem.run_bind]
  cases hr:(Instr.box t (ρ x)).run P w with
  | ok v w'=>exact hg _ _ _ hr
  | halt x w'=>trivial
 ·rename_i t x
  cases x with
  | some x=>simp[q5W]at h
  | none=>
   have hg:zX P (Instr.makeMap t none):=.bind (.newObj _) fun _=>.pure _
   simp only[execOp,Option.map_none]
   rw[Sem.run_bind]
   cases hr:(Instr.makeMap t none).run P w with
   | ok v w'=>exact hg _ _ _ hr
   | halt x w'=>trivial
theorem qfY(htrans:∀ a b c,Rel a b->Rel b c->Rel a c){j:Nat}{oi oj:Oper}{v:Value}(hj:ops[j]?=some oj)(hap:oi.apart ops oj=true)
  (hsi:∀ cs b,oi.op≠.select cs b) (hsj:∀ cs b,oj.op≠.select cs b) (hdj:Qc oj) (hm:Qs P oj=true\/qmu P Rel oj)
  (hQ:∀ c a w,¬ Q (.panic c) a w) {K:Act->World->Prop} {a:Act} {w:World}
  (hy:Yld P ops Rel oi v a w) (h:wpOpG r P ops Q j K (a.put oi.dst v) w) :
  wpOpG r P ops Q j (fun a' w'=>Yld P ops Rel oi v a' w'/\K (a'.put oi.dst v) w') a w:=by
 obtain⟨h1,h2,h3⟩:=Oper.apart_spec hap
 have yy:∀ (a:Act) (w:World),Yld P ops Rel oi v a w->∀ u,Yld P ops Rel oi v (a.put oj.dst u) w:=fun a w hy u=>
  hy.of_same (execOp_put oi hsi a oj.dst u h3) (wanted_put oi a oj.dst u h3)
 by_cases hs:Qs P oj=true
 ·unfold wpOpG at *
  simp only[hj]at *
  rw[wanted_put oj a oi.dst v h1]at h
  split
  ·rename_i hw
   rw[if_pos hw,if_pos hs]at h
   obtain⟨u,hr,hk⟩:=h
   rw[execOp_put oj hsj a oi.dst v h1]at hr
   exact⟨u,hr,yy a w hy u,by rw[<-Act.put_comm a v u h2];exact hk⟩
  ·rename_i hw
   rw[if_neg hw]at h
   exact⟨yy a w hy _,by rw[<-Act.put_comm a v undef h2];exact h⟩
 ·have hmj:=hm.resolve_left hs
  have hin:wpOpIn (F r) 0 P ops Q j K (a.put oi.dst v) w:=q2m h
  have:=qbz (r:=r) htrans hj hap hsi hsj hdj hmj hQ hy hin
  unfold wpOpIn at this
  unfold wpOpG
  simp only[hj]at *
  split
  ·rename_i hw;rw[if_pos hw]at this;exact this
  ·rename_i hw;rw[if_neg hw]at this;exact this.2
theorem Yld.wpOpG{i:Nat}{o:Oper}{v:Value}{a:Act}{w:World}(hrefl:∀ w,Rel w w)(hs:Qs P o=true)(hi:ops[i]?=some o)(hy:Yld P ops Rel o v a w)
  {K:Act->World->Prop} (h:K (a.put o.dst v) w):wpOpG r P ops Q i K a w:=by
 unfold Fx.wpOpG
 rw[hi]
 dsimp only
 rcases hy with⟨hw,hv⟩ | ⟨hw,rfl⟩
 ·rw[if_pos hw,if_pos hs];exact⟨v,hv w (hrefl w),h⟩
 ·rw[if_neg (by rw[hw];simp)];exact h
theorem q2x(hrefl:∀ w,Rel w w)(htrans:∀ a b c,Rel a b->Rel b c->Rel a c){i:Nat}{oi:Oper}{v:Value}(hi:ops[i]?=some oi)(hsti:Qs P oi=true)
  (hsel:∀ (j:Nat) (o:Oper) cs b,ops[j]?=some o->o.op≠.select cs b) (hdf:∀ (j:Nat) (o:Oper),ops[j]?=some o->Qc o) (hQ:∀ c a w,¬ Q (.panic c) a w)
  (RS:Nat->Prop) (hcl:∀ j oj,ops[j]?=some oj->j≠i->(∀ e∈oj.after,Region.binds .any e=true->RS e.on)->RS j) :
  ∀ (fuel:Nat) (listed:Array Bool) (a:Act) (w:World),
   (∀ j oj,ops[j]?=some oj->j≠i->listed.getD j true=false->RS j->Qs P oj=true\/qmu P Rel oj)->
   (∀ j oj,ops[j]?=some oj->j≠i->listed.getD j true=false->(∀ e∈oj.after,Region.binds .any e=true->e.on≠i)->oi.apart ops oj=true)->
   (∀ j,listed.getD j false=true->RS j)->
   i∈Region.ready .any ops listed->Yld P ops Rel oi v a w->
   q57 r P ops Q fuel (listed.setIfInBounds i true) (a.put oi.dst v) w->q57 r P ops Q (fuel+1) listed a w:=by
 intro fuel
 induction fuel with
 | zero=>
  intro listed a w _ _ _ hr hy H
  refine⟨fun h=>(by rw[h]at hr;cases hr),fun j hj=>?_⟩
  by_cases hji:j=i
  ·subst hji;exact hy.wpOpG hrefl hsti hi H
  ·have:=ready_mono hj hji
   rw[H.1]at this
   cases this
 | succ fuel ih=>
  intro listed a w hml hfree hls hr hy H
  refine⟨fun h=>(by rw[h]at hr;cases hr),fun j hj=>?_⟩
  by_cases hji:j=i
  ·subst hji;exact hy.wpOpG hrefl hsti hi H
  ·have h1:=H.2 j (ready_mono hj hji)
   obtain⟨hjun,oj,hoj,hall⟩:=mem_ready.1 hj
   have hnot:∀ e∈oj.after,Region.binds .any e=true->e.on≠i:=fun e he hb heq=>by
    have h1:=hall e he hb
    have h0:=(mem_ready.1 hr).1
    rw[heq]at h1
    rcases Nat.lt_or_ge i listed.size with h' | h'
    ·simp[h']at h0 h1;rw[h0]at h1;cases h1
    ·simp[Array.getElem?_eq_none h']at h1
   have hRj:RS j:=hcl j oj hoj hji (fun e he hb=>hls _ (hall e he hb))
   have h2:=qfY (r:=r) htrans hoj (hfree j oj hoj hji hjun hnot) (fun cs b=>hsel i oi cs b hi) (fun cs b=>hsel j oj cs b hoj) (hdf _ _ hoj) (hml j oj hoj hji hjun hRj) hQ hy h1
   have hfree':∀ k ok,ops[k]?=some ok->k≠i->(listed.setIfInBounds j true).getD k true=false->
     (∀ e∈ok.after,Region.binds .any e=true->e.on≠i)->oi.apart ops ok=true:=fun k ok hk hki hun hno=>by
    refine hfree k ok hk hki ?_ hno
    by_cases hjk:j=k
    ·subst hjk;exact hjun
    ·rw[getD_set_ne true hjk]at hun;exact hun
   have hml':∀ k ok,ops[k]?=some ok->k≠i->(listed.setIfInBounds j true).getD k true=false->RS k->Qs P ok=true\/qmu P Rel ok:=fun k ok hk hki hun hrs=>by
    refine hml k ok hk hki ?_ hrs
    by_cases hjk:j=k
    ·subst hjk;exact hjun
    ·rw[getD_set_ne true hjk]at hun;exact hun
   have hls':∀ k,(listed.setIfInBounds j true).getD k false=true->RS k:=fun k hk=>by
    by_cases hjk:j=k
    ·subst hjk;exact hRj
    ·rw[getD_set_ne false hjk]at hk;exact hls k hk
   refine qea (fun a' w' h3=>ih (listed.setIfInBounds j true) a' w' hml' hfree' hls' (ready_mono hr (Ne.symm hji)) h3.1 ?_) h2
   rw[Array.setIfInBounds_comm _ _ hji]
   exact h3.2
theorem qbB{o:Oper}(hs:Qs P o=true){e:ql}{a:Act}(hag:Ag e a){w:World}{K:ql->World->Prop}(h:q3v P r ops o e w K) :
  ∃ v e',Ag e' (a.put o.dst v)/\K e' w/\Yld P ops zZ o v a w/\(ZD P o.op=true->Yld P ops (fun _ _=>True) o v a w):=by
 rcases VN hag h with⟨hw,e',hag',h⟩ | ⟨hw,e',hag',h⟩
 ·unfold opS at h
  split at h
  ·obtain⟨u,hu,hr⟩:=q1x hag' h
   exact⟨u,_,hag'.put _ _,hu,.inl ⟨hw,fun w2 _=>hr w2⟩,fun _=>.inl ⟨hw,fun w2 _=>hr w2⟩⟩
  ·rename_i hp
   split at h
   ·obtain⟨u,hu,hr⟩:=q1w hag' h
    exact⟨u,_,hag'.put _ _,hu,.inl ⟨hw,fun w2 hx=>hr w2 hx⟩,fun h=>by rw[hp]at h;cases h⟩
   ·rename_i hq;simp[Qs,hp,hq]at hs
 ·exact⟨undef,e',hag',h,.inr ⟨hw,rfl⟩,fun _=>.inr ⟨hw,rfl⟩⟩
theorem qtB(m i:Nat):tb m i=m.testBit i:=by
 unfold tb Nat.testBit
 have h1:(Nat.land (Nat.shiftRight m i) 1)=(m >>> i) % 2:=Nat.and_one_is_mod _
 have h2:1 &&& m >>> i=(m >>> i) % 2:=by rw[Nat.and_comm];exact Nat.and_one_is_mod _
 rw[h1,h2]
 rcases Nat.mod_two_eq_zero_or_one (m >>> i)with h | h<;>rw[h]<;>rfl
theorem Qy(i j:Nat):(q21 i).testBit j=decide (i=j):=by
 have:q21 i=2 ^ i:=Nat.one_shiftLeft i
 rw[this,Nat.testBit_two_pow]
theorem ji(a b j:Nat):(Nat.lor a b).testBit j=(a.testBit j||b.testBit j):=Nat.testBit_or a b j
theorem q18(a b j:Nat):(Nat.land a b).testBit j=(a.testBit j&&b.testBit j):=Nat.testBit_and a b j
theorem qbE(a b j:Nat):(Nat.xor a b).testBit j=(a.testBit j ^^ b.testBit j):=Nat.testBit_xor a b j
theorem q2O(a m:Nat):sub a m=true↔∀ j,a.testBit j=true->m.testBit j=true:=by
 unfold sub
 constructor
 ·intro h j hj
  have h1:=Nat.eq_of_beq_eq_true h
  have h2:=q18 a m j
  rw[h1,hj]at h2
  simpa using h2.symm
 ·intro h
  rw[Nat.beq_eq]
  apply Nat.eq_of_testBit_eq
  intro j
  rw[q18]
  cases ha:a.testBit j
  ·rfl
  ·simp[h j ha]
theorem QB(l:List Edge)(j:Nat):(q5P l).testBit j=true↔∃ e∈l,Region.binds .any e=true/\e.on=j:=by
 induction l with
 | nil=>simp[q5P]
 | cons e r ih=>
  unfold q5P
  split
  ·rename_i hb
   rw[ji,Bool.or_eq_true,ih,Qy]
   simp[hb]
  ·rename_i hb
   rw[ih]
   simp[hb]
structure Rep (ops:Array Oper) (m:Nat) (listed:Array Bool):Prop where
 size:listed.size=ops.size
 bit:∀ j,listed.getD j false=m.testBit j
theorem Rep.getD_true{m:Nat}{listed:Array Bool}(h:Rep ops m listed){j:Nat}(hj:j<ops.size):listed.getD j true=m.testBit j:=by
 rw[<-h.bit j]
 have:j<listed.size:=by rw[h.size];exact hj
 simp[Array.getD,this]
theorem Rep.set{m:Nat}{listed:Array Bool}(h:Rep ops m listed){i:Nat}(hi:i<ops.size):Rep ops (Nat.lor m (q21 i)) (listed.setIfInBounds i true):=by
 refine⟨by simp[h.size],fun j=>?_⟩
 rw[ji,Qy,<-h.bit j]
 by_cases hij:i=j
 ·subst hij
  have:i<listed.size:=by rw[h.size];exact hi
  simp[Array.getD,this]
 ·rw[getD_set_ne false hij];simp[hij]
theorem Rep.ready{m:Nat}{listed:Array Bool}(h:Rep ops m listed):Region.ready .any ops listed=q7N ops m:=by
 unfold Region.ready q7N
 apply List.filter_congr
 intro i hi
 rw[List.mem_range]at hi
 rw[h.getD_true hi,qtB]
 congr 1
 unfold qw9
 rw[Array.getElem?_eq_getElem hi]
 simp only[Option.map_some,Option.getD_some]
 rw[Bool.eq_iff_iff,q2O]
 rw[Array.all_eq_true_iff_forall_mem]
 constructor
 ·intro h1 j hj
  obtain⟨e,he,hb,rfl⟩:=(QB _ _).1 hj
  have:=h1 e (by simpa using he)
  rw[hb]at this
  rw[<-h.bit]
  simpa using this
 ·intro h1 e he
  cases hb:Region.binds .any e
  ·rfl
  ·have:=h1 e.on ((QB _ _).2 ⟨e,by simpa using he,hb,rfl⟩)
   rw[h.bit,this];rfl
theorem q0N(i:Nat)(o:Oper):∀ (l:List Oper) (k j:Nat) (oj:Oper),l[j]?=some oj->k+j≠i->(∀ e∈oj.after,Region.binds .any e=true->e.on≠i)->o.apart ops oj=false->(qou ops i o k l).testBit (k+j)=true
 | [],_,_,_,h,_,_,_=>by simp at h
 | x::r,k,0,oj,h,hne,hno,hap=>by
  simp at h
  subst h
  unfold qou
  have h1:Nat.beq k i=false:=by
   cases hb:Nat.beq k i
   ·rfl
   ·exact absurd (Nat.eq_of_beq_eq_true hb) hne
  have h2:tb (q5P x.after.toList) i=false:=by
   rw[qtB]
   cases hb:(q5P x.after.toList).testBit i
   ·rfl
   ·obtain⟨e,he,hbb,heq⟩:=(QB _ _).1 hb
    exact absurd heq (hno e (by simpa using he) hbb)
  rw[h1,h2,hap]
  simp only[Bool.or_self]
  rw[ji,Qy];simp
 | x::r,k,j+1,oj,h,hne,hno,hap=>by
  have ih:=q0N i o r (k+1) j oj (by simpa using h) (by omega) hno hap
  rw[show k+1+j=k+(j+1)by omega]at ih
  unfold qou
  split
  ·exact ih
  ·rw[ji,ih];simp
theorem q2b:∀ (l:List Oper) (k j:Nat),(snL P k l).testBit j=true->k<=j/\∃ oj,l[j-k]?=some oj/\(ZD P oj.op||YM oj.op||q5W oj.op)=true
 | [],k,j,h=>by simp[snL]at h
 | x::r,k,j,h=>by
  unfold snL at h
  have key:(snL P (k+1) r).testBit j=true->k<=j/\∃ oj,(x::r)[j-k]?=some oj/\(ZD P oj.op||YM oj.op||q5W oj.op)=true:=fun h=>by
   obtain⟨h1,oj,h2,h3⟩:=q2b r (k+1) j h
   refine⟨by omega,oj,?_,h3⟩
   rw[show j-k=(j-(k+1))+1 by omega]
   simpa using h2
  split at h
  ·rename_i hs
   rw[ji,Bool.or_eq_true]at h
   rcases h with h | h
   ·rw[Qy]at h
    have:k=j:=by simpa using h
    subst this
    exact⟨Nat.le_refl _,x,by simp,hs⟩
   ·exact key h
  ·exact key h
theorem q89{m:Nat}{rs:List Nat}{i:Nat}(h:q7M P ops m rs=some i):i∈rs/\qjS P ops m i=true:=by
 unfold q7M at h
 split at h
 ·rename_i k hk
  simp at h;subst h
  have:=List.find?_some hk
  simp at this
  exact⟨List.mem_of_find?_eq_some hk,this.2⟩
 ·exact⟨List.mem_of_find?_eq_some h,List.find?_some h⟩
theorem qFC{K:ql->World->Prop}(hns:Region.noSelect ops=true)(hnd:qhM ops=true)(hQ:∀ c a w,¬ Q (.panic c) a w)(hK:∀ e a w,Ag e a->K e w->Q .normal a w) :
  ∀ (fuel:Nat) (m:Nat) (listed:Array Bool) (e:ql) (a:Act) (w:World),Rep ops m listed->Ag e a->qqx P r ops K fuel m e w->q57 r P ops Q fuel listed a w:=by
 have hsel:=Region.noSelect_spec hns
 have hdf:∀ (j:Nat) (o:Oper),ops[j]?=some o->Qc o:=fun j o ho c hc=>by
  have:=Array.all_eq_true_iff_forall_mem.1 hnd o (Array.mem_of_getElem? ho)
  rw[hc]at this
  cases this
 intro fuel
 induction fuel with
 | zero=>
  intro m listed e a w hrep hag h
  unfold qqx at h
  rw[<-hrep.ready]at h
  split at h
  ·rename_i hr;exact⟨hr,hK _ _ _ hag h⟩
  ·exact h.elim
 | succ f ih=>
  intro m listed e a w hrep hag h
  unfold qqx at h
  rw[<-hrep.ready]at h
  split at h
  ·rename_i hr;exact⟨fun _=>hK _ _ _ hag h,fun i hi=>by rw[hr]at hi;cases hi⟩
  ·rename_i i0 rs hr
   split at h
   ·rename_i i hc
    obtain⟨hmem,hpk⟩:=q89 hc
    unfold qkj at h
    split at h
    ·rename_i o ho
     have hilt:i<ops.size:=(Array.getElem?_eq_some_iff.1 ho).1
     unfold qjS at hpk
     rw[ho]at hpk
     simp only[Bool.and_eq_true,Bool.or_eq_true]at hpk
     obtain⟨hfree,hcls⟩:=hpk
     have hst:Qs P o=true:=by
      unfold Qs
      rcases hcls with h1 | h1
      ·simp[h1]
      ·simp[h1.1]
     obtain⟨v,e',hag',hk',hyx,hyt⟩:=qbB hst hag h
     have hH:=ih _ _ _ _ _ (hrep.set hilt) hag' hk'
     have hfr:∀ (j:Nat) (oj:Oper),ops[j]?=some oj->j≠i->listed.getD j true=false->(∀ e∈oj.after,Region.binds .any e=true->e.on≠i)->o.apart ops oj=true:=fun j oj hoj hji hun hno=>by
      cases hap:o.apart ops oj
      ·exfalso
       have hjlt:j<ops.size:=(Array.getElem?_eq_some_iff.1 hoj).1
       have h1:=q0N (ops:=ops) i o ops.toList 0 j oj (by simpa using hoj) (by simpa using hji) hno hap
       rw[hrep.getD_true hjlt]at hun
       have h2:=(q2O _ _).1 hfree j (by unfold qKI;rw[ho];simpa using h1)
       rw[hun]at h2;cases h2
      ·rfl
     rcases hcls with hp | ⟨hrd,hrs⟩
     ·exact q2x (fun _=>trivial) (fun _ _ _ _ _=>trivial) ho hst hsel hdf hQ (fun _=>True) (fun _ _ _ _ _=>trivial) f listed a w (fun j oj _ _ _ _=>.inr (qmG P oj))
       hfr (fun _ _=>trivial) (by rw[hr];exact hmem) (hyt hp) hH
     ·unfold rsM at hrs
      generalize hL:rsL ops i m=L at hrs
      rw[Bool.and_eq_true]at hrs
      obtain⟨hsn,hcl⟩:=hrs
      have hmL:∀ j,m.testBit j=true->L.testBit j=true:=fun j hj=>by
       rw[<-hL];unfold rsL;rw[ji,hj];rfl
      refine q2x zZ.refl zZ.trans ho hst hsel hdf hQ (fun j=>L.testBit j=true) (fun j oj hoj hji hall=>?_) f listed a w (fun j oj hoj hji hun hj=>?_)
       hfr (fun j hj=>?_) (by rw[hr];exact hmem) hyx hH
      ·have hjlt:j<ops.size:=(Array.getElem?_eq_some_iff.1 hoj).1
       have h1:=List.all_eq_true.1 hcl j (List.mem_range.2 hjlt)
       simp only[Bool.or_eq_true,Bool.not_eq_true',qtB]at h1
       rcases h1 with(h1 | h1) | h1
       ·exact absurd (Nat.eq_of_beq_eq_true h1) hji
       ·exact h1
       ·exfalso
        have h2:sub (qw9 ops j) L=true:=(q2O _ _).2 fun k hk=>by
         unfold qw9 at hk
         rw[hoj]at hk
         obtain⟨e,he,hb,rfl⟩:=(QB _ _).1 hk
         exact hall e (by simpa using he) hb
        rw[h2]at h1;cases h1
      ·have hjlt:j<ops.size:=(Array.getElem?_eq_some_iff.1 hoj).1
       rw[hrep.getD_true hjlt]at hun
       have h1:=(q2O _ _).1 hsn j (by rw[qbE,hj,hun];rfl)
       obtain⟨_,oj',h2,h3⟩:=q2b _ _ _ h1
       have:oj'=oj:=by
        have:ops[j]?=some oj':=by simpa using h2
        rw[hoj]at this;exact(Option.some.inj this).symm
       subst this
       simp only[Bool.or_eq_true]at h3
       rcases h3 with(h3 | h3) | h3
       ·exact .inl (by simp[Qs,h3])
       ·exact .inl (by simp[Qs,h3])
       ·exact .inr (qvH h3)
      ·rw[hrep.bit]at hj;exact hmL j hj
    ·exact h.elim
   ·refine⟨fun h0=>(by rw[hr]at h0;cases h0),fun i hi=>?_⟩
    rw[hr]at hi
    have h1:=q6C _ h i hi
    unfold qkj at h1
    split at h1
    ·rename_i o ho
     exact qzC ho hag h1 fun e' a' w' hag' h'=>ih _ _ _ _ _ (hrep.set (Array.getElem?_eq_some_iff.1 ho).1) hag' h'
    ·exact h1.elim
theorem qs8:Rep ops 0 (Array.replicate ops.size false):=by
 refine⟨by simp,fun j=>?_⟩
 simp only[Nat.zero_testBit]
 by_cases hj:j<ops.size<;>simp[Array.getD,hj]
end G
theorem qvp{K:Exit->ql->World->Prop}(c:List PanicEntry)(a:Act)(w:World):¬ QS K (.panic c) a w:=fun h=>h
theorem qfJ{r:Option Nat}{id:Nat}{ops:Array Oper}{draw:Bool}{e:ql}{a:Act}{w:World}{K:Exit->ql->World->Prop}(hag:Ag e a)
  (h:q9u P r ops draw e w (K .normal)):(Code.region id ops draw).wpIn (F r) 0 P (QS K) a w:=by
 unfold q9u at h
 split at h
 ·refine wpIn_region ?_
  have:=qk5 (r:=r) (Q:=QS K) (fun e a w hag hk=>⟨e,hag,hk⟩) ops.toList 0 e a w (fun j=>by simp) hag h
  rw[List.range_eq_range']
  simpa using this
 ·split at h
  ·rename_i hc
   simp only[Bool.and_eq_true]at hc
   refine wpIn_region_any hc.2 (q0u _ _ _ _ ?_)
   exact qFC hc.1.1 hc.1.2 qvp (fun e a w hag hk=>⟨e,hag,hk⟩) ops.size 0 (Array.replicate ops.size false) e a w.drew qs8 hag h
  ·exact h.elim
theorem jh{b:Frame}{a:Act}{k:List Item}{cs:List Frame}{w:World}{c:Code} :
  step P (lone (b.atR a (.code (.scope c)::k)) cs w)=.next (lone (b.atR a (.code c::.inScope c::k)) cs w):=
 step_lone_go (by simp[stepG,stepG.exec,Frame.atR])
theorem q5F{b:Frame}{a:Act}{k:List Item}{cs:List Frame}{w:World}{c:Code} :
  step P (lone (b.atR a (.inScope c::k)) cs w)=.next (lone (b.atR a k) cs w):=
 step_lone_go (by simp[stepG,stepG.exec,Frame.atR])
theorem qgL{Fe:Fence}{n:Nat}{Q:Exit->Act->World->Prop}{a:Act}{w:World}{c:Code}(hq:∀ l a w,¬ Q (.goto l) a w)(h:c.wpIn Fe n P Q a w):(Code.scope c).wpIn Fe n P Q a w:=by
 intro b k cs hro hb hr
 have h0:(lone (b.atR a (.code (.scope c)::k)) cs w).fenced P Fe:=fenced_calm hb hr rfl
 obtain⟨e,a₁,w₁,hq1,harr⟩:=h b (.inScope c::k) cs hro hb hr
 cases e with
 | normal=>exact⟨.normal,a₁,w₁,hq1,.head h0 jh (StepsIn.trans harr (.one (fenced_calm hb hr rfl) q5F))⟩
 | exit id=>
  have hx:exitTo id (.inScope c::k)=exitTo id k:=by simp[exitTo]
  exact⟨_,a₁,w₁,hq1,fun k' hk=>.head h0 jh (harr.1 k' (by rw[hx];exact hk)),
   fun hr' hk=>let ⟨k₁,h1,h2⟩:=harr.2 hr' (by rw[hx];exact hk);⟨k₁,h1,.head h0 jh h2⟩⟩
 | goto l=>exact(hq _ _ _ hq1).elim
 | ret=>exact⟨_,a₁,w₁,hq1,.of_steps (.one h0 jh) harr⟩
 | panic ch=>exact⟨_,a₁,w₁,hq1,.of_steps (.one h0 jh) harr⟩
 | outgrown=>exact⟨_,a₁,w₁,hq1,.of_steps (.one h0 jh) harr⟩
theorem q1d{p:Nat->Prop}(h:∃ n,p n):∃ n,p n/\∀ m,p m->n<=m:=by
 obtain⟨n,hn⟩:=h
 induction n using Nat.strongRecOn with
 | _ n ih=>
  by_cases hm:∃ m,m<n/\p m
  ·obtain⟨m,hlt,hp⟩:=hm;exact ih m hlt hp
  ·exact⟨n,hn,fun m hp=>Nat.le_of_not_lt fun hlt=>hm ⟨m,hlt,hp⟩⟩
open Classical in
def qi7 (p:Nat->Prop):Nat:=if h:∃ n,p n then(q1d h).choose else 0
theorem q4m{p:Nat->Prop}(h:∃ n,p n):p (qi7 p)/\∀ m,p m->qi7 p<=m:=by
 unfold qi7;rw[dif_pos h];exact(q1d h).choose_spec
theorem qCm{r:Option Nat}{c:Code}{Q:Exit->Act->World->Prop}{a:Act}{w:World}(J:Nat->Act->World->Prop)(h0:∃ n,J n a w)
  (round:∀ n a w,J n a w->c.wpIn (F r) 0 P (Exit.then (fun a' w'=>∃ m,m<n/\J m a' w') Q) a w):(Code.loop c).wpIn (F r) 0 P Q a w:=by
 refine wpIn_loop (fun a w=>∃ n,J n a w) (fun a w=>qi7 fun n=>J n a w) h0 fun a w hI=>?_
 have hf:=(q4m hI).1
 refine wpIn_mono (round _ a w hf) fun x a' w' hx=>?_
 cases x with
 | normal=>
  obtain⟨m,hm,hj⟩:=hx
  have hI':∃ n,J n a' w':=⟨m,hj⟩
  exact⟨hI',Nat.lt_of_le_of_lt ((q4m hI').2 m hj) hm⟩
 | exit id=>exact hx
 | goto l=>exact hx
 | ret=>exact hx
 | panic c=>exact hx
 | outgrown=>exact hx
theorem q0z:∀ (ps:List Nat) (vs:List Value) {e:ql} {a:Act},Ag e a->Ag (zT e ps vs) { a with tmps:=(ps.zip vs).foldl (fun t (x:Nat × Value)=>t.setIfInBounds x.1 x.2) a.tmps }
 | [],vs,e,a,h=>by simpa [zT]using h
 | p::ps,[],e,a,h=>by simpa [zT]using h
 | p::ps,v::vs,e,a,h=>by
  have h1:=h.put (some p) v
  have:=q0z ps vs h1
  simpa [zT,Act.put]using this
theorem ZN:∀ (c:Code) (r:Option Nat) (Lo X:List Nat) (K:Exit->ql->World->Prop) (e:ql) (a:Act) (w:World),Ag e a->CS P c r Lo X K e w->c.wpIn (F r) 0 P (QS K) a w
 | .skip,r,Lo,X,K,e,a,w,hag,h=>Go.wpIn_skip (by unfold CS CSg at h;exact⟨e,hag,h⟩)
 | .label _,r,Lo,X,K,e,a,w,hag,h=>wpIn_label (by unfold CS CSg at h;exact⟨e,hag,h⟩)
 | .exit _,r,Lo,X,K,e,a,w,hag,h=>wpIn_exit (by unfold CS CSg at h;exact⟨e,hag,h⟩)
 | .ret,r,Lo,X,K,e,a,w,hag,h=>wpIn_ret (by unfold CS CSg at h;exact⟨e,hag,h⟩)
 | .goto _,r,Lo,X,K,e,a,w,hag,h=>by unfold CS CSg at h;exact h.elim
 | .refuse _,r,Lo,X,K,e,a,w,hag,h=>by unfold CS CSg at h;exact h.elim
 | .region id ops draw,r,Lo,X,K,e,a,w,hag,h=>by unfold CS CSg at h;exact qfJ hag h
 | .seq x y,r,Lo,X,K,e,a,w,hag,h=>by
  unfold CS CSg at h
  refine wpIn_seq (wpIn_mono (ZN x r _ _ _ e a w hag h) fun z a' w' hz=>?_)
  cases z with
  | normal=>
   obtain⟨e',hag',hk⟩:=hz
   unfold qkC at hk
   dsimp only at hk
   cases hj:qc4 x
   ·rw[hj]at hk;exact ZN y r Lo X K _ a' w' hag' hk
   ·rw[hj]at hk;exact ZN y r Lo X K _ a' w' (hag'.restrict _) hk
  | ret=>exact hz
  | exit id=>exact hz
  | goto l=>exact hz.elim
  | panic c=>exact hz.elim
  | outgrown=>exact hz.elim
 | .cond c t f,r,Lo,X,K,e,a,w,hag,h=>by
  unfold CS CSg at h
  split at h
  ·rename_i s
   split at h
   ·rename_i b hb
    have hag':∀ b',b'=b->Ag (e.put (some s) (.bool b')) a:=fun b' hbb=>by
     subst hbb
     have h1:=hag.put (some s) (.bool b')
     have h2:=hag.get s _ hb
     refine⟨by have:=h1.size;simpa [Act.put]using this,fun u v hu=>?_,by have:=h1.def';simpa [Act.put]using this⟩
     have h3:=h1.get u v hu
     by_cases hst:s=u
     ·subst hst
      by_cases hlt:s<a.tmps.size
      ·simp[Act.put,hlt]at h3
       rw[<-h3];exact h2
      ·have:a.tmps.setIfInBounds s (.bool b')=a.tmps:=Array.setIfInBounds_eq_of_size_le (Nat.le_of_not_lt hlt)
       simp only[Act.put,this]at h3
       exact h3
     ·simp[Act.put,Array.getElem?_setIfInBounds_ne hst]at h3
      simpa using h3
    have hev:a.eval (.tmp s)=.bool b:=hag.get s _ hb
    cases b with
    | true=>exact wpIn_cond_true hev (ZN t r Lo X K _ a w (hag' _ rfl) h)
    | false=>exact wpIn_cond_false hev (ZN f r Lo X K _ a w (hag' _ rfl) h)
   ·exact h.elim
  ·rename_i b
   cases b with
   | true=>exact wpIn_cond_true rfl (ZN t r Lo X K _ a w hag h)
   | false=>exact wpIn_cond_false rfl (ZN f r Lo X K _ a w hag h)
  ·exact h.elim
 | .block id b,r,Lo,X,K,e,a,w,hag,h=>by
  unfold CS CSg at h
  refine wpIn_block (wpIn_mono (ZN b r _ _ _ e a w hag h) fun z a' w' hz=>?_)
  cases z with
  | normal=>exact hz
  | ret=>exact hz
  | exit i=>
   obtain⟨e',hag',hk⟩:=hz
   unfold qq at hk
   dsimp only at hk
   show if i=id then QS K .normal a' w' else QS K (.exit i) a' w'
   split at hk
   ·rename_i he;rw[if_pos (Nat.eq_of_beq_eq_true he)];exact⟨e',hag',hk⟩
   ·rename_i he;rw[if_neg (fun hh=>by subst hh;simp at he)];exact⟨e',hag',hk⟩
  | goto l=>exact hz.elim
  | panic c=>exact hz.elim
  | outgrown=>exact hz.elim
 | .scope b,r,Lo,X,K,e,a,w,hag,h=>by
  unfold CS CSg at h
  refine qgL (fun _ _ _ h=>h) (wpIn_mono (ZN b r _ _ _ e a w hag h) fun z a' w' hz=>?_)
  cases z with
  | normal=>exact hz
  | ret=>exact hz
  | exit i=>exact hz
  | goto l=>exact hz.elim
  | panic c=>exact hz.elim
  | outgrown=>exact hz.elim
 | .loop b,r,Lo,X,K,e,a,w,hag,h=>by
  unfold CS CSg at h
  obtain⟨I,h0,hround⟩:=h
  refine qCm (fun n a w=>∃ e,Ag e a/\I n e w) (h0.imp fun n hn=>⟨_,hag.restrict _,hn⟩) fun n a w ⟨e,hag,hI⟩=>?_
  refine wpIn_mono (ZN b r _ _ _ e a w hag (hround n e w hI)) fun z a' w' hz=>?_
  cases z with
  | normal=>
   obtain⟨e',hag',m,hm,hI'⟩:=hz
   exact⟨m,hm,_,hag'.restrict _,hI'⟩
  | ret=>exact hz
  | exit i=>exact hz
  | goto l=>exact hz.elim
  | panic c=>exact hz.elim
  | outgrown=>exact hz.elim
 | .rangeFunc f ps x b,r,Lo,X,K,e,a,w,hag,h=>by
  unfold CS CSg at h
  split at h
  ·exact h.elim
  replace h:=qp h
  obtain⟨vf,hvf,h⟩:=h
  have hev0:a.eval f=vf:=hag.eval hvf
  replace hag:=hag.restrict (yF (zQ x (zQ b [] []) []) (yF Lo X))
  generalize e.restrict (yF (zQ x (zQ b [] []) []) (yF Lo X))=e at hag h
  unfold Vw at h
  split at h
  ·rename_i g first cap
   obtain⟨hen,h⟩:=h
   refine wpIn_rangeFunc fun fn _=>?_
   obtain⟨R,hR⟩:∃ R:LoopState->Option Code->Loop,R=fun st pe=>{ state:=st,pending:=pe,fn,tmps:=a.tmps,params:=ps,assign:=x,body:=b,defers:=w.heap.size }:=⟨_,rfl⟩
   have hev:a.eval f=.func (.func g) first cap:=hev0
   refine⟨w.heap.size+1,[qzw w],(w.alloc (.deferred (some []))).alloc (.loop (R .ready none)),{ target:=.fn (.func g) cap,args:=first++#[.func (.yield (w.heap.size+1)) #[] #[]] },(w.alloc (.deferred (some []))).alloc (.loop (R .ready none)),g,
    first++#[.func (.yield (w.heap.size+1)) #[] #[]]++cap,(w.alloc (.deferred (some []))).alloc (.loop (R .ready none)),?_,?_,fun _ _=>trivial,?_,fun h=>by simp at h,?_⟩
   ·rw[hR];exact run_enterLoop_outer _ _ _ _ _
   ·simp only[resolve,hev]
    simp[Deferred.ofValue,Act.eval]
   ·exact Vq hen _ _
   ·refine q6A (Calls.mono (h R ?_) fun en W hW=>?_)
    ·intro args W post hround hl
     obtain⟨hlen,hround⟩:=hround
     have hy:=run_yield (P:=P) (args:=args.toArray) hl (by rw[hR];simpa using hlen)
     have ef:(R .ready none).fn=fn:=by rw[hR]
     have ex:(R .ready none).assign=x:=by rw[hR]
     have eb:(R .ready none).body=b:=by rw[hR]
     rw[ef,ex,eb]at hy
     refine⟨fn,_,x,b,hy,?_⟩
     refine roundIn_of_wpIn (F:=F none) trivial ?_
     have hag0:Ag { e with d:=[] } { tmps:=a.tmps,defers:=[] }:=⟨hag.size,hag.get,rfl⟩
     have hag1:=q0z ps.toList args hag0
     have e1:((R .ready none).params.zip args.toArray).foldl (fun tmps (t,v)=>tmps.setIfInBounds t v) (R .ready none).tmps =
       (ps.toList.zip args).foldl (fun t (x:Nat × Value)=>t.setIfInBounds x.1 x.2) a.tmps:=by
      rw[hR]
      rw[<-Array.foldl_toList]
      simp
     show x.wpIn (F (some (w.heap.size+1))) 0 P _ _ _
     have hpe:zT { e with d:=[] } ps.toList args={ zT e ps.toList args with d:=[] }:=by
      have:∀ (ps:List Nat) (vs:List Value) (e:ql),zT { e with d:=[] } ps vs={ zT e ps vs with d:=[] }:=by
       intro ps
       induction ps with
       | nil=>intro vs e;simp[zT]
       | cons p ps ih=>
        intro vs e
        cases vs with
        | nil=>simp[zT]
        | cons v vs=>
         simp only[zT]
         rw[<-ih]
         congr 1
         unfold ql.put
         dsimp only
         split<;>rfl
      exact this _ _ _
     rw[hpe]at hag1
     refine wpIn_mono (ZN x (some (w.heap.size+1)) _ _ _ _ _ W (by rw[e1];exact hag1) hround) fun z a' w' hz=>?_
     cases z with
     | normal=>
      obtain⟨e',hag',hl',hb⟩:=hz
      refine⟨_,run_beginRound hl' (by rw[hR]),?_⟩
      have e2:(w'.putObj (w.heap.size+1) (.loop { R .ready none with state:=.busy }))=w'.putObj (w.heap.size+1) (.loop (R .busy none)):=by rw[hR]
      rw[e2]
      refine wpIn_mono (ZN b (some (w.heap.size+1)) _ _ _ _ _ _ (hag'.restrict _) hb) fun z a2 w2 hz=>?_
      cases z with
      | normal=>
       obtain⟨e2,_,hl2,hp⟩:=hz
       refine⟨_,_,run_endRound none hl2,none,rfl,?_⟩
       have:({ R .busy none with state:=if(none:Option Code).isNone then .ready else .done,pending:=none }:Loop)=R .ready none:=by rw[hR];rfl
       rw[this];exact hp
      | ret=>
       obtain⟨e2,_,hl2,hp⟩:=hz
       refine⟨_,_,run_endRound (some .ret) hl2,some .ret,rfl,?_⟩
       have:({ R .busy none with state:=if(some Code.ret:Option Code).isNone then .ready else .done,pending:=some .ret }:Loop)=R .done (some .ret):=by rw[hR];rfl
       rw[this];exact hp
      | exit id=>
       obtain⟨e2,_,hl2,hp⟩:=hz
       refine⟨_,_,run_endRound (some (.exit id)) hl2,some (.exit id),rfl,?_⟩
       have:({ R .busy none with state:=if(some (Code.exit id):Option Code).isNone then .ready else .done,pending:=some (.exit id) }:Loop)=R .done (some (.exit id)):=by rw[hR];rfl
       rw[this];exact hp
      | goto l=>exact hz.elim
      | panic c=>exact hz.elim
      | outgrown=>exact hz.elim
     | ret=>obtain⟨_,_,hf⟩:=hz;exact hf.elim
     | exit id=>obtain⟨_,_,hf⟩:=hz;exact hf.elim
     | goto l=>exact hz.elim
     | panic c=>exact hz.elim
     | outgrown=>exact hz.elim
    ·cases en with
     | returned v=>
      obtain⟨st,pe,hl,hst,haf⟩:=hW
      refine⟨pe,W.putObj (w.heap.size+1) (.loop (R .exhausted pe)),?_,?_⟩
      ·have:=run_endLoop (P:=P) hl (by rw[hR];exact hst)
       rw[this,hR]
      ·have hagd:Ag { e with d:=qzw w::e.d } { a with defers:=[qzw w]++a.defers }:=⟨hag.size,hag.get,by simp[hag.def']⟩
       unfold qdy at haf
       cases pe with
       | none=>exact⟨_,hagd,haf⟩
       | some c=>
        cases c with
        | ret=>exact wpIn_ret ⟨_,hagd,haf⟩
        | exit id=>exact wpIn_exit ⟨_,hagd,haf⟩
        | _=>exact haf.elim
     | panicked c=>exact hW.elim
     | outgrown=>exact hW.elim
  ·exact h.elim
def qn9(P:Program)(e:ql)(w:World):List ResultVar->List Value->(Value->Prop)->Prop
 | [],acc,K=>K (match acc.reverse with
  | [v]=>v
  | vs=>.tuple vs.toArray)
 | .tmp t::r,acc,K=>qi (e.get? t) fun v=>qn9 P e w r (v::acc) K
 | .cell a t::r,acc,K=>qi (e.get? a) fun va=>match va with
  | .pointer (some ad)=>LdT P t ad w fun v=>qn9 P e w r (v::acc) K
  | _=>False
def jo(P:Program)(rs:List ResultVar)(e:ql)(K:Value->World->Prop):List Deferred->World->Prop
 | [],w=>qn9 P e w rs [] fun v=>K v w
 | d::ds,w=>match d.target with
  | .collected r=>w.heap[r]?=some (.deferred (some []))/\jo P rs e K ds (w.putObj r (.deferred none))
  | _=>False
abbrev qH(P:Program)(rs:List ResultVar)(K:Value->World->Prop):Exit->ql->World->Prop
 | .normal,e,w=>jo P rs e K e.d w
 | .ret,e,w=>jo P rs e K e.d w
 | _,_,_=>False
def q0H:Nat->List Value->List (Nat × Value)
 | _,[]=>[]
 | i,v::r=>(i,v)::q0H (i+1) r
def zh(n:Nat)(args:List Value):ql:={ n:=args.length+(n-args.length),l:=q0H 0 args,d:=[] }
def qbM:List ResultVar->List Nat
 | []=>[]
 | .tmp t::r=>t::qbM r
 | .cell a _::r=>a::qbM r
theorem q0P:∀ (l:List Value) (i t:Nat) (v:Value),ql.find (q0H i l) t=some v->i<=t/\l[t-i]?=some v
 | [],i,t,v,h=>by simp[q0H,ql.find]at h
 | x::r,i,t,v,h=>by
  unfold q0H at h
  rw[ql.find_cons]at h
  by_cases hit:i=t
  ·subst hit;simp at h;simp[h]
  ·simp only[hit,if_false]at h
   obtain⟨h1,h2⟩:=q0P r (i+1) t v h
   refine⟨by omega,?_⟩
   rw[show t-i=(t-(i+1))+1 by omega]
   simpa using h2
theorem qzB(n:Nat)(args:List Value):Ag (zh n args) { tmps:=args.toArray++Array.replicate (n-args.toArray.size) undef,defers:=[] }:=by
 refine⟨by simp[zh],fun t v h=>?_,rfl⟩
 obtain⟨_,h⟩:=q0P _ _ _ _ h
 simp only[Nat.sub_zero]at h
 have hlt:t<args.length:=(List.getElem?_eq_some_iff.1 h).1
 have hx:args[t]=v:=(List.getElem?_eq_some_iff.1 h).2
 have hs:t<(args.toArray++Array.replicate (n-args.toArray.size) undef).size:=by simp;omega
 simp only[Array.getD,hs,dite_true]
 rw[Array.getInternal_eq_getElem,Array.getElem_append_left (by simpa using hlt)]
 simpa using hx
theorem q4s{e:ql}{a:Act}(hag:Ag e a){w:World}(g:ResultVar->Sem Value)(g1:∀ t,g (.tmp t)=pure (a.tmps.getD t undef))
  (g2:∀ x t,g (.cell x t)=do loadVar t (<-asAddr (a.tmps.getD x undef))):∀ (rs:List ResultVar) (acc:List Value) {K:Value->Prop},qn9 P e w rs acc K->
  ∃ vs:List Value,(rs.mapM g).run P w=.ok vs w/\
   K (match acc.reverse++vs with
    | [v]=>v
    | vs=>.tuple vs.toArray)
 | [],acc,K,h=>⟨[],by simp,by unfold qn9 at h;simpa using h⟩
 | .tmp t::r,acc,K,h=>by
  obtain⟨v,hv,h⟩:=qp h
  obtain⟨vs,hr,hk⟩:=q4s hag g g1 g2 r (v::acc) h
  refine⟨v::vs,?_,by simpa using hk⟩
  rw[List.mapM_cons,g1]
  simp only[Sem.run_bind,Sem.run_pure,Result.andThen,hr,hag.get t v hv]
 | .cell x t::r,acc,K,h=>by
  obtain⟨va,hv,h⟩:=qp h
  split at h
  ·rename_i ad
   obtain⟨v,h,hl⟩:=qii h
   obtain⟨vs,hr,hk⟩:=q4s hag g g1 g2 r (v::acc) h
   refine⟨v::vs,?_,by simpa using hk⟩
   rw[List.mapM_cons,g2]
   simp only[Sem.run_bind,Sem.run_pure,Result.andThen,hag.get x _ hv,asAddr,hl w (zZ.refl w),hr]
  ·exact h.elim
theorem qay{fn:Func}{e:ql}{a:Act}(hag:Ag e a){w:World}{K:Value->Prop}(h:qn9 P e w fn.results.toList [] K) :
  ∃ v,(results fn a.tmps).run P w=.ok v w/\K v:=by
 obtain⟨vs,hr,hk⟩:=q4s hag (fun
  | .tmp t=>pure (a.tmps.getD t undef)
  | .cell x t=>do loadVar t (<-asAddr (a.tmps.getD x undef))) (fun _=>rfl) (fun _ _=>rfl) _ _ h
 refine⟨_,?_,hk⟩
 unfold results
 rw[Array.mapM_eq_mapM_toList]
 have hr':(fn.results.toList.mapM (m:=Sem) (results.match_1 (fun _=>Sem Value) · (fun t=>pure (a.tmps.getD t undef)) (fun x t=>do loadVar t (<-asAddr (a.tmps.getD x undef))))).run P w=.ok vs w:=hr
 simp only[Sem.run_bind,Sem.run_map]
 rw[hr']
 simp only[Result.andThen,Sem.run_pure,List.reverse_nil,List.nil_append]
 congr 1
 cases vs with
 | nil=>rfl
 | cons v r=>cases r with
  | nil=>rfl
  | cons u r=>simp
theorem q3Q{fn:Func}{e:ql}{a:Act}(hag:Ag e a){K:Value->World->Prop}:∀ (ds:List Deferred) (w:World),jo P fn.results.toList e K ds w->
  LeavesInM (F none) 0 P fn a.tmps (q5B K) ds .returning w
 | [],w,h=>by
  obtain⟨v,hr,hk⟩:=qay hag h
  exact⟨v,hr,hk⟩
 | d::ds,w,h=>by
  unfold jo at h
  split at h
  ·rename_i r hd
   exact⟨by simp,.inl ⟨r,_,hd,run_takeDeferred h.1,q3Q hag ds _ h.2⟩⟩
  ·exact h.elim
theorem qao{f:FuncId}{fn:Func}{c:Code}{args:List Value}{w:World}{K:Value->World->Prop}(hf:P.funcs[f]?=some fn)(hb:fn.body=some c)
  (h:CS P c none (qbM fn.results.toList) (qbM fn.results.toList) (qH P fn.results.toList K) (zh fn.ntmps args) w):q3B P f args.toArray w K:=by
 have:=callsIn_of_wp_marks (F:=F none) (n:=0) (R:=q5B K) hf hb trivial (w:=w) (args:=args.toArray) (wpIn_mono (ZN c none _ _ _ _ _ w (qzB fn.ntmps args) h) fun x a w hx=>?_)
 ·exact callsIn_wide.1 this
 ·cases x with
  | normal=>obtain⟨e,hag,hk⟩:=hx;show LeavesInM _ _ _ _ _ _ _ _ _;rw[hag.def'];exact q3Q hag _ _ hk
  | ret=>obtain⟨e,hag,hk⟩:=hx;show LeavesInM _ _ _ _ _ _ _ _ _;rw[hag.def'];exact q3Q hag _ _ hk
  | exit id=>obtain⟨e,hag,hk⟩:=hx;exact hk.elim
  | goto l=>exact hx.elim
  | panic c=>exact hx.elim
  | outgrown=>exact hx.elim
end Go.Fx
namespace Go.Fx
open Go
abbrev KT:=Value -> World -> Prop
abbrev YT:=ql -> World -> Prop
abbrev VI (x:Int):Value:=.int .i64 x
abbrev VS (a:Option Addr) (l c:Nat):Value:=.slice a l c
abbrev VB (b:Bool):Value:=.bool b
abbrev VP (p:Option Addr):Value:=.pointer p
def qDX:Nat -> Nat -> List Nat -> List Nat
  | 0,_,a => a
  | f+1,n,a => match Nat.ble n 1 with
    | true => a
    | false => qDX f (n/2) ((n%2)::a)
def cA (c:Code) (n:Nat):Code:=ZI c (qDX 64 n [])
theorem qLV {P:Program} {c a b:Code} {r:Option Nat} {Lo X L:List Nat} {K K2:Exit -> YT} {e:ql} {w:World} (h1:c=.seq a b) (h2:zQ b Lo X=L) (h3:qox P a b r Lo X K=K2):CS P c r Lo X K e w=CS P a r L X K2 e w:=by subst h1; subst h2; subst h3; rfl
theorem qMu {id:Nat} {P:Program} {c b:Code} {r:Option Nat} {Lo X X2:List Nat} {K K2:Exit -> YT} {e:ql} {w:World} (h1:c=.block id b) (h2:yF X Lo=X2) (h3:qq id K=K2):CS P c r Lo X K e w=CS P b r Lo X2 K2 e w:=by subst h1; subst h2; subst h3; rfl
theorem zN {P:Program} {c:Code} {n:Nat} {r:Option Nat} {Lo X:List Nat} (L:List Nat) {K:Exit -> YT} (K2:Exit -> YT) {e:ql} {w:World} (h:(cA c n,zQ (cA c (2*n+1)) Lo X,qox P (cA c (2*n)) (cA c (2*n+1)) r Lo X K)=(Code.seq (cA c (2*n)) (cA c (2*n+1)),L,K2)):CS P (cA c n) r Lo X K e w=CS P (cA c (2*n)) r L X K2 e w:=qLV (congrArg (·.1) h) (congrArg (·.2.1) h) (congrArg (·.2.2) h)
theorem YD (id:Nat) {P:Program} {c:Code} {n:Nat} {r:Option Nat} {Lo X:List Nat} (X2:List Nat) {K:Exit -> YT} (K2:Exit -> YT) {e:ql} {w:World} (h:(cA c n,yF X Lo,qq id K)=(Code.block id (cA c (2*n)),X2,K2)):CS P (cA c n) r Lo X K e w=CS P (cA c (2*n)) r Lo X2 K2 e w:=qMu (congrArg (·.1) h) (congrArg (·.2.1) h) (congrArg (·.2.2) h)
def SG0 (P:Program) (c:Code) (r:Option Nat) (L X:List Nat) (K:Exit -> YT) (E:ql) (w:World):Prop:=zJ (fun e w => CS P c r L X K e w) E w
theorem SGe {P:Program} {c:Code} {r:Option Nat} {L X:List Nat} {K:Exit -> YT} {E:ql} {w:World}:SG0 P c r L X K E w=CS P c r L X K E w:=rfl
abbrev OA:=Option Addr
abbrev qP:=List (Nat × Obj)
abbrev MN (P:Program) (a b:Int) (w:World) (F:Int -> World -> Prop):Prop:=∃ x:Int,∃ v:World,(Builtin.min_ #[3,3] 3 [(Value.int .i64 a),(Value.int .i64 b)].toArray).run P w=.ok (Value.int .i64 x) v/\F x v
abbrev MX (P:Program) (a b:Int) (w:World) (F:Int -> World -> Prop):Prop:=∃ x:Int,∃ v:World,(Builtin.max_ #[3,3] 3 [(Value.int .i64 a),(Value.int .i64 b)].toArray).run P w=.ok (Value.int .i64 x) v/\F x v
abbrev BV (P:Program) (T:TypeId) (a b:Int) (F:Array Value -> Prop):Prop:=∃ o:Array Value,(∀ wq,(Instr.build T [(0,(Value.int .i64 a)),(1,(Value.int .i64 b))].toArray).run P wq=.ok (Value.agg o) wq)/\F o
def qx (f:Func):Code:=match f.body with
  | some c => c
  | none => .skip
theorem qM4 {P:Program} {f:FuncId} {fn:Func} (c:Code) {args:List Value} {w:World} {K:KT} {X:Prop} (hf:P.funcs[f]?=some fn) (hb:fn.body=some c) (hx:X=CS P c none (qbM fn.results.toList) (qbM fn.results.toList) (qH P fn.results.toList K) (zh fn.ntmps args) w) (h:X):qa P f args w K:=qao hf hb (Eq.mp hx h)
end Go.Fx
namespace Go.Fx.Tryz
open Go
abbrev P:Program:=Go.Proofs.Tryz.prog
end Go.Fx.Tryz
section
open Go Go.Fx Go.Fx.Tryz
theorem kr.{u}{α:Sort u}{a b:α}(h:a=b:=by kernel_rfl):a=b:=h
theorem om{p:Prop}(h:p:=by omega):p:=h
abbrev VQ(a:Addr):Value:=.pointer (some a)
abbrev kq(c:Code)(i:Nat)(L X:List Nat)(K:Exit->YT):Exit->YT:=qox P (cA c (2*i)) (cA c (2*i+1)) none L X K
def SG(c:Code)(i:Nat)(L X:List Nat)(K:Exit->YT)(n:Nat)(E:List (Nat × Value))(w:World):Prop:=zJ (fun e w=>CS P (cA c i) none L X K e w) (ql.mk n E []) w
def SC(c:Code)(i:Nat)(L X:List Nat)(K:Exit->YT)(n:Nat)(E:List (Nat × Value))(w:World):Prop:=CS P (cA c i) none L X K (ql.mk n E []) w
theorem SCt{c:Code}{i n:Nat}{L X:List Nat}{K:Exit->YT}{E:List (Nat × Value)}{w:World}{Q:Prop}(h:CS P (cA c i) none L X K (ql.mk n E []) w=Q):SC c i L X K n E w=Q:=h
def SL(c:Code)(i:Nat)(L X:List Nat)(K:Exit->YT)(e:ql)(w:World):Prop:=zJ (fun e w=>CS P (cA c i) none L X K e w) e w
theorem qV{c:Code}{i n:Nat}{L X:List Nat}{K:Exit->YT}{E:List (Nat × Value)}{w:World}{Q:Prop}(h:CS P (cA c i) none L X K (ql.mk n E []) w=Q):SG c i L X K n E w=Q:=h
theorem qT{c:Code}{n:Nat}{r:Option Nat}{Lo X:List Nat}(L:List Nat){K:Exit->YT}(K2:Exit->YT){e:ql}{w:World}{Q:Prop}(q:CS P (cA c (2*n)) r L X K2 e w=Q)(h:(cA c n,zQ (cA c (2*n+1)) Lo X,qox P (cA c (2*n)) (cA c (2*n+1)) r Lo X K)=(Code.seq (cA c (2*n)) (cA c (2*n+1)),L,K2):=by kernel_rfl):CS P (cA c n) r Lo X K e w=Q:=(zN L K2 h).trans q
theorem QJ(id:Nat){c:Code}{n:Nat}{r:Option Nat}{Lo X:List Nat}(X2:List Nat){K:Exit->YT}(K2:Exit->YT){e:ql}{w:World}{Q:Prop}(q:CS P (cA c (2*n)) r Lo X2 K2 e w=Q)(h:(cA c n,yF X Lo,qq id K)=(Code.block id (cA c (2*n)),X2,K2):=by kernel_rfl):CS P (cA c n) r Lo X K e w=Q:=(YD id X2 K2 h).trans q
theorem zj{f:FuncId}{fn:Func}(c:Code){args:List Value}{w:World}{K:KT}{X:Prop}(hf:P.funcs[f]?=some fn)(h:X)(hb:fn.body=some c:=by kernel_rfl)(hx:X=CS P c none (qbM fn.results.toList) (qbM fn.results.toList) (qH P fn.results.toList K) (zh fn.ntmps args) w:=by kernel_rfl):qa P f args w K:=qM4 c hf hb hx h
theorem qMl{c b:Code}{r:Option Nat}{Lo X X2 H:List Nat}{K:Exit->YT}{e:ql}{w:World}(h:c=.loop b)(hx:yF X Lo=X2)(hl:zQ b [] X2=H):CS P c r Lo X K e w=za (fun Y e w=>zJ (fun e w=>CS P b r H X2 (qw H Y K) e w) e w) (e.restrict H) w:=by subst h;subst hx;subst hl;rfl
theorem CSv{c:Code}{n:Nat}{r:Option Nat}{Lo X:List Nat}(X2 H:List Nat){K:Exit->YT}{e:ql}{w:World}{Q:Prop}(q:za (fun Y e w=>zJ (fun e w=>CS P (cA c (2*n)) r H X2 (qw H Y K) e w) e w) (e.restrict H) w=Q:=by kernel_rfl)(h:(cA c n,yF X Lo,zQ (cA c (2*n)) [] X2)=(Code.loop (cA c (2*n)),X2,H):=by kernel_rfl):CS P (cA c n) r Lo X K e w=Q:=(qMl (congrArg (·.1) h) (congrArg (·.2.1) h) (congrArg (·.2.2) h)).trans q
end
namespace Go.Fx
open Go
theorem qL6{P:Program}{c a b:Code}{r:Option Nat}{Lo X L:List Nat}{K:Exit->YT}{e:ql}{w:World}(h:c=.seq a b)(hl:zQ b Lo X=L):CS P c r Lo X K e w=CS P a r L X (qox P a b r Lo X K) e w:=by subst h;subst hl;rfl
theorem qJI{P:Program}{c b:Code}{id:Nat}{r:Option Nat}{Lo X X':List Nat}{K:Exit->YT}{e:ql}{w:World}(h:c=.block id b)(hl:yF X Lo=X'):CS P c r Lo X K e w=CS P b r Lo X' (qq id K) e w:=by subst h;subst hl;rfl
theorem qY{P:Program}{c b:Code}{r:Option Nat}{Lo X X' H:List Nat}{K:Exit->YT}{e:ql}{w:World}(h:c=.loop b)(hx:yF X Lo=X')(hl:zQ b [] X'=H):CS P c r Lo X K e w=za (fun Y e w=>zJ (fun e w=>CS P b r H X' (qw H Y K) e w) e w) (e.restrict H) w:=by subst h;subst hx;subst hl;rfl
end Go.Fx
namespace Go.Fx.Tryz
set_option maxRecDepth 100000
open Go Go.Fx Go.Proofs
def c53:=qx Tryz.f53
def qL9:=Tryz.f53.results.toList
abbrev qdR K:=qH P qL9 K
def f53 a b c d w K:=CS P c53 none [4] [4] (qdR K) (zh 18 [(VS a b c),(Value.int .u32 d)]) w
abbrev qFA K:=kq c53 3 [4] [4] (qdR K)
abbrev qtg K:=qq 0 (qFA K)
def qBc K Y0 e w:=zJ (fun e w=>CS P (cA c53 52) none [5,1,0,4] [4] (qw [5,1,0,4] Y0 (qtg K)) e w) e w
abbrev q9x K Y0:=qw [5,1,0,4] Y0 (qtg K)
def qiB a b c d f g w K Y0:=SG c53 52 [5,1,0,4] [4] (q9x K Y0) 18 [(5,VI a),(1,Value.int .u32 b),(0,VS c d f),(4,VB g)] w
def qyN a b c d f g w K Y0:=SG c53 105 [5,1,0,4] [4] (q9x K Y0) 18 [(1,Value.int .u32 a),(0,VS b c d),(5,VI f),(4,VB g)] w
def qu9 a b c d f g w K Y0:=SG c53 211 [5,1,0,4] [4] (q9x K Y0) 18 [(1,Value.int .u32 a),(0,VS b c d),(4,VB f),(5,VI g)] w
theorem qmx:qu9 a b c d e f w K Y0=(Y0 (ql.mk 18 [(5,(Value.int .i64 (IntKind.wrap .i64 (f+1)))),(1,(Value.int .u32 a)),(0,(Value.slice b c d)),(4,(Value.bool e))] []) w):=kr
theorem qpZ:qyN b c d e a f w K Y0=(qi c (fun h=>0<=a/\a<(d:Nat)/\∃ g:Int,w.cell? (h.add (Int.toNat a*1))=some (.int .u32 g)/\qC (g==b) (K (Value.bool true) w) (qu9 b c d e f a w K Y0))):=kr
def quT w K:=SG c53 7 [4] [4] (qdR K) 18 [] w
theorem qny:quT w K=(K (Value.bool false) w):=kr
theorem qhw:qiB a e b c d f w K Y0=(∃ g:Int,(∀ wq,zZ w wq->(Builtin.len_ #[49] 3 #[(Value.slice b c d)]).run P wq=.ok (.int .i64 g) wq)/\qC (decide (a<g)) (qyN e b c d a f w K Y0) (quT w K)):=kr
theorem qFZ:f53 a b c d w K=(za (qBc K) (ql.mk 18 [(5,(Value.int .i64 0)),(1,(Value.int .u32 d)),(0,(Value.slice a b c)),(4,(Value.bool false))] []) w):=kr
theorem qGR a b c d w K(h:f53 a b c d w K):qa P 53 [(Value.slice a b c),(Value.int .u32 d)] w K:=zj c53 Tryz.func53 h
def Jc:=qx Tryz.f54
def qLd:=Tryz.f54.results.toList
abbrev vu K:=qH P qLd K
def f54 a b c d w K:=CS P Jc none [4] [4] (vu K) (zh 43 [(VS a b c),(Value.int .u32 d)]) w
def qs5 a b c d w K:=SC Jc 1 [4] [4] (vu K) 43 [(0,VS a b c),(1,Value.int .u32 d)] w
abbrev qJb K:=kq Jc 1 [4] [4] (vu K)
def qrV a b c d e f g w K:=SC Jc 3 [4] [4] (vu K) 43 [(4,VS a b c),(0,VS d e f),(1,Value.int .u32 g)] w
abbrev qJt K:=kq Jc 3 [4] [4] (vu K)
def qvh a b c d e f g h i j k l m w K:=SC Jc 7 [4] [4] (vu K) 43 [(5,VS a b c),(8,VS d e f),(4,VS g h i),(0,VS j k l),(1,Value.int .u32 m)] w
abbrev qGz K:=kq Jc 7 [4] [4] (vu K)
def qwP a b c d e f g h i j k l m w K:=SC Jc 15 [4] [4] (vu K) 43 [(6,VB false),(5,VS a b c),(8,VS d e f),(4,VS g h i),(0,VS j k l),(1,Value.int .u32 m)] w
abbrev q3w K:=kq Jc 15 [4] [4] (vu K)
abbrev qJ4 K:=kq Jc 30 [1,5,6] [4] (q3w K)
def qtC a b c d e f g h i j k l m n w K:=SC Jc 61 [1,5,6] [4] (q3w K) 43 [(7,VI a),(6,VB false),(5,VS b c d),(8,VS e f g),(4,VS h i j),(0,VS k l m),(1,Value.int .u32 n)] w
abbrev qes K:=qq 0 (q3w K)
def qBr K Y5 e w:=zJ (fun e w=>CS P (cA Jc 244) none [7,0,1,5,6,4] [4,1,5,6] (qw [7,0,1,5,6,4] Y5 (qes K)) e w) e w
abbrev q1h K Y5:=qw [7,0,1,5,6,4] Y5 (qes K)
def qhZ a b c d f g h i j k l m w K Y5:=SG Jc 244 [7,0,1,5,6,4] [4,1,5,6] (q1h K Y5) 43 [(7,VI a),(0,VS b c d),(1,Value.int .u32 f),(5,VS g h i),(6,VB j),(4,VS k l m)] w
abbrev qr5 K Y5:=kq Jc 244 [7,0,1,5,6,4] [4,1,5,6] (q1h K Y5)
abbrev qEp K Y5:=kq Jc 488 [0,1,4,7,5,6] [4,1,5,6] (qr5 K Y5)
def qy0 a b c d f g h i j k l m w K Y5:=SG Jc 489 [7,0,1,5,6,4] [4,1,5,6] (q1h K Y5) 43 [(0,VS a b c),(1,Value.int .u32 d),(4,VS f g h),(7,VI i),(5,VS j k l),(6,VB m)] w
abbrev qvO K Y5:=kq Jc 489 [7,0,1,5,6,4] [4,1,5,6] (q1h K Y5)
abbrev qfp K Y5:=qq 1 (qvO K Y5)
abbrev q9b K Y5:=kq Jc 1956 [0,1,5,6,4,7] [4,1,5,6,0,7] (qfp K Y5)
abbrev qB7 K Y5:=kq Jc 3912 [0,1,6,4,7,5] [4,1,5,6,0,7] (q9b K Y5)
def q7z a b c d f g h i j k l m n w K Y5:=SG Jc 7825 [0,1,6,4,7,5] [4,1,5,6,0,7] (q9b K Y5) 43 [(24,VB a),(0,VS b c d),(1,Value.int .u32 f),(4,VS g h i),(7,VI j),(5,VS k l m),(6,VB n)] w
def q8I a b c d f g h i j k l m w K Y5:=SG Jc 3913 [0,1,5,6,4,7] [4,1,5,6,0,7] (qfp K Y5) 43 [(0,VS a b c),(1,Value.int .u32 d),(6,VB f),(4,VS g h i),(7,VI j),(5,VS k l m)] w
def qwn a b c d f g h i j k l m w K Y5:=SG Jc 979 [7,0,1,5,6,4] [4,1,5,6] (q1h K Y5) 43 [(0,VS a b c),(1,Value.int .u32 d),(5,VS f g h),(6,VB i),(4,VS j k l),(7,VI m)] w
theorem qpM:qwn a c d e f g h i j k l m w K Y5=(Y5 (ql.mk 43 [(7,(Value.int .i64 (IntKind.wrap .i64 (m+1)))),(0,(Value.slice a c d)),(1,(Value.int .u32 e)),(5,(Value.slice f g h)),(6,(Value.bool i)),(4,(Value.slice j k l))] []) w):=qV kr
theorem qmw:q8I c d e f g h i j a k l m w K Y5=(qi c (fun s=>0<=a/\a<(d:Nat)/\∃ n:Int,w.cell? (s.add (Int.toNat a*1))=some (.int .u32 n)/\qJ 1 [(Value.int .u32 n)]/\qt (([(Value.int .u32 n)].map fun(v:Value)=>v.cells.toList).flatten.toArray) 43 w (fun t u=>∃ (o:OA) (p q:Nat),∃ r:World,(Builtin.append_ #[49,49] 49 #[(Value.slice k l m),(Value.slice (some (Addr.mk t 0 none)) 1 1)]).run P u=.ok (.slice o p q) r/\qwn c d e f o p q g h i j a r K Y5))):=qV kr
theorem q65:q7z m c d e a f g h i j k l n w K Y5=(qC m (qJ 1 [(Value.int .u32 a)]/\qt (([(Value.int .u32 a)].map fun(v:Value)=>v.cells.toList).flatten.toArray) 43 w (fun s t=>∃ (o:OA) (p q:Nat),∃ r:World,(Builtin.append_ #[49,49] 49 #[(Value.slice j k l),(Value.slice (some (Addr.mk s 0 none)) 1 1)]).run P t=.ok (.slice o p q) r/\q8I c d e a true f g h i o p q r K Y5)) (q8I c d e a n f g h i j k l w K Y5)):=qV kr
theorem qmB:qy0 d e h f i j k c l m n g w K Y5=(qC (!g) (qi d (fun p=>0<=c/\c<(e:Nat)/\∃ o:Int,w.cell? (p.add (Int.toNat c*1))=some (.int .u32 o)/\q7z (decide (o > f)) d e h f i j k c l m n g w K Y5)) (q7z false d e h f i j k c l m n g w K Y5)):=qV (qT [0,1,5,6,4,7] (qvO K Y5) (QJ 1 [4,1,5,6,0,7] (qfp K Y5) (qT [0,1,6,4,7,5] (q9b K Y5) (qT [24,0,1,4,7,5,6] (qB7 K Y5) kr))))
def qhP a b c d f w K:=SG Jc 31 [4] [4] (vu K) 43 [(1,Value.int .u32 a),(5,VS b c d),(6,VB f)] w
abbrev qj4 K:=kq Jc 31 [4] [4] (vu K)
abbrev qzt K:=kq Jc 62 [5] [4] (qj4 K)
def q7C a b c w K:=SG Jc 63 [4] [4] (vu K) 43 [(5,VS a b c)] w
abbrev qD1 K:=kq Jc 63 [4] [4] (vu K)
theorem q4y:q7C c d e w K=(K (Value.slice c d e) w):=qV (qT [4] (qD1 K) kr)
theorem qgf:qhP c d e f g w K=(qC (!g) (qJ 1 [(Value.int .u32 c)]/\qt (([(Value.int .u32 c)].map fun(v:Value)=>v.cells.toList).flatten.toArray) 43 w (fun l m=>∃ (h:OA) (i j:Nat),∃ k:World,(Builtin.append_ #[49,49] 49 #[(Value.slice d e f),(Value.slice (some (Addr.mk l 0 none)) 1 1)]).run P m=.ok (.slice h i j) k/\q7C h i j k K)) (q7C d e f w K)):=qV (qT [5] (qj4 K) (qT [37,1,5] (qzt K) kr))
theorem qdi:qhZ c d e f g h i j k l m n w K Y5=(∃ o:Int,(∀ wq,zZ w wq->(Builtin.len_ #[49] 3 #[(Value.slice d e f)]).run P wq=.ok (.int .i64 o) wq)/\qC (decide (c<o)) (qy0 d e f g l m n c h i j k w K Y5) (qhP g h i j k w K)):=qV (qT [0,1,4,7,5,6] (qr5 K Y5) (qT [12,0,1,4,7,5,6] (qEp K Y5) kr))
theorem qn4:qtC a c d e m n o f g h i j k l w K=(za (qBr K) (ql.mk 43 [(7,(Value.int .i64 a)),(0,(Value.slice i j k)),(1,(Value.int .u32 l)),(5,(Value.slice c d e)),(6,(Value.bool false)),(4,(Value.slice f g h))] []) w):=Eq.trans (b:=CS P (cA Jc 61) none [1,5,6] [4] (q3w K) (ql.mk 43 [(7,(VI a)),(6,(VB false)),(5,(VS c d e)),(8,(VS m n o)),(4,(VS f g h)),(0,(VS i j k)),(1,(Value.int .u32 l))] []) w) kr (Eq.trans (YD 0 [4,1,5,6] (qes K) kr) ((qY (b:=(cA Jc 244)) (X':=[4,1,5,6]) (H:=[7,0,1,5,6,4]) kr kr kr).trans kr))
theorem qnA:qwP c d e f g h i j k l m n o w K=(qtC 0 c d e f g h i j k l m n o w K):=Eq.trans (b:=CS P (cA Jc 15) none [4] [4] (vu K) (ql.mk 43 [(6,(VB false)),(5,(VS c d e)),(8,(VS f g h)),(4,(VS i j k)),(0,(VS l m n)),(1,(Value.int .u32 o))] []) w) kr (Eq.trans (zN [1,5,6] (q3w K) kr) (Eq.trans (zN [7,0,1,5,6,4] (qJ4 K) kr) kr))
theorem qnP:qvh c d e f g h i j k l m n o w K=(qwP c d e f g h i j k l m n o w K):=Eq.trans (b:=CS P (cA Jc 7) none [4] [4] (vu K) (ql.mk 43 [(5,(VS c d e)),(8,(VS f g h)),(4,(VS i j k)),(0,(VS l m n)),(1,(Value.int .u32 o))] []) w) kr (Eq.trans (zN [0,1,5,6,4] (qGz K) kr) kr)
theorem qpj:qrV c d e f g h i w K=(∃ (j:OA) (k l:Nat),∃ m:World,(Instr.buildSlice 49 0 ([]:List (Nat × Value)).toArray).run P w=.ok (.slice j k l) m/\qvh j k l j k l c d e f g h i m K):=Eq.trans (b:=CS P (cA Jc 3) none [4] [4] (vu K) (ql.mk 43 [(4,(VS c d e)),(0,(VS f g h)),(1,(Value.int .u32 i))] []) w) kr (Eq.trans (zN [0,1,5,4] (qJt K) kr) kr)
theorem qqa:qs5 c d e f w K=(qrV none 0 0 c d e f w K):=Eq.trans (b:=CS P (cA Jc 1) none [4] [4] (vu K) (ql.mk 43 [(0,(VS c d e)),(1,(Value.int .u32 f))] []) w) kr (Eq.trans (zN [0,1,4] (qJb K) kr) kr)
theorem qHO:f54 a b c d w K=(qs5 a b c d w K):=kr
theorem qIS a b c d w K(h:f54 a b c d w K):qa P 54 [(Value.slice a b c),(Value.int .u32 d)] w K:=zj Jc Tryz.func54 h
def c55:=qx Tryz.f55
def qLW:=Tryz.f55.results.toList
abbrev qgG K:=qH P qLW K
def f55 a b c d w K:=CS P c55 none [4] [4] (qgG K) (zh 19 [(VS a b c),(VI d)]) w
abbrev qFW K:=kq c55 3 [4] [4] (qgG K)
abbrev quN K:=qq 0 (qFW K)
def qAd K Y0 e w:=zJ (fun e w=>CS P (cA c55 52) none [5,1,0,4] [4] (qw [5,1,0,4] Y0 (quN K)) e w) e w
abbrev q8o K Y0:=qw [5,1,0,4] Y0 (quN K)
def qlj a b c d f g w K Y0:=SG c55 52 [5,1,0,4] [4] (q8o K Y0) 19 [(5,VI a),(1,VI b),(0,VS c d f),(4,VB g)] w
def qqU a b c d f g w K Y0:=SG c55 105 [5,1,0,4] [4] (q8o K Y0) 19 [(1,VI a),(0,VS b c d),(5,VI f),(4,VB g)] w
def qz4 a b c d f g w K Y0:=SG c55 211 [5,1,0,4] [4] (q8o K Y0) 19 [(1,VI a),(0,VS b c d),(4,VB f),(5,VI g)] w
theorem qow:qz4 a b c d e f w K Y0=(Y0 (ql.mk 19 [(5,(Value.int .i64 (IntKind.wrap .i64 (f+1)))),(1,(Value.int .i64 a)),(0,(Value.slice b c d)),(4,(Value.bool e))] []) w):=kr
theorem qpo:qqU b c d e a f w K Y0=(qi c (fun h=>0<=a/\a<(d:Nat)/\∃ g:Int,w.cell? ((h.add (Int.toNat a*4)).add 1)=some (.int .i64 g)/\qC (g==b) (K (Value.bool true) w) (qz4 b c d e f a w K Y0))):=kr
def qyo w K:=SG c55 7 [4] [4] (qgG K) 19 [] w
theorem qpD:qyo w K=(K (Value.bool false) w):=kr
theorem qgl:qlj a e b c d f w K Y0=(∃ g:Int,(∀ wq,zZ w wq->(Builtin.len_ #[60] 3 #[(Value.slice b c d)]).run P wq=.ok (.int .i64 g) wq)/\qC (decide (a<g)) (qqU e b c d a f w K Y0) (qyo w K)):=kr
theorem qIs:f55 a b c d w K=(za (qAd K) (ql.mk 19 [(5,(Value.int .i64 0)),(1,(Value.int .i64 d)),(0,(Value.slice a b c)),(4,(Value.bool false))] []) w):=kr
theorem qHz a b c d w K(h:f55 a b c d w K):qa P 55 [(Value.slice a b c),(Value.int .i64 d)] w K:=zj c55 Tryz.func55 h
def c56:=qx Tryz.f56
def qLw:=Tryz.f56.results.toList
abbrev Yu K:=qH P qLw K
def f56 a b c d w K:=CS P c56 none [4] [4] (Yu K) (zh 35 [(VS a b c),(VI d)]) w
def qr2 a b c d w K:=SC c56 1 [4] [4] (Yu K) 35 [(0,VS a b c),(1,VI d)] w
abbrev qIf K:=kq c56 1 [4] [4] (Yu K)
def qwF a b c d w K:=SC c56 3 [4] [4] (Yu K) 35 [(4,VB false),(0,VS a b c),(1,VI d)] w
abbrev q4r K:=kq c56 3 [4] [4] (Yu K)
abbrev qHL K:=kq c56 6 [] [4] (q4r K)
def qvL a b c d e w K:=SC c56 13 [] [4] (q4r K) 35 [(5,VI a),(4,VB false),(0,VS b c d),(1,VI e)] w
abbrev qgu K:=qq 0 (q4r K)
def qDx K Y3 e w:=zJ (fun e w=>CS P (cA c56 52) none [5,0,1,4] [4] (qw [5,0,1,4] Y3 (qgu K)) e w) e w
abbrev q1c K Y3:=qw [5,0,1,4] Y3 (qgu K)
def qkP a b c d f g w K Y3:=SG c56 52 [5,0,1,4] [4] (q1c K Y3) 35 [(5,VI a),(0,VS b c d),(1,VI f),(4,VB g)] w
abbrev qtX K Y3:=kq c56 52 [5,0,1,4] [4] (q1c K Y3)
abbrev qIA K Y3:=kq c56 104 [0,1,5,4] [4] (qtX K Y3)
def qxy a b c d f g w K Y3:=SG c56 105 [5,0,1,4] [4] (q1c K Y3) 35 [(0,VS a b c),(1,VI d),(5,VI f),(4,VB g)] w
abbrev qyE K Y3:=kq c56 105 [5,0,1,4] [4] (q1c K Y3)
abbrev qfC K Y3:=qq 1 (qyE K Y3)
abbrev qFl K Y3:=kq c56 420 [0,1,4,5] [4,0,1,5] (qfC K Y3)
def q46 a b c d f g h w K Y3:=SG c56 841 [0,1,4,5] [4,0,1,5] (qfC K Y3) 35 [(34,VB a),(0,VS b c d),(1,VI f),(5,VI g),(4,VB h)] w
def qyc a b c d f g w K Y3:=SG c56 211 [5,0,1,4] [4] (q1c K Y3) 35 [(0,VS a b c),(1,VI d),(4,VB f),(5,VI g)] w
theorem qnv:qyc a c d e f g w K Y3=(Y3 (ql.mk 35 [(5,(Value.int .i64 (IntKind.wrap .i64 (g+1)))),(0,(Value.slice a c d)),(1,(Value.int .i64 e)),(4,(Value.bool f))] []) w):=qV kr
theorem qod:q46 a c d e f g h w K Y3=(qC a (K (Value.bool true) w) (qyc c d e f h g w K Y3)):=qV kr
theorem qmR:qxy d e g f c h w K Y3=(qi d (fun l=>0<=c/\c<(e:Nat)/\∃ i:Int,w.cell? ((l.add (Int.toNat c*4)).add 3)=some (.int .i64 i)/\qC (i==f) (qi d (fun m=>0<=c/\c<(e:Nat)/\∃ j:Int,w.cell? (m.add (Int.toNat c*4))=some (.int .i64 j)/\qC (j==2) (q46 true d e g f c h w K Y3) (qi d (fun n=>0<=c/\c<(e:Nat)/\∃ k:Int,w.cell? (n.add (Int.toNat c*4))=some (.int .i64 k)/\q46 (k==4) d e g f c h w K Y3)))) (q46 false d e g f c h w K Y3))):=qV (qT [0,1,4,5] (qyE K Y3) (QJ 1 [4,0,1,5] (qfC K Y3) (qT [34,0,1,5,4] (qFl K Y3) kr)))
def qtD w K:=SG c56 7 [4] [4] (Yu K) 35 [] w
abbrev qB9 K:=kq c56 7 [4] [4] (Yu K)
theorem qn1:qtD w K=(K (Value.bool false) w):=qV (qT [4] (qB9 K) kr)
theorem qeE:qkP c d e f g h w K Y3=(∃ i:Int,(∀ wq,zZ w wq->(Builtin.len_ #[60] 3 #[(Value.slice d e f)]).run P wq=.ok (.int .i64 i) wq)/\qC (decide (c<i)) (qxy d e f g c h w K Y3) (qtD w K)):=qV (qT [0,1,5,4] (qtX K Y3) (qT [9,0,1,5,4] (qIA K Y3) kr))
theorem qnN:qvL a c d e f w K=(za (qDx K) (ql.mk 35 [(5,(Value.int .i64 a)),(0,(Value.slice c d e)),(1,(Value.int .i64 f)),(4,(Value.bool false))] []) w):=Eq.trans (b:=CS P (cA c56 13) none [] [4] (q4r K) (ql.mk 35 [(5,(VI a)),(4,(VB false)),(0,(VS c d e)),(1,(VI f))] []) w) kr (Eq.trans (YD 0 [4] (qgu K) kr) ((qY (b:=(cA c56 52)) (X':=[4]) (H:=[5,0,1,4]) kr kr kr).trans kr))
theorem qmE:qwF c d e f w K=(qvL 0 c d e f w K):=Eq.trans (b:=CS P (cA c56 3) none [4] [4] (Yu K) (ql.mk 35 [(4,(VB false)),(0,(VS c d e)),(1,(VI f))] []) w) kr (Eq.trans (zN [] (q4r K) kr) (Eq.trans (zN [5,0,1,4] (qHL K) kr) kr))
theorem qnY:qr2 c d e f w K=(qwF c d e f w K):=Eq.trans (b:=CS P (cA c56 1) none [4] [4] (Yu K) (ql.mk 35 [(0,(VS c d e)),(1,(VI f))] []) w) kr (Eq.trans (zN [0,1,4] (qIf K) kr) kr)
theorem qFn:f56 a b c d w K=(qr2 a b c d w K):=kr
theorem qFs a b c d w K(h:f56 a b c d w K):qa P 56 [(Value.slice a b c),(Value.int .i64 d)] w K:=zj c56 Tryz.func56 h
def ZC:=qx Tryz.f13
def qM7:=Tryz.f13.results.toList
abbrev vz K:=qH P qM7 K
def f13 a w K:=CS P ZC none [2,3] [2,3] (vz K) (zh 52 [(Value.agg a)]) w
def qsf a w K:=SC ZC 1 [2,3] [2,3] (vz K) 52 [(0,Value.agg a)] w
abbrev qI4 K:=kq ZC 1 [2,3] [2,3] (vz K)
def qrE a b c d w K:=SC ZC 3 [2,3] [2,3] (vz K) 52 [(3,VI a),(2,VI b),(1,VQ c),(0,Value.agg d)] w
abbrev qG5 K:=kq ZC 3 [2,3] [2,3] (vz K)
def qxS a b c d e f g h i j w K:=SC ZC 7 [2,3] [2,3] (vz K) 52 [(4,VQ a),(10,Value.agg b),(9,VS c d e),(8,VQ f),(3,VI g),(2,VI h),(1,VQ i),(0,Value.agg j)] w
abbrev qHe K:=kq ZC 7 [2,3] [2,3] (vz K)
def qwm a b c d e f g h i j k w K:=SC ZC 15 [2,3] [2,3] (vz K) 52 [(5,VI a),(4,VQ b),(10,Value.agg c),(9,VS d e f),(8,VQ g),(3,VI h),(2,VI i),(1,VQ j),(0,Value.agg k)] w
abbrev q4I K:=kq ZC 15 [2,3] [2,3] (vz K)
abbrev qIE K:=kq ZC 30 [5,4,2,3,1] [2,3] (q4I K)
def qsP a b c d e f g h i j k l w K:=SC ZC 61 [5,4,2,3,1] [2,3] (q4I K) 52 [(6,VI a),(5,VI b),(4,VQ c),(10,Value.agg d),(9,VS e f g),(8,VQ h),(3,VI i),(2,VI j),(1,VQ k),(0,Value.agg l)] w
abbrev qfq K:=qq 0 (q4I K)
def qB8 K Y5 e w:=zJ (fun e w=>CS P (cA ZC 244) none [6,5,4,2,3,1] [2,3,5,4,1] (qw [6,5,4,2,3,1] Y5 (qfq K)) e w) e w
abbrev q1g K Y5:=qw [6,5,4,2,3,1] Y5 (qfq K)
def ql1 a b c d f g w K Y5:=SG ZC 244 [6,5,4,2,3,1] [2,3,5,4,1] (q1g K Y5) 52 [(6,VI a),(5,VI b),(4,VQ c),(2,VI d),(3,VI f),(1,VQ g)] w
abbrev qwu K Y5:=kq ZC 244 [6,5,4,2,3,1] [2,3,5,4,1] (q1g K Y5)
abbrev qI2 K Y5:=kq ZC 488 [4,2,3,1,6,5] [2,3,5,4,1] (qwu K Y5)
def qvP a b c d f g w K Y5:=SG ZC 489 [6,5,4,2,3,1] [2,3,5,4,1] (q1g K Y5) 52 [(4,VQ a),(2,VI b),(3,VI c),(1,VQ d),(6,VI f),(5,VI g)] w
abbrev qtG K Y5:=kq ZC 489 [6,5,4,2,3,1] [2,3,5,4,1] (q1g K Y5)
abbrev qhE K Y5:=qq 1 (qtG K Y5)
abbrev qzi K Y5:=kq ZC 1956 [5,4,2,3,1,6] [2,3,5,4,1,6] (qhE K Y5)
def q0d a b c d f g h w K Y5:=SG ZC 3913 [5,4,2,3,1,6] [2,3,5,4,1,6] (qhE K Y5) 52 [(31,VB a),(4,VQ b),(2,VI c),(3,VI d),(1,VQ f),(6,VI g),(5,VI h)] w
def qeJ a b c d f g w K Y5:=SG ZC 979 [6,5,4,2,3,1] [2,3,5,4,1] (q1g K Y5) 52 [(5,VI a),(4,VQ b),(2,VI c),(3,VI d),(1,VQ f),(6,VI g)] w
theorem q6c:qeJ a c d e f g w K Y5=(Y5 (ql.mk 52 [(6,(Value.int .i64 (IntKind.wrap .i64 (g+1)))),(5,(Value.int .i64 a)),(4,(Value.pointer (some c))),(2,(Value.int .i64 d)),(3,(Value.int .i64 e)),(1,(Value.pointer (some f)))] []) w):=qV kr
theorem qpY:q0d h a c d e f g w K Y5=(qC h (qeJ (IntKind.wrap .i64 (g+1)) a c d e f w K Y5) (qeJ g a c d e f w K Y5)):=qV kr
theorem qmA:qvP d e f g c h w K Y5=(qC (decide (c > 0)) (0<=c/\c<(8:Nat)/\∃ i:Bool,w.cell? ((d.add 3).add (Int.toNat c*1))=some (.bool i)/\qC i (q0d true d e f g c h w K Y5) (qC (c==0) (∃ (j:OA) (k l:Nat),w.cell? d=some (.slice j k l)/\qa P 55 [(Value.slice j k l),(Value.int .i64 0)] w (fun r s=>∃ m:Bool,r=(.bool m)/\q0d m d e f g c h s K Y5)) (q0d false d e f g c h w K Y5))) (qC (c==0) (∃ (n:OA) (o p:Nat),w.cell? d=some (.slice n o p)/\qa P 55 [(Value.slice n o p),(Value.int .i64 0)] w (fun t u=>∃ q:Bool,t=(.bool q)/\q0d q d e f g c h u K Y5)) (q0d false d e f g c h w K Y5))):=qV (qT [5,4,2,3,1,6] (qtG K Y5) (QJ 1 [2,3,5,4,1,6] (qhE K Y5) (qT [31,4,2,3,1,6,5] (qzi K Y5) kr)))
def qwL a b c d f w K:=SG ZC 31 [2,3] [2,3] (vz K) 52 [(5,VI a),(4,VQ b),(2,VI c),(3,VI d),(1,VQ f)] w
abbrev q0C K:=kq ZC 31 [2,3] [2,3] (vz K)
abbrev qCx K:=kq ZC 62 [5,1] [2,3] (q0C K)
def qkf a b c d e f w K:=SC ZC 125 [5,1] [2,3] (q0C K) 52 [(7,VI a),(5,VI b),(4,VQ c),(2,VI d),(3,VI e),(1,VQ f)] w
abbrev q8z K:=qq 2 (q0C K)
def qsu K Y11 e w:=zJ (fun e w=>CS P (cA ZC 500) none [7,5,4,2,3,1] [2,3,5,1] (qw [7,5,4,2,3,1] Y11 (q8z K)) e w) e w
abbrev VR K Y11:=qw [7,5,4,2,3,1] Y11 (q8z K)
def qce a b c d f g w K Y11:=SG ZC 500 [7,5,4,2,3,1] [2,3,5,1] (VR K Y11) 52 [(7,VI a),(5,VI b),(4,VQ c),(2,VI d),(3,VI f),(1,VQ g)] w
abbrev qlr K Y11:=kq ZC 500 [7,5,4,2,3,1] [2,3,5,1] (VR K Y11)
abbrev qzO K Y11:=kq ZC 1000 [4,2,3,1,7,5] [2,3,5,1] (qlr K Y11)
def qiV a b c d f g w K Y11:=SG ZC 1001 [7,5,4,2,3,1] [2,3,5,1] (VR K Y11) 52 [(4,VQ a),(2,VI b),(3,VI c),(1,VQ d),(7,VI f),(5,VI g)] w
abbrev qkK K Y11:=kq ZC 1001 [7,5,4,2,3,1] [2,3,5,1] (VR K Y11)
abbrev qjE K Y11:=qq 3 (qkK K Y11)
abbrev qBB K Y11:=kq ZC 4004 [5,4,2,3,1,7] [2,3,5,1,4,7] (qjE K Y11)
def q95 a b c d f g w K Y11:=SG ZC 2003 [7,5,4,2,3,1] [2,3,5,1] (VR K Y11) 52 [(5,VI a),(4,VQ b),(2,VI c),(3,VI d),(1,VQ f),(7,VI g)] w
theorem q5A:q95 a c d e f g w K Y11=(Y11 (ql.mk 52 [(7,(Value.int .i64 (IntKind.wrap .i64 (g+1)))),(5,(Value.int .i64 a)),(4,(Value.pointer (some c))),(2,(Value.int .i64 d)),(3,(Value.int .i64 e)),(1,(Value.pointer (some f)))] []) w):=qV kr
theorem qgm:qiV c e f g d h w K Y11=(∃ (i:OA) (j k:Nat),w.cell? c=some (.slice i j k)/\qa P 56 [(Value.slice i j k),(Value.int .i64 d)] w (fun n l=>∃ m:Bool,n=(.bool m)/\qC m (q95 (IntKind.wrap .i64 (h+1)) c e f g d l K Y11) (q95 h c e f g d l K Y11))):=qV (qT [5,4,2,3,1,7] (qkK K Y11) (QJ 3 [2,3,5,1,4,7] (qjE K Y11) (qT [44,4,2,3,1,7,5] (qBB K Y11) kr)))
def qk1 a b w K:=SG ZC 63 [2,3] [2,3] (vz K) 52 [(5,VI a),(1,VQ b)] w
abbrev qA8 K:=kq ZC 63 [2,3] [2,3] (vz K)
theorem qeS:qk1 c d w K=(∃ (e:OA) (f g:Nat),w.cell? d=some (.slice e f g)/\qa P 49 [(Value.slice e f g)] w (fun l m=>∃ (h:OA) (i j:Nat),l=(.slice h i j)/\qa P 48 [(Value.slice h i j)] m (fun n o=>∃ k:Int,n=(.int .i64 k)/\K (Value.tuple #[(Value.int .i64 k),(Value.int .i64 c)]) o))):=qV (qT [2,3] (qA8 K) kr)
theorem qbt:qce c d e g h f w K Y11=(∃ (i:OA) (j k:Nat),w.cell? (e.add 2)=some (.slice i j k)/\∃ l:Int,(∀ wq,zZ w wq->(Builtin.len_ #[62] 3 #[(Value.slice i j k)]).run P wq=.ok (.int .i64 l) wq)/\qC (decide (c<l)) (qiV e g h f c d w K Y11) (qk1 d f w K)):=qV (qT [4,2,3,1,7,5] (qlr K Y11) (qT [38,4,2,3,1,7,5] (qzO K Y11) kr))
theorem qfk:qkf a c d e f g w K=(za (qsu K) (ql.mk 52 [(7,(Value.int .i64 a)),(5,(Value.int .i64 c)),(4,(Value.pointer (some d))),(2,(Value.int .i64 e)),(3,(Value.int .i64 f)),(1,(Value.pointer (some g)))] []) w):=Eq.trans (b:=CS P (cA ZC 125) none [5,1] [2,3] (q0C K) (ql.mk 52 [(7,(VI a)),(5,(VI c)),(4,(VP (some d))),(2,(VI e)),(3,(VI f)),(1,(VP (some g)))] []) w) kr (Eq.trans (YD 2 [2,3,5,1] (q8z K) kr) ((qY (b:=(cA ZC 500)) (X':=[2,3,5,1]) (H:=[7,5,4,2,3,1]) kr kr kr).trans kr))
theorem qq8:qwL c d e f g w K=(qkf 0 c d e f g w K):=qV (qT [5,1] (q0C K) (qT [7,5,4,2,3,1] (qCx K) kr))
theorem qfc:ql1 c d e f g h w K Y5=(qC (decide (c<8)) (qvP e f g h c d w K Y5) (qwL d e f g h w K)):=qV (qT [4,2,3,1,6,5] (qwu K Y5) (qT [12,4,2,3,1,6,5] (qI2 K Y5) kr))
theorem qqr:qsP a c d h i j k l e f g m w K=(za (qB8 K) (ql.mk 52 [(6,(Value.int .i64 a)),(5,(Value.int .i64 c)),(4,(Value.pointer (some d))),(2,(Value.int .i64 f)),(3,(Value.int .i64 e)),(1,(Value.pointer (some g)))] []) w):=Eq.trans (b:=CS P (cA ZC 61) none [5,4,2,3,1] [2,3] (q4I K) (ql.mk 52 [(6,(VI a)),(5,(VI c)),(4,(VP (some d))),(10,(Value.agg h)),(9,(VS i j k)),(8,(VP (some l))),(3,(VI e)),(2,(VI f)),(1,(VP (some g))),(0,(Value.agg m))] []) w) kr (Eq.trans (YD 0 [2,3,5,4,1] (qfq K) kr) ((qY (b:=(cA ZC 244)) (X':=[2,3,5,4,1]) (H:=[6,5,4,2,3,1]) kr kr kr).trans kr))
theorem qnL:qwm c d e f g h i j k l m w K=(qsP 0 c d e f g h i j k l m w K):=Eq.trans (b:=CS P (cA ZC 15) none [2,3] [2,3] (vz K) (ql.mk 52 [(5,(VI c)),(4,(VP (some d))),(10,(Value.agg e)),(9,(VS f g h)),(8,(VP (some i))),(3,(VI j)),(2,(VI k)),(1,(VP (some l))),(0,(Value.agg m))] []) w) kr (Eq.trans (zN [5,4,2,3,1] (q4I K) kr) (Eq.trans (zN [6,5,4,2,3,1] (qIE K) kr) kr))
theorem qnK:qxS c d e f g h i j k l w K=(qwm 0 c d e f g h i j k l w K):=Eq.trans (b:=CS P (cA ZC 7) none [2,3] [2,3] (vz K) (ql.mk 52 [(4,(VP (some c))),(10,(Value.agg d)),(9,(VS e f g)),(8,(VP (some h))),(3,(VI i)),(2,(VI j)),(1,(VP (some k))),(0,(Value.agg l))] []) w) kr (Eq.trans (zN [5,4,2,3,1] (qHe K) kr) kr)
theorem qn2:qrE d e c f w K=(∃ (g:OA) (h i:Nat),w.cell? c=some (.slice g h i)/\qa P 17 [(Value.slice g h i)] w (fun l m=>∃ j:Array Value,l=(.agg j)/\qt (qn P 64) 64 m (fun k n=>qN 20 (Addr.mk k 0 none) j n (fun o=>qxS (Addr.mk k 0 none) j g h i c d e c f o K)))):=Eq.trans (b:=CS P (cA ZC 3) none [2,3] [2,3] (vz K) (ql.mk 52 [(3,(VI d)),(2,(VI e)),(1,(VP (some c))),(0,(Value.agg f))] []) w) kr (Eq.trans (zN [4,2,3,1] (qG5 K) kr) kr)
theorem qmF:qsf c w K=(qt c 52 w (fun d e=>qrE 0 0 (Addr.mk d 0 none) c e K)):=Eq.trans (b:=CS P (cA ZC 1) none [2,3] [2,3] (vz K) (ql.mk 52 [(0,(Value.agg c))] []) w) kr (Eq.trans (zN [2,3,1] (qI4 K) kr) kr)
theorem qGx:f13 a w K=(qsf a w K):=kr
theorem qJm a w K(h:f13 a w K):qa P 13 [(Value.agg a)] w K:=zj ZC Tryz.func13 h
def jF:=qx Tryz.f12
def qLa:=Tryz.f12.results.toList
abbrev zS K:=qH P qLa K
def f12 a b w K:=CS P jF none [4,5,6] [4,5,6] (zS K) (zh 93 [(Value.agg a),(Value.agg b)]) w
def qvb a b w K:=SC jF 1 [4,5,6] [4,5,6] (zS K) 93 [(0,Value.agg a),(1,Value.agg b)] w
abbrev qFD K:=kq jF 1 [4,5,6] [4,5,6] (zS K)
def quJ a b c d e f g h i w K:=SC jF 3 [4,5,6] [4,5,6] (zS K) 93 [(6,VI a),(5,VS b c d),(4,VQ e),(3,VQ f),(2,VQ g),(0,Value.agg h),(1,Value.agg i)] w
abbrev qxu K:=kq jF 3 [4,5,6] [4,5,6] (zS K)
abbrev qHm K:=kq jF 6 [4,2,3,5,6] [4,5,6] (qxu K)
def qyV a b c d f g h w K:=SG jF 7 [4,5,6] [4,5,6] (zS K) 93 [(4,VQ a),(2,VQ b),(3,VQ c),(5,VS d f g),(6,VI h)] w
abbrev qHT K:=kq jF 7 [4,5,6] [4,5,6] (zS K)
def qwM a b c d e f g h i j k l m n o p q r s t w K:=SC jF 15 [4,5,6] [4,5,6] (zS K) 93 [(7,VS a b c),(23,VS d e f),(22,VS g h i),(21,VQ j),(20,VS k l m),(4,VQ n),(2,VQ o),(3,VQ p),(5,VS q r s),(6,VI t)] w
abbrev qEq K:=kq jF 15 [4,5,6] [4,5,6] (zS K)
def qrp a b c d e f g h i j k l m n o p q r s t u v x y z a0 b0 c0 d0 e0 f0 g0 h0 w K:=SC jF 31 [4,5,6] [4,5,6] (zS K) 93 [(7,VS a b c),(27,VS d e f),(26,VS g h i),(25,Value.agg j),(24,VS k l m),(7,VS n o p),(23,VS q r s),(22,VS t u v),(21,VQ x),(20,VS y z a0),(4,VQ b0),(2,VQ c0),(3,VQ d0),(5,VS e0 f0 g0),(6,VI h0)] w
abbrev qJ2 K:=kq jF 31 [4,5,6] [4,5,6] (zS K)
def qu1 a b c d e f g h i j k l m n o p q r s t u v x y z a0 b0 c0 d0 e0 f0 g0 h0 i0 j0 l0 m0 n0 w K:=SC jF 63 [4,5,6] [4,5,6] (zS K) 93 [(8,VQ a),(29,Value.agg b),(28,VS c d e),(7,VS f g h),(27,VS i j k),(26,VS l m n),(25,Value.agg o),(24,VS p q r),(7,VS s t u),(23,VS v x y),(22,VS z a0 b0),(21,VQ c0),(20,VS d0 e0 f0),(4,VQ g0),(2,VQ h0),(3,VQ i0),(5,VS j0 l0 m0),(6,VI n0)] w
abbrev qdG K:=kq jF 63 [4,5,6] [4,5,6] (zS K)
abbrev qJ5 K:=kq jF 126 [4,2,7,3,5,6] [4,5,6] (qdG K)
def qh8 a b c d f w K:=SG jF 1013 [4,2,7,3,5,6] [4,5,6] (qdG K) 93 [(4,VQ a),(5,VS b c d),(6,VI f)] w
theorem qqy:qh8 a c d e f w K=(qf 2 a w (fun g=>K (Value.tuple #[(Value.agg g),(Value.slice c d e),(Value.int .i64 f)]) w)):=qV kr
def quK a b c d f g h i j k w K:=SG jF 127 [4,5,6] [4,5,6] (zS K) 93 [(4,VQ a),(2,VQ b),(7,VS c d f),(3,VQ g),(5,VS h i j),(6,VI k)] w
abbrev qld K:=kq jF 127 [4,5,6] [4,5,6] (zS K)
abbrev qCI K:=kq jF 254 [2,7,3,4,5,6] [4,5,6] (qld K)
def qsq a b c d f g h i j k w K:=SG jF 255 [4,5,6] [4,5,6] (zS K) 93 [(2,VQ a),(7,VS b c d),(3,VQ f),(4,VQ g),(5,VS h i j),(6,VI k)] w
abbrev qzF K:=kq jF 255 [4,5,6] [4,5,6] (zS K)
def quX a b c d e f g h i j k l m n o p w K:=SC jF 511 [4,5,6] [4,5,6] (zS K) 93 [(9,VS a b c),(41,VS d e f),(2,VQ g),(7,VS h i j),(3,VQ k),(4,VQ l),(5,VS m n o),(6,VI p)] w
abbrev qC7 K:=kq jF 511 [4,5,6] [4,5,6] (zS K)
def qiz a b c d e f g h i j k l m n o p q r s t u v x y z w K:=SC jF 1023 [4,5,6] [4,5,6] (zS K) 93 [(10,VQ a),(45,Value.agg b),(44,VS c d e),(43,VQ f),(42,VS g h i),(9,VS j k l),(41,VS m n o),(2,VQ p),(7,VS q r s),(3,VQ t),(4,VQ u),(5,VS v x y),(6,VI z)] w
abbrev jB K:=kq jF 1023 [4,5,6] [4,5,6] (zS K)
abbrev qAN K:=kq jF 2046 [4,2,9,10] [4,5,6] (jB K)
def qjy a b c d e f g h i j k l m n o p q r s t u v x y z a0 b0 w K:=SC jF 8186 [4,2,9,10] [4,5,6] (jB K) 93 [(47,VB true),(47,VB a),(46,Value.agg b),(10,VQ c),(45,Value.agg d),(44,VS e f g),(43,VQ h),(42,VS i j k),(9,VS l m n),(41,VS o p q),(2,VQ r),(7,VS s t u),(3,VQ v),(4,VQ x),(5,VS y z a0),(6,VI b0)] w
abbrev qzR K:=kq jF 8186 [4,2,9,10] [4,5,6] (jB K)
def qjx a b c d e f g h i j k l m n o p q r s t u v x y z a0 b0 c0 d0 e0 f0 g0 h0 i0 j0 l0 w K:=SC jF 16373 [4,2,9,10] [4,5,6] (jB K) 93 [(11,VS a b c),(49,VS d e f),(48,VS g h i),(47,VB true),(47,VB j),(46,Value.agg k),(10,VQ l),(45,Value.agg m),(44,VS n o p),(43,VQ q),(42,VS r s t),(9,VS u v x),(41,VS y z a0),(2,VQ b0),(7,VS c0 d0 e0),(3,VQ f0),(4,VQ g0),(5,VS h0 i0 j0),(6,VI l0)] w
abbrev qAk K:=kq jF 16373 [4,2,9,10] [4,5,6] (jB K)
def qlm a b c d e f g h i j k l m n o p q r s t u v x y z a0 b0 c0 d0 e0 f0 g0 h0 i0 j0 l0 m0 w K:=SC jF 32747 [4,2,9,10] [4,5,6] (jB K) 93 [(12,VI a),(11,VS b c d),(49,VS e f g),(48,VS h i j),(47,VB true),(47,VB k),(46,Value.agg l),(10,VQ m),(45,Value.agg n),(44,VS o p q),(43,VQ r),(42,VS s t u),(9,VS v x y),(41,VS z a0 b0),(2,VQ c0),(7,VS d0 e0 f0),(3,VQ g0),(4,VQ h0),(5,VS i0 j0 l0),(6,VI m0)] w
abbrev q7A K:=qq 0 (jB K)
def qrn K Y14 e w:=zJ (fun e w=>CS P (cA jF 130988) none [12,10,9,2,11,7,3,4,5,6] [4,5,6,2,9,10] (qw [12,10,9,2,11,7,3,4,5,6] Y14 (q7A K)) e w) e w
abbrev Vy K Y14:=qw [12,10,9,2,11,7,3,4,5,6] Y14 (q7A K)
def qcC a b c d f g h i j k l m n o p q r s w K Y14:=SG jF 130988 [12,10,9,2,11,7,3,4,5,6] [4,5,6,2,9,10] (Vy K Y14) 93 [(12,VI a),(10,VQ b),(9,VS c d f),(2,VQ g),(11,VS h i j),(7,VS k l m),(3,VQ n),(4,VQ o),(5,VS p q r),(6,VI s)] w
abbrev qkk K Y14:=kq jF 130988 [12,10,9,2,11,7,3,4,5,6] [4,5,6,2,9,10] (Vy K Y14)
abbrev qzD K Y14:=kq jF 261976 [10,2,11,7,3,4,5,6,12,9] [4,5,6,2,9,10] (qkk K Y14)
def qlo a b c d f g h i j k l m n o p q r s w K Y14:=SG jF 261977 [12,10,9,2,11,7,3,4,5,6] [4,5,6,2,9,10] (Vy K Y14) 93 [(10,VQ a),(2,VQ b),(11,VS c d f),(7,VS g h i),(3,VQ j),(4,VQ k),(5,VS l m n),(6,VI o),(12,VI p),(9,VS q r s)] w
abbrev qkH K Y14:=kq jF 261977 [12,10,9,2,11,7,3,4,5,6] [4,5,6,2,9,10] (Vy K Y14)
abbrev q8l K Y14:=qq 1 (qkH K Y14)
abbrev qzH K Y14:=kq jF 1047908 [10,9,2,11,7,3,4,5,6,12] [4,5,6,2,9,10,11,7,3,12] (q8l K Y14)
def q2J a b c d f g h i j k l m n o p q r s t u v x y w K Y14:=SG jF 8383271 [10,9,2,11,7,3,4,5,6,12] [4,5,6,2,9,10,11,7,3,12] (q8l K Y14) 93 [(74,VB a),(10,VQ b),(2,VQ c),(11,VS d f g),(7,VS h i j),(3,VQ k),(4,VQ l),(5,VS m n o),(6,VI p),(12,VI q),(13,Value.int .u32 r),(14,VS s t u),(9,VS v x y)] w
def q3i a b c d f g h i j k l m n o p q r s w K Y14:=SG jF 523955 [12,10,9,2,11,7,3,4,5,6] [4,5,6,2,9,10] (Vy K Y14) 93 [(10,VQ a),(9,VS b c d),(2,VQ f),(11,VS g h i),(7,VS j k l),(3,VQ m),(4,VQ n),(5,VS o p q),(6,VI r),(12,VI s)] w
theorem qgX:q3i a c d e f g h i j k l m n o p q r s w K Y14=(Y14 (ql.mk 93 [(12,(Value.int .i64 (IntKind.wrap .i64 (s+1)))),(10,(Value.pointer (some a))),(9,(Value.slice c d e)),(2,(Value.pointer (some f))),(11,(Value.slice g h i)),(7,(Value.slice j k l)),(3,(Value.pointer (some m))),(4,(Value.pointer (some n))),(5,(Value.slice o p q)),(6,(Value.int .i64 r))] []) w):=qV kr
theorem q3E:q2J t a c d e f g h i j k l m n o p u x y a0 q r s w K Y14=(qC t (qi x (fun m0=>0<=(0:Int)/\(0:Int)<(y:Nat)/\qf 11 (m0.add (Int.toNat 0*11)) w (fun b0=>qJ 11 [(Value.agg b0)]/\qt (([(Value.agg b0)].map fun(v:Value)=>v.cells.toList).flatten.toArray) 108 w (fun n0 o0=>∃ (c0:OA) (d0 e0:Nat),∃ z:World,(Builtin.append_ #[39,39] 39 #[(Value.slice q r s),(Value.slice (some (Addr.mk n0 0 none)) 1 1)]).run P o0=.ok (.slice c0 d0 e0) z/\∃ (f0:OA) (g0 h0:Nat),z.cell? (a.add 1)=some (.slice f0 g0 h0)/\qa P 54 [(Value.slice f0 g0 h0),(Value.int .u32 u)] z (fun p0 q0=>∃ (i0:OA) (j0 l0:Nat),p0=(.slice i0 j0 l0)/\zG (a.add 1) (Value.slice i0 j0 l0) q0 (fun r0=>q3i a c0 d0 e0 c d e f g h i j k l m n o p r0 K Y14)))))) (q3i a q r s c d e f g h i j k l m n o p w K Y14)):=qV kr
theorem qfU:qlo l d e f g h i j k m n o p q c r s t w K Y14=(∃ u:Int,w.cell? (k.add 3)=some (.int .u32 u)/\qa P 52 [(Value.slice h i j),(Value.slice e f g),(Value.int .u32 (IntKind.wrap .u32 (u+(IntKind.wrap .u32 c))))] w (fun g0 a0=>∃ (v:OA) (x y:Nat),g0=(.slice v x y)/\∃ (b0:OA) (c0 d0:Nat),a0.cell? (d.add 1)=some (.slice b0 c0 d0)/\qa P 53 [(Value.slice b0 c0 d0),(Value.int .u32 (IntKind.wrap .u32 (u+(IntKind.wrap .u32 c))))] a0 (fun h0 z=>∃ e0:Bool,h0=(.bool e0)/\qC (!e0) (∃ f0:Int,(∀ wq,zZ z wq->(Builtin.len_ #[39] 3 #[(Value.slice v x y)]).run P wq=.ok (.int .i64 f0) wq)/\q2J (decide (f0 > 0)) l d e f g h i j k m n o p q c (IntKind.wrap .u32 (u+(IntKind.wrap .u32 c))) v x y r s t z K Y14) (q2J false l d e f g h i j k m n o p q c (IntKind.wrap .u32 (u+(IntKind.wrap .u32 c))) v x y r s t z K Y14)))):=qV (qT [10,9,2,11,7,3,4,5,6,12] (qkH K Y14) (QJ 1 [4,5,6,2,9,10,11,7,3,12] (q8l K Y14) (qT [10,2,11,7,3,4,5,6,12,13,9] (qzH K Y14) kr)))
def q3a a b c d f g w K:=SG jF 2047 [4,5,6] [4,5,6] (zS K) 93 [(4,VQ a),(2,VQ b),(9,VS c d f),(10,VQ g)] w
abbrev qif K:=kq jF 2047 [4,5,6] [4,5,6] (zS K)
abbrev qCg K:=kq jF 4094 [4,9,10] [4,5,6] (qif K)
def qjH a b c d f w K:=SG jF 4095 [4,5,6] [4,5,6] (zS K) 93 [(4,VQ a),(9,VS b c d),(10,VQ f)] w
abbrev qAr K:=kq jF 4095 [4,5,6] [4,5,6] (zS K)
theorem qhI:qjH c d e f g w K=(qf 2 g w (fun i=>qN 2 c i w (fun h=>qf 2 c h (fun j=>K (Value.tuple #[(Value.agg j),(Value.slice d e f),(Value.int .i64 0)]) h)))):=qV (qT [4,5,6] (qAr K) kr)
theorem qeO:q3a c e f g h d w K=(∃ (i:OA) (j k:Nat),w.cell? (d.add 1)=some (.slice i j k)/\∃ l:Int,(∀ wq,zZ w wq->(Builtin.len_ #[49] 3 #[(Value.slice i j k)]).run P wq=.ok (.int .i64 l) wq)/\qC (decide (l > 1000)) (qf 2 e w (fun n=>qN 2 c n w (fun m=>qf 2 c m (fun o=>K (Value.tuple #[(Value.agg o),(Value.slice none 0 0),(Value.int .i64 2)]) m)))) (qjH c f g h d w K)):=qV (qT [4,9,10] (qif K) (qT [89,4,2,9,10] (qCg K) kr))
theorem qbC:qcC c d e f g h k l m n o p i j q r s t w K Y14=(∃ u:Int,w.cell? (i.add 5)=some (.int .i64 u)/\qC (decide (c<u)) (qlo d h k l m n o p i j q r s t c e f g w K Y14) (q3a j h e f g d w K)):=qV (qT [10,2,11,7,3,4,5,6,12,9] (qkk K Y14) (qT [53,10,2,11,7,3,4,5,6,12,9] (qzD K Y14) kr))
theorem qgE:qlm a c d e t u v x y z a0 b0 f c0 d0 e0 f0 g0 h0 i0 j0 g h i l0 m0 n0 j k l m n o p q r s w K=(za (qrn K) (ql.mk 93 [(12,(Value.int .i64 a)),(10,(Value.pointer (some f))),(9,(Value.slice g h i)),(2,(Value.pointer (some j))),(11,(Value.slice c d e)),(7,(Value.slice k l m)),(3,(Value.pointer (some n))),(4,(Value.pointer (some o))),(5,(Value.slice p q r)),(6,(Value.int .i64 s))] []) w):=Eq.trans (b:=CS P (cA jF 32747) none [4,2,9,10] [4,5,6] (jB K) (ql.mk 93 [(12,(VI a)),(11,(VS c d e)),(49,(VS t u v)),(48,(VS x y z)),(47,(VB true)),(47,(VB a0)),(46,(Value.agg b0)),(10,(VP (some f))),(45,(Value.agg c0)),(44,(VS d0 e0 f0)),(43,(VP (some g0))),(42,(VS h0 i0 j0)),(9,(VS g h i)),(41,(VS l0 m0 n0)),(2,(VP (some j))),(7,(VS k l m)),(3,(VP (some n))),(4,(VP (some o))),(5,(VS p q r)),(6,(VI s))] []) w) kr (Eq.trans (YD 0 [4,5,6,2,9,10] (q7A K) kr) ((qY (b:=(cA jF 130988)) (X':=[4,5,6,2,9,10]) (H:=[12,10,9,2,11,7,3,4,5,6]) kr kr kr).trans kr))
theorem qeu:qjx c d e f g h i j k l m n o p q r s t u v x y z a0 b0 c0 d0 e0 f0 g0 h0 i0 j0 l0 m0 n0 w K=(qlm 0 c d e f g h i j k l m n o p q r s t u v x y z a0 b0 c0 d0 e0 f0 g0 h0 i0 j0 l0 m0 n0 w K):=Eq.trans (b:=CS P (cA jF 16373) none [4,2,9,10] [4,5,6] (jB K) (ql.mk 93 [(11,(VS c d e)),(49,(VS f g h)),(48,(VS i j k)),(47,(VB true)),(47,(VB l)),(46,(Value.agg m)),(10,(VP (some n))),(45,(Value.agg o)),(44,(VS p q r)),(43,(VP (some s))),(42,(VS t u v)),(9,(VS x y z)),(41,(VS a0 b0 c0)),(2,(VP (some d0))),(7,(VS e0 f0 g0)),(3,(VP (some h0))),(4,(VP (some i0))),(5,(VS j0 l0 m0)),(6,(VI n0))] []) w) kr (Eq.trans (zN [12,10,9,2,11,7,3,4,5,6] (qAk K) kr) kr)
theorem qgU:qjy f g h i j k l m n o p q r s t u v x c d e y z a0 b0 c0 d0 w K=(qa P 51 [(Value.slice c d e)] w (fun h0 i0=>∃ (e0:OA) (f0 g0:Nat),h0=(.slice e0 f0 g0)/\qjx e0 f0 g0 e0 f0 g0 c d e f g h i j k l m n o p q r s t u v x c d e y z a0 b0 c0 d0 i0 K)):=Eq.trans (b:=CS P (cA jF 8186) none [4,2,9,10] [4,5,6] (jB K) (ql.mk 93 [(47,(VB true)),(47,(VB f)),(46,(Value.agg g)),(10,(VP (some h))),(45,(Value.agg i)),(44,(VS j k l)),(43,(VP (some m))),(42,(VS n o p)),(9,(VS q r s)),(41,(VS t u v)),(2,(VP (some x))),(7,(VS c d e)),(3,(VP (some y))),(4,(VP (some z))),(5,(VS a0 b0 c0)),(6,(VI d0))] []) w) kr (Eq.trans (zN [10,9,2,11,7,3,4,5,6] (qzR K) kr) kr)
theorem qgc:qiz c j k l m n o p q d e f r s t g u v x h i y z a0 b0 w K=(qf 6 h w (fun d0=>qa P 50 [(Value.agg d0)] w (fun f0 e0=>∃ c0:Bool,f0=(.bool c0)/\qC c0 (qjy c0 d0 c j k l m n o p q d e f r s t g u v x h i y z a0 b0 e0 K) (q3a i g d e f c e0 K)))):=Eq.trans (b:=CS P (cA jF 1023) none [4,5,6] [4,5,6] (zS K) (ql.mk 93 [(10,(VP (some c))),(45,(Value.agg j)),(44,(VS k l m)),(43,(VP (some n))),(42,(VS o p q)),(9,(VS d e f)),(41,(VS r s t)),(2,(VP (some g))),(7,(VS u v x)),(3,(VP (some h))),(4,(VP (some i))),(5,(VS y z a0)),(6,(VI b0))] []) w) kr (Eq.trans (zN [4,2,9,10] (jB K) kr) (Eq.trans (zN [47,10,9,2,7,3,4,5,6] (qAN K) kr) kr))
theorem qmN:quX g h i j k l c d e f m n o p q r w K=(∃ (s:OA) (t u:Nat),w.cell? (c.add 1)=some (.slice s t u)/\∃ v:Array Value,(∀ wq,(Instr.build 52 #[(0,(Value.slice d e f)),(1,(Value.slice s t u))]).run P wq=.ok (.agg v) wq)/\qt (qn P 52) 52 w (fun x y=>qN 2 (Addr.mk x 0 none) v y (fun z=>qiz (Addr.mk x 0 none) v s t u (c.add 1) d e f g h i j k l c d e f m n o p q r z K))):=Eq.trans (b:=CS P (cA jF 511) none [4,5,6] [4,5,6] (zS K) (ql.mk 93 [(9,(VS g h i)),(41,(VS j k l)),(2,(VP (some c))),(7,(VS d e f)),(3,(VP (some m))),(4,(VP (some n))),(5,(VS o p q)),(6,(VI r))] []) w) kr (Eq.trans (zN [10,9,2,7,3,4,5,6] (qC7 K) kr) kr)
theorem qot:qsq c d e f g h i j k l w K=(∃ (m:OA) (n o:Nat),∃ p:World,(Instr.buildSlice 39 0 ([]:List (Nat × Value)).toArray).run P w=.ok (.slice m n o) p/\quX m n o m n o c d e f g h i j k l p K):=qV (qT [9,2,7,3,4,5,6] (qzF K) kr)
theorem qpz:quK c d e f g h i j k l w K=(qa P 49 [(Value.slice e f g)] w (fun s t=>∃ (n:OA) (o p:Nat),s=(.slice n o p)/\qa P 48 [(Value.slice n o p)] t (fun u m=>∃ q:Int,u=(.int .i64 q)/\qC (decide (q > 20000)) (qf 2 d m (fun v=>qN 2 c v m (fun r=>qf 2 c r (fun x=>K (Value.tuple #[(Value.agg x),(Value.slice none 0 0),(Value.int .i64 2)]) r)))) (qsq d e f g h c i j k l m K)))):=qV (qT [2,7,3,4,5,6] (qld K) (qT [39,4,2,7,3,5,6] (qCI K) kr))
theorem q6F:qu1 d n o p q f g h r s t u v x y z a0 b0 c0 d0 e0 f0 g0 h0 i0 j0 l0 m0 n0 o0 p0 c e i j k l m w K=(∃ q0:Int,w.cell? (d.add 19)=some (.int .i64 q0)/\qC (q0 != 0) (qf 2 e w.drew (fun r0=>(∃ s0:Int,w.drew.cell? (d.add 19)=some (.int .i64 s0)/\qN 2 c r0 w.drew (fun v0=>qh8 c none 0 0 s0 v0 K))/\(qN 2 c r0 w.drew (fun t0=>∃ u0:Int,t0.cell? (d.add 19)=some (.int .i64 u0)/\qh8 c none 0 0 u0 t0 K)))) (quK c e f g h i j k l m w K)):=Eq.trans (b:=CS P (cA jF 63) none [4,5,6] [4,5,6] (zS K) (ql.mk 93 [(8,(VP (some d))),(29,(Value.agg n)),(28,(VS o p q)),(7,(VS f g h)),(27,(VS r s t)),(26,(VS u v x)),(25,(Value.agg y)),(24,(VS z a0 b0)),(7,(VS c0 d0 e0)),(23,(VS f0 g0 h0)),(22,(VS i0 j0 l0)),(21,(VP (some m0))),(20,(VS n0 o0 p0)),(4,(VP (some c))),(2,(VP (some e))),(3,(VP (some i))),(5,(VS j k l)),(6,(VI m))] []) w) kr (Eq.trans (zN [4,2,7,3,5,6] (qdG K) kr) (Eq.trans (zN [32,4,8,2,7,3,5,6] (qJ5 K) kr) kr))
theorem qnS:qrp c d e f g h i j k l m n o p q r s t u v x y z a0 b0 c0 d0 e0 f0 g0 h0 i0 j0 w K=(qa P 17 [(Value.slice c d e)] w (fun n0 o0=>∃ l0:Array Value,n0=(.agg l0)/\qt (qn P 64) 64 o0 (fun m0 p0=>qN 20 (Addr.mk m0 0 none) l0 p0 (fun q0=>qu1 (Addr.mk m0 0 none) l0 c d e c d e f g h i j k l m n o p q r s t u v x y z a0 b0 c0 d0 e0 f0 g0 h0 i0 j0 q0 K)))):=Eq.trans (b:=CS P (cA jF 31) none [4,5,6] [4,5,6] (zS K) (ql.mk 93 [(7,(VS c d e)),(27,(VS f g h)),(26,(VS i j k)),(25,(Value.agg l)),(24,(VS m n o)),(7,(VS p q r)),(23,(VS s t u)),(22,(VS v x y)),(21,(VP (some z))),(20,(VS a0 b0 c0)),(4,(VP (some d0))),(2,(VP (some e0))),(3,(VP (some f0))),(5,(VS g0 h0 i0)),(6,(VI j0))] []) w) kr (Eq.trans (zN [4,8,2,7,3,5,6] (qJ2 K) kr) kr)
theorem qpL:qwM c d e g h i j k l m n o p q r f s t u x w K=(qf 6 f w (fun y=>qJ 6 [(Value.agg y)]/\qt (([(Value.agg y)].map fun(v:Value)=>v.cells.toList).flatten.toArray) 45 w (fun c0 e0=>∃ (z:OA) (a0 b0:Nat),∃ d0:World,(Builtin.append_ #[22,22] 22 #[(Value.slice c d e),(Value.slice (some (Addr.mk c0 0 none)) 1 1)]).run P e0=.ok (.slice z a0 b0) d0/\qrp z a0 b0 z a0 b0 (some (Addr.mk c0 0 none)) 1 1 y c d e c d e g h i j k l m n o p q r f s t u x d0 K))):=Eq.trans (b:=CS P (cA jF 15) none [4,5,6] [4,5,6] (zS K) (ql.mk 93 [(7,(VS c d e)),(23,(VS g h i)),(22,(VS j k l)),(21,(VP (some m))),(20,(VS n o p)),(4,(VP (some q))),(2,(VP (some r))),(3,(VP (some f))),(5,(VS s t u)),(6,(VI x))] []) w) kr (Eq.trans (zN [4,2,7,3,5,6] (qEq K) kr) kr)
theorem qpw:qyV d c e f g h i w K=(∃ (j:OA) (k l:Nat),∃ m:World,(Instr.buildSlice 22 0 ([]:List (Nat × Value)).toArray).run P w=.ok (.slice j k l) m/\∃ (n:OA) (o p:Nat),m.cell? c=some (.slice n o p)/\∃ (q:OA) (r s:Nat),∃ t:World,(Builtin.append_ #[22,22] 22 #[(Value.slice j k l),(Value.slice n o p)]).run P m=.ok (.slice q r s) t/\qwM q r s q r s n o p c j k l d c e f g h i t K):=qV (qT [4,2,3,5,6,7] (qHT K) kr)
theorem qnF:quJ e f g h c i d j k w K=(∃ (l:OA) (m n:Nat),w.cell? d=some (.slice l m n)/\∃ o:Int,(∀ wq,zZ w wq->(Builtin.len_ #[22] 3 #[(Value.slice l m n)]).run P wq=.ok (.int .i64 o) wq)/\qC (decide (o>=20000)) (qf 2 d w (fun q=>qN 2 c q w (fun p=>qf 2 c p (fun r=>K (Value.tuple #[(Value.agg r),(Value.slice none 0 0),(Value.int .i64 2)]) p)))) (qyV c d i f g h e w K)):=Eq.trans (b:=CS P (cA jF 3) none [4,5,6] [4,5,6] (zS K) (ql.mk 93 [(6,(VI e)),(5,(VS f g h)),(4,(VP (some c))),(3,(VP (some i))),(2,(VP (some d))),(0,(Value.agg j)),(1,(Value.agg k))] []) w) kr (Eq.trans (zN [4,2,3,5,6] (qxu K) kr) (Eq.trans (zN [18,4,2,3,5,6] (qHm K) kr) kr))
theorem qnk:qvb c d w K=(qt c 52 w (fun e f=>qt d 45 f (fun g h=>qt (qn P 52) 52 h (fun i j=>quJ 0 none 0 0 (Addr.mk i 0 none) (Addr.mk g 0 none) (Addr.mk e 0 none) c d j K)))):=Eq.trans (b:=CS P (cA jF 1) none [4,5,6] [4,5,6] (zS K) (ql.mk 93 [(0,(Value.agg c)),(1,(Value.agg d))] []) w) kr (Eq.trans (zN [4,2,3,5,6] (qFD K) kr) kr)
theorem qJc:f12 a b w K=(qvb a b w K):=kr
theorem qIF a b w K(h:f12 a b w K):qa P 12 [(Value.agg a),(Value.agg b)] w K:=zj jF Tryz.func12 h
end Go.Fx.Tryz
namespace Go.Fx
open Go
@[simp] theorem qm(A B:Prop):qC true A B=A:=rfl
@[simp] theorem qd(A B:Prop):qC false A B=B:=rfl
theorem qg(b:Bool)(A B:Prop):qC b A B↔(b=true->A)/\(b=false->B):=by cases b<;>simp
def Cs(cs:List Value)(t:TypeId):Obj:=.cells cs.toArray t (0,0)
structure qAG (w0 w:World):Prop where
 os:w.os=w0.os
 tape:w.tape=w0.tape
 output:w.output=w0.output
structure St (w0 w:World) (H:qP):Prop where
 kept:qAG w0 w
 le:w0.heap.size<=w.heap.size
 has:∀ b o,(b,o)∈H->w.heap[b]?=some o
 nd:(H.map (·.1)).Nodup
 old:∀ b,b<w0.heap.size->b ∉ H.map (·.1)->w.heap[b]?=w0.heap[b]?
variable {w0 w:World} {H:qP}
theorem Zb(w:World)(o:Obj):(w.alloc o).heap=w.heap.push o:=rfl
theorem St.refl(w:World):St w w []:=⟨⟨rfl,rfl,rfl⟩,Nat.le_refl _,by simp,by simp,fun _ _ _=>rfl⟩
theorem St.lt(h:St w0 w H){b:Nat}{o:Obj}(hb:(b,o)∈H):b<w.heap.size:=(Array.getElem?_eq_some_iff.1 (h.has b o hb)).1
theorem St.get(h:St w0 w H){k b:Nat}{o:Obj}(hk:H[k]?=some (b,o)):w.heap[b]?=some o:=h.has b o (List.mem_of_getElem? hk)
theorem St.add(h:St w0 w H){b:Nat}{o:Obj}(hb:w0.heap[b]?=some o)(hn:b ∉ H.map (·.1)):St w0 w ((b,o)::H):=by
 have hlt:b<w0.heap.size:=(Array.getElem?_eq_some_iff.1 hb).1
 refine⟨h.kept,h.le,fun c p hc=>?_,by simp only[List.map_cons,List.nodup_cons];exact⟨hn,h.nd⟩,fun c hc hn'=>h.old c hc (fun hh=>hn' (by simp at hh ⊢;exact .inr hh))⟩
 rcases List.mem_cons.1 hc with e | hc
 ·cases e;rw[h.old b hlt hn,hb]
 ·exact h.has c p hc
theorem St.drew(h:St w0 w H):St w0 w.drew H:=⟨⟨h.kept.os,h.kept.tape,h.kept.output⟩,h.le,h.has,h.nd,h.old⟩
theorem St.alloc(h:St w0 w H)(o:Obj):St w0 (w.alloc o) ((w.heap.size,o)::H):=by
 refine⟨⟨h.kept.os,h.kept.tape,h.kept.output⟩,by rw[Zb,Array.size_push];exact Nat.le_succ_of_le h.le,fun c p hc=>?_,?_,fun c hc hn=>?_⟩
 ·rcases List.mem_cons.1 hc with e | hc
  ·cases e;rw[Zb];simp
  ·have hlt:=h.lt hc
   have:=h.has c p hc
   rw[Zb];simp[Array.getElem?_push,Nat.ne_of_lt hlt,this]
 ·simp only[List.map_cons,List.nodup_cons]
  refine⟨fun hh=>?_,h.nd⟩
  obtain⟨⟨c,p⟩,hc,e⟩:=List.mem_map.1 hh
  have:=h.lt hc
  simp at e;omega
 ·have:c ∉ H.map (·.1):=fun hh=>hn (by simp at hh ⊢;exact .inr hh)
  rw[<-h.old c hc this]
  have hlt:c<w.heap.size:=Nat.lt_of_lt_of_le hc h.le
  rw[Zb];simp[Array.getElem?_push,Nat.ne_of_lt hlt]
theorem q1u{α:Type}{l:List α}(h:l.Nodup){i j:Nat}{x:α}(hi:l[i]?=some x)(hj:l[j]?=some x):i=j:=by
 obtain⟨hi1,hi2⟩:=List.getElem?_eq_some_iff.1 hi
 obtain⟨hj1,hj2⟩:=List.getElem?_eq_some_iff.1 hj
 have hp:=List.pairwise_iff_getElem.1 h
 rcases Nat.lt_trichotomy i j with hlt | he | hlt
 ·exact absurd (hi2.trans hj2.symm) (hp i j hi1 hj1 hlt)
 ·exact he
 ·exact absurd (hj2.trans hi2.symm) (hp j i hj1 hi1 hlt)
theorem qc6{k b:Nat}{o o':Obj}(hk:H[k]?=some (b,o)):(H.set k (b,o')).map (·.1)=H.map (·.1):=by
 apply List.ext_getElem?
 intro i
 simp only[List.getElem?_map,List.getElem?_set]
 by_cases hi:k=i
 ·subst hi
  obtain⟨hlt,he⟩:=List.getElem?_eq_some_iff.1 hk
  simp[hlt,he]
 ·simp[hi]
theorem St.put(h:St w0 w H){k b:Nat}{o:Obj}(hk:H[k]?=some (b,o))(o':Obj):St w0 (w.putObj b o') (H.set k (b,o')):=by
 have hb:=h.get hk
 have hlt:b<w.heap.size:=(Array.getElem?_eq_some_iff.1 hb).1
 refine⟨⟨h.kept.os,h.kept.tape,h.kept.output⟩,by simp;exact h.le,fun c p hc=>?_,by rw[qc6 hk];exact h.nd,fun c hc hn=>?_⟩
 ·obtain⟨i,hi⟩:=List.mem_iff_getElem?.1 hc
  rw[List.getElem?_set]at hi
  by_cases hki:k=i
  ·subst hki
   have hkl:k<H.length:=(List.getElem?_eq_some_iff.1 hk).1
   simp[hkl]at hi
   obtain⟨rfl,rfl⟩:=hi
   exact World.putObj_heap_same (w:=_) hlt
  ·simp[hki]at hi
   have hcb:c≠b:=fun e=>hki (q1u h.nd (x:=b) (by simp[hk]) (by simp[hi,e]))
   rw[World.putObj_heap_other (w:=_) hcb]
   exact h.get hi
 ·rw[qc6 hk]at hn
  have hcb:c≠b:=fun e=>hn (by subst e;exact List.mem_map.2 ⟨_,List.mem_of_getElem? hk,rfl⟩)
  rw[World.putObj_heap_other (w:=_) hcb]
  exact h.old c hc hn
theorem St.sub{L:qP}(h:St w0 w (L++H))(hL:∀ x∈L,w0.heap.size<=x.1):St w0 w H:=by
 refine⟨h.kept,h.le,fun b o hb=>h.has b o (by simp[hb]),?_,fun b hb hn=>h.old b hb ?_⟩
 ·have:=h.nd
  rw[List.map_append]at this
  exact(List.nodup_append.1 this).2.1
 ·intro hh
  rw[List.map_append,List.mem_append]at hh
  rcases hh with hh | hh
  ·obtain⟨x,hx,rfl⟩:=List.mem_map.1 hh
   have:=hL x hx
   omega
  ·exact hn hh
theorem St.tail{b:Nat}{o:Obj}(h:St w0 w ((b,o)::H))(hb:w0.heap.size<=b):St w0 w H:=St.sub (L:=[(b,o)]) h (by simpa using hb)
theorem St.perm{H':qP}(h:St w0 w H)(hp:H.Perm H'):St w0 w H':=
 ⟨h.kept,h.le,fun b o hb=>h.has b o (hp.mem_iff.2 hb),(hp.map _).nodup_iff.1 h.nd,fun b hb hn=>h.old b hb fun hh=>hn ((hp.map _).mem_iff.1 hh)⟩
@[simp] theorem qc(b i j:Nat):(Addr.mk b i none).add j=Addr.mk b (i+j) none:=by
 unfold Addr.add
 split
 ·rename_i h;subst h;rfl
 ·rfl
theorem qv{b i:Nat}{cs:List Value}{t:TypeId}(h:w.heap[b]?=some (Cs cs t)):w.cell? (Addr.mk b i none)=cs[i]?:=by
 unfold World.cell?
 rw[h]
 simp[Cs]
theorem Je{b i:Nat}{cs:List Value}{t:TypeId}(h:w.heap[b]?=some (Cs cs t)):w.frozen? (Addr.mk b i none)=false:=by
 unfold World.frozen?
 rw[h]
 simp[Cs]
theorem JS{b i:Nat}{cs:List Value}{t:TypeId}(v:Value)(h:w.heap[b]?=some (Cs cs t)):w.setCell (Addr.mk b i none) v=w.putObj b (Cs (cs.set i v) t):=by
 unfold World.setCell World.putObj
 congr 1
 apply Array.ext_getElem?
 intro c
 rw[Array.getElem?_modify,Array.getElem?_setIfInBounds]
 obtain⟨hlt,he⟩:=Array.getElem?_eq_some_iff.1 h
 by_cases hbc:b=c
 ·subst hbc
  simp[hlt,he,Cs]
 ·simp[hbc]
theorem St.cell(h:St w0 w H){k b i:Nat}{cs:List Value}{t:TypeId}(hk:H[k]?=some (b,Cs cs t)):w.cell? (Addr.mk b i none)=cs[i]?:=qv (h.get hk)
theorem St.newC(h:St w0 w H){cs:Array Value}{t:TypeId}{K:Nat->World->Prop}
  (hK:∀ b w',w0.heap.size<=b->St w0 w' ((b,Cs cs.toList t)::H)->K b w'):qt cs t w K:=
 hK _ _ h.le (by have:=h.alloc (.cells cs t);simpa [Cs]using this)
theorem St.newO(h:St w0 w H){o:Obj}{K:Nat->World->Prop}(hK:∀ b w',w0.heap.size<=b->St w0 w' ((b,o)::H)->K b w'):q4L o w K:=hK _ _ h.le (h.alloc o)
theorem St.st1(h:St w0 w H){k b i:Nat}{cs:List Value}{t:TypeId}{v:Value}{K:World->Prop}(hk:H[k]?=some (b,Cs cs t))(hi:i<cs.length)(hv:v.oneCell'=true)
  (hK:∀ w',St w0 w' (H.set k (b,Cs (cs.set i v) t))->K w'):zG (Addr.mk b i none) v w K:=by
 have hb:=h.get hk
 refine⟨⟨_,by rw[qv hb,List.getElem?_eq_getElem hi]⟩,Je hb,hv,?_⟩
 rw[JS v hb]
 exact hK _ (h.put hk _)
theorem jU{n b i:Nat}{cs:List Value}{t:TypeId}{K:Array Value->Prop}(hb:w.heap[b]?=some (Cs cs t))(hi:i+n<=cs.length)(hK:K ((cs.drop i).take n).toArray):qf n (Addr.mk b i none) w K:=by
 refine⟨_,by simp;omega,fun j hj=>?_,hK⟩
 rw[qc,qv hb]
 simp[hj]
theorem St.ldA(h:St w0 w H){n k b i:Nat}{cs:List Value}{t:TypeId}{K:Array Value->Prop}(hk:H[k]?=some (b,Cs cs t))(hi:i+n<=cs.length)(hK:K ((cs.drop i).take n).toArray):qf n (Addr.mk b i none) w K:=
 jU (h.get hk) hi hK
def qI(cs:List Value)(i:Nat):List Value->List Value
 | []=>cs
 | v::r=>qI (cs.set i v) (i+1) r
theorem yC(vs:List Value):∀ (cs:List Value) (i:Nat),(qI cs i vs).length=cs.length:=by
 induction vs with
 | nil=>intro cs i;rfl
 | cons v r ih=>intro cs i;rw[qI,ih];simp
theorem Ji(vs:List Value):∀ (cs:List Value) (i:Nat),i+vs.length<=cs.length->qI cs i vs=cs.take i++vs++cs.drop (i+vs.length):=by
 induction vs with
 | nil=>intro cs i h;simp[qI]
 | cons v r ih=>
  intro cs i h
  simp at h
  rw[qI,ih _ _ (by simp;omega)]
  apply List.ext_getElem?
  intro j
  simp only[List.append_assoc,List.getElem?_append,List.length_take,List.length_set,List.getElem?_take,List.getElem?_drop,List.length_cons,List.getElem?_set,List.getElem?_cons]
  rcases Nat.lt_trichotomy j i with hj | hj | hj
  ·simp[show j<min (i+1) cs.length by omega,show j<i+1 by omega,show j<min i cs.length by omega,hj,show i≠j by omega]
  ·subst hj
   simp[show j<min (j+1) cs.length by omega,show j<cs.length by omega,show ¬ j<min j cs.length by omega,show j-min j cs.length=0 by omega]
  ·have e1:min (i+1) cs.length=i+1:=by omega
   have e2:min i cs.length=i:=by omega
   rw[e1,e2]
   simp only[show ¬ j<i+1 by omega,if_false,show ¬ j<i by omega]
   by_cases hr:j-(i+1)<r.length
   ·simp[hr,show j-i<r.length+1 by omega,show ¬ (j-i=0)by omega,show j-i-1=j-(i+1)by omega]
   ·simp[hr,show ¬ (j-i<r.length+1)by omega,show i+1+r.length+(j-(i+1)-r.length)=i+(r.length+1)+(j-i-(r.length+1))by omega,show i≠i+(r.length+1)+(j-i-(r.length+1))by omega]
theorem q2h(vs:List Value)(v:Value):∀ (cs:List Value) (i:Nat),qI cs i (vs++[v])=(qI cs i vs).set (i+vs.length) v:=by
 induction vs with
 | nil=>intro cs i;simp[qI]
 | cons u r ih=>intro cs i;simp only[List.cons_append,qI,ih,List.length_cons];congr 1;omega
theorem qdP(vs:List Value):∀ (cs:List Value) (i j:Nat),j<i\/i+vs.length<=j->(qI cs i vs)[j]?=cs[j]?:=by
 induction vs with
 | nil=>intro cs i j _;rfl
 | cons u r ih=>
  intro cs i j h
  rw[qI,ih _ _ _ (by simp at h;omega),List.getElem?_set_ne (by simp at h;omega)]
theorem YI{α:Type}(l:List α){i:Nat}(h:i<l.length):l.take (i+1)=l.take i++[l[i]]:=by rw[List.take_add_one,List.getElem?_eq_getElem h];rfl
theorem qcp{b t:Nat}(vs:List Value):∀ {w:World} {cs:List Value} {off i:Nat},w.heap[b]?=some (Cs cs t)->Qf w (Addr.mk b off none) i vs=w.putObj b (Cs (qI cs (off+i) vs) t):=by
 induction vs with
 | nil=>
  intro w cs off i h
  show w=w.putObj b (Cs cs t)
  unfold World.putObj
  have:w.heap.setIfInBounds b (Cs cs t)=w.heap:=by
   apply Array.ext_getElem?
   intro c
   rw[Array.getElem?_setIfInBounds]
   by_cases hbc:b=c
   ·subst hbc;obtain⟨h1,h2⟩:=Array.getElem?_eq_some_iff.1 h;simp[h1,h2]
   ·simp[hbc]
  rw[this]
 | cons v r ih=>
  intro w cs off i h
  have hlt:=(Array.getElem?_eq_some_iff.1 h).1
  show Qf (w.setCell ((Addr.mk b off none).add i) v) _ (i+1) r=_
  rw[qc,JS v h,ih (cs:=cs.set (off+i) v) (World.putObj_heap_same (w:=_) hlt)]
  show { w with heap:=(w.heap.setIfInBounds b _).setIfInBounds b _ }=_
  simp only[Array.setIfInBounds_setIfInBounds]
  rfl
theorem St.stA(h:St w0 w H){n k b i:Nat}{cs:List Value}{t:TypeId}{vs:Array Value}{K:World->Prop}(hk:H[k]?=some (b,Cs cs t))(hn:vs.size=n)(hi:i+n<=cs.length)
  (hv:∀ v∈vs.toList,v.oneCell'=true) (hK:∀ w',St w0 w' (H.set k (b,Cs (qI cs i vs.toList) t))->K w'):qN n (Addr.mk b i none) vs w K:=by
 have hb:=h.get hk
 refine⟨hn,fun j hj=>⟨⟨_,by rw[qc,qv hb,List.getElem?_eq_getElem om]⟩,by rw[qc];exact Je hb,fun v hv'=>hv v (by simpa using Array.mem_of_getElem? hv')⟩,?_⟩
 rw[qcp _ hb]
 exact hK _ (h.put hk _)
theorem qk{x:Int}(h1:-9223372036854775808<=x)(h2:x<9223372036854775808):IntKind.wrap .i64 x=x:=by
 simp only[IntKind.wrap,IntKind.bits,IntKind.signed,Bool.true_and]
 by_cases h:x % 2 ^ 64>=2 ^ (64-1)
 ·rw[if_pos (by simpa using h)];omega
 ·rw[if_neg (by simpa using h)];omega
theorem qAg{P:Program}(k:IntKind)(ts:Array TypeId)(t:TypeId)(a b:Int)(w:World):(Builtin.max_ ts t [Value.int k a,Value.int k b].toArray).run P w=.ok (.int k (if b > a then b else a)) w:=by
 simp[Builtin.max_,Builtin.max2]
theorem St.same{w':World}(h:St w0 w H)(hw:w'.heap=w.heap)(hk:qAG w w'):St w0 w' H:=⟨⟨hk.os.trans h.kept.os,hk.tape.trans h.kept.tape,hk.output.trans h.kept.output⟩,by rw[hw];exact h.le,by rw[hw];exact h.has,h.nd,by rw[hw];exact h.old⟩
theorem q6o{K K':KT}(hk:∀ v w,K v w->K' v w)(e:Ending)(w:World)(h:q5B K e w):q5B K' e w:=by
 unfold q5B at *
 split at h
 ·exact hk _ _ h
 ·exact h.elim
theorem qgs{P:Program}{g:FuncId}{args:List Value}{w:World}{K K':KT}(hk:∀ v w,K v w->K' v w)(h:qa P g args w K):qa P g args w K':=by
 unfold qa q3B at *
 exact Calls.mono h (q6o hk)
theorem YE{P:Program}{f:Value}{args:List Value}{w:World}{K K':KT}(hk:∀ v w,K v w->K' v w)(h:Zw P f args w K):Zw P f args w K':=by
 unfold Zw at *
 split at h
 ·split at h
  ·exact qgs hk h
  ·exact h.elim
 ·obtain⟨fn,tmps,assign,body,h1,h2⟩:=h
  exact⟨fn,tmps,assign,body,h1,RoundIn.mono h2 (q6o hk)⟩
 ·exact h.elim
end Go.Fx
namespace Go.Fx
open Go
variable {P:Program} {w0 w:World}
def zC(size:Nat)(e:TypeId)(ov:Value)(n:Nat)(xs:List Value)(L:qP):Prop:=
 xs.length=n*size/\((ov=.slice none 0 0/\n=0/\L=[])\/
  ∃ g cap cur,ov=.slice (some ⟨g,0,none⟩) n cap/\L=[(g,Cs cur e)]/\n<=cap/\cap<=maxLen/\cur.length=cap*size/\cur.take (n*size)=xs)
def zr(w0:World)(L:qP):Prop:=∀ x∈L,w0.heap.size<=x.1
theorem vI(L H:qP)(k:Nat):(L++H)[L.length+k]?=H[k]?:=by
 rw[List.getElem?_append_right om];congr 1;omega
theorem jy(L H:qP)(k:Nat)(x:Nat × Obj):(L++H).set (L.length+k) x=L++H.set k x:=by
 rw[List.set_append_right _ _ om];congr 2;omega
theorem zC.form{size:Nat}{e:TypeId}{ov:Value}{n:Nat}{xs:List Value}{L:qP}(h:zC size e ov n xs L):∃ a c,ov=.slice a n c:=by
 rcases h.2 with⟨h1,h2,_⟩ | ⟨g,cap,cur,h1,_⟩
 ·exact⟨_,_,by rw[h1,h2]⟩
 ·exact⟨_,_,h1⟩
theorem zC.nil(size:Nat)(e:TypeId):zC size e (.slice none 0 0) 0 [] []:=⟨by simp,.inl ⟨rfl,rfl,rfl⟩⟩
theorem zr.nil(w0:World):zr w0 []:=by simp[zr]
theorem St.append(t ty e:TypeId)(i:TypeInfo)(z:Value)(size bytes:Nat)(ht:P.underlying t=some (.slice e))(hi:P.info? e=some i)(hz:i.zero=some z)
  (hsize:i.size=size) (hby:i.bytes=bytes) (hzs:z.cells.size=size) (hsz:0<size)
  {A L H:qP} {ov:Value} {n:Nat} {xs:List Value} (h:St w0 w (A++(L++H))) (hL:zC size e ov n xs L) (hLn:zr w0 L)
  {j nb:Nat} {t2:TypeId} {news:List Value} (hj:A[j]?=some (nb,Cs news t2)) (hl:news.length=size) (h1:∀ u∈news,u.oneCell'=true)
  (h63:n+1<=maxLen) (hbytes:(n+1)*bytes<=140737488355328) :
  ∃ g cap w' L',(Builtin.append_ #[t,t] ty [ov,.slice (some ⟨nb,0,none⟩) 1 1].toArray).run P w=.ok (.slice (some ⟨g,0,none⟩) (n+1) cap) w'/\
   zC size e (.slice (some ⟨g,0,none⟩) (n+1) cap) (n+1) (xs++news) L'/\St w0 w' (A++(L'++H))/\zr w0 L':=by
 have hown:w.ownsRow 0 e size ov n xs:=by
  refine⟨hL.1,?_⟩
  rcases hL.2 with⟨h1,h2,_⟩ | ⟨g,cap,cur,h1,h2,h3,h4,h5,h6⟩
  ·exact .inl ⟨h1,h2⟩
  ·exact .inr ⟨g,cap,cur.toArray,h1,Nat.zero_le _,h.has g (Cs cur e) (by simp[h2]),h3,h4,by simpa using h5,by simpa using h6⟩
 have hnb:w.heap[nb]?=some (Cs news t2):=h.has _ _ (List.mem_append_left _ (List.mem_of_getElem? hj))
 obtain⟨v',w',hr,ho,hgr,_,hblk⟩:=run_append_own_at (P:=P) w 0 t ty e i z size bytes ht hi hz hsize hby hzs hsz ov n xs hown ⟨nb,0,none⟩ 1 1 news (by simpa using hl)
  (fun j u hu=>by rw[qc,qv hnb];simpa using hu) h1 h63 hbytes (Nat.zero_le _)
 rcases ho.2 with⟨_,h0⟩ | ⟨g,cap,cur,rfl,_,hg,hnc,hcm,hcs,htk⟩
 ·omega
 have hnd:=h.nd
 simp only[List.map_append]at hnd
 have hgsz:=hgr.size
 have hgold:=hgr.block
 have yy:∀ b o,(b,o)∈A\/(b,o)∈H->w'.heap[b]?=some o:=fun b o hb=>by
  have hmem:(b,o)∈A++(L++H):=by simp only[List.mem_append];rcases hb with hb | hb<;>simp[hb]
  rw[hgold b (h.lt hmem) ?_]
  ·exact h.has b o hmem
  ·rcases hL.2 with⟨h1,_,_⟩ | ⟨g0,cap0,cur0,h1,h2,_⟩
   ·rw[h1];simp[Value.ownBlock]
   ·rw[h1]
    simp only[Value.ownBlock,ne_eq,Option.some.injEq]
    rintro rfl
    rw[h2]at hnd
    have h3:=List.nodup_append.1 hnd
    rcases hb with hb | hb
    ·exact h3.2.2 b (List.mem_map.2 ⟨_,hb,rfl⟩) b (by simp) rfl
    ·have h4:=h3.2.1
     simp only[List.map_cons,List.map_nil,List.cons_append,List.nil_append,List.nodup_cons]at h4
     exact h4.1 (List.mem_map.2 ⟨_,hb,rfl⟩)
 have hAH:(A.map (·.1)++H.map (·.1)).Nodup:=by
  have h3:=List.nodup_append.1 hnd
  refine List.nodup_append.2 ⟨h3.1,(List.nodup_append.1 h3.2.1).2.1,fun a ha b hb=>h3.2.2 a ha b (by simp[hb])⟩
 have hgn:g ∉ A.map (·.1)/\g ∉ H.map (·.1)/\w0.heap.size<=g:=by
  rcases hblk with hb | hb
  ·rcases hL.2 with⟨h1,_,_⟩ | ⟨g0,cap0,cur0,h1,h2,_⟩
   ·rw[h1]at hb;simp[Value.ownBlock]at hb
   ·rw[h1]at hb
    simp only[Value.ownBlock,Option.some.injEq]at hb
    subst hb
    rw[h2]at hnd
    have h3:=List.nodup_append.1 hnd
    have h4:=h3.2.1
    simp only[List.map_cons,List.map_nil,List.cons_append,List.nil_append,List.nodup_cons]at h4
    refine⟨fun ha=>h3.2.2 g ha g (by simp) rfl,h4.1,?_⟩
    rw[h2]at hLn
    simpa using hLn (g,Cs cur0 e) (by simp)
  ·simp only[Value.ownBlock,Option.some.injEq]at hb
   subst hb
   refine⟨fun ha=>?_,fun ha=>?_,h.le⟩<;>obtain⟨⟨c,p⟩,hc,he⟩:=List.mem_map.1 ha<;>have:=h.lt (b:=c) (o:=p) (by simp[hc])<;>simp at he<;>omega
 refine⟨g,cap,w',[(g,Cs cur.toList e)],hr,⟨ho.1,.inr ⟨g,cap,cur.toList,rfl,rfl,hnc,hcm,by simpa using hcs,htk⟩⟩,⟨⟨hgr.os.trans h.kept.os,hgr.tape.trans h.kept.tape,hgr.output.trans h.kept.output⟩,Nat.le_trans h.le hgsz,fun b o hb=>?_,?_,fun b hb hn=>?_⟩,by simpa [zr]using hgn.2.2⟩
 ·simp only[List.mem_append,List.mem_singleton]at hb
  rcases hb with hb | hb | hb
  ·exact yy b o (.inl hb)
  ·cases hb;simpa [Cs]using hg
  ·exact yy b o (.inr hb)
 ·simp only[List.map_append,List.map_cons,List.map_nil]
  have h3:=List.nodup_append.1 hAH
  refine List.nodup_append.2 ⟨h3.1,?_,?_⟩
  ·simp only[List.cons_append,List.nil_append,List.nodup_cons];exact⟨hgn.2.1,h3.2.1⟩
  ·intro a ha b hb
   simp only[List.cons_append,List.nil_append,List.mem_cons]at hb
   rcases hb with rfl | hb
   ·rintro rfl;exact hgn.1 ha
   ·exact h3.2.2 a ha b hb
 ·simp only[List.map_append,List.map_cons,List.map_nil,List.mem_append,List.mem_singleton,not_or]at hn
  have hbL:b ∉ L.map (·.1):=fun hh=>by
   obtain⟨x,hx,rfl⟩:=List.mem_map.1 hh
   have:=hLn x hx
   omega
  rw[hgold b (Nat.lt_of_lt_of_le hb h.le) ?_]
  ·exact h.old b hb (by simp only[List.map_append,List.mem_append,not_or];exact⟨hn.1,hbL,hn.2.2⟩)
  ·rcases hL.2 with⟨h1,_,_⟩ | ⟨g0,cap0,cur0,h1,h2,_⟩
   ·rw[h1];simp[Value.ownBlock]
   ·rw[h1]
    simp only[Value.ownBlock,ne_eq,Option.some.injEq]
    rintro rfl
    exact hbL (by simp[h2])
end Go.Fx
namespace Go.Fx
open Go
variable {P:Program}
structure qfM (P:Program) (kt:TypeId) {K:Type} (enc:K->Value):Prop where
 check:∀ w em k,(Instr.checkKey em 10000 kt (enc k)).run P w=.ok () w
 find:∀ w k (es:List MapEntry),(∀ e∈es,∃ x,e.key=enc x)->
  ((Instr.findKey kt (enc k) es).run P w=.ok none w/\∀ e∈es,e.key≠enc k)\/∃ j e,(Instr.findKey kt (enc k) es).run P w=.ok (some (j,e.val)) w/\es[j]?=some e/\e.key=enc k
 stays:∀ w k,(Instr.keyThatStays (enc k) (enc k)).run P w=.ok (enc k) w
 inj:∀ {a b},enc a=enc b->a=b
variable {K:Type} [DecidableEq K] {enc:K->Value} {kt:TypeId}
structure MapIs (enc:K->Value) (es:Array MapEntry) (clk:Nat) (m:List (K × Value)):Prop where
 st:MapKept.Stamped es clk
 perm:(es.toList.map fun e=>(e.key,e.val)).Perm (m.map fun p=>(enc p.1,p.2))
def jK(m:List (K × Value))(k:K):Option Value:=(m.find? fun p=>p.1==k).map (·.2)
def q7I(m:List (K × Value))(k:K)(v:Value):List (K × Value):=match jK m k with
 | some _=>m.map fun p=>if p.1=k then(p.1,v)else p
 | none=>m++[(k,v)]
theorem q3z{m:List (K × Value)}{k:K}:jK m k=none↔∀ p∈m,p.1≠k:=by
 simp[jK]
theorem qhd{m:List (K × Value)}{k:K}{v:Value}(hn:(m.map (·.1)).Nodup):jK m k=some v↔(k,v)∈m:=by
 induction m with
 | nil=>simp[jK]
 | cons p r ih=>
  simp only[List.map_cons,List.nodup_cons]at hn
  simp only[jK,List.find?_cons]
  by_cases hp:p.1=k
  ·subst hp
   simp only[beq_self_eq_true,Option.map_some,Option.some.injEq,List.mem_cons]
   constructor
   ·rintro rfl;exact .inl rfl
   ·rintro(h | h)
    ·rw[<-h]
    ·exact absurd (List.mem_map.2 ⟨_,h,rfl⟩) hn.1
  ·have:(p.1==k)=false:=by simpa using hp
   rw[this]
   simp only[List.mem_cons]
   have ih:=ih hn.2
   unfold jK at ih
   rw[ih]
   constructor
   ·exact .inr
   ·rintro(h | h)
    ·exact absurd (by rw[<-h]) hp
    ·exact h
namespace MapIs
variable {es:Array MapEntry} {clk:Nat} {m:List (K × Value)}
theorem empty:MapIs enc #[] 0 ([]:List (K × Value)):=⟨MapKept.stamped_empty 0,by simp⟩
theorem keys(h:MapIs enc es clk m):∀ e∈es.toList,∃ x,e.key=enc x:=fun e he=>by
 have:(e.key,e.val)∈es.toList.map fun e=>(e.key,e.val):=List.mem_map.2 ⟨e,he,rfl⟩
 obtain⟨p,_,hp⟩:=List.mem_map.1 (h.perm.mem_iff.1 this)
 exact⟨p.1,(congrArg Prod.fst hp).symm⟩
theorem nodup(h:MapIs enc es clk m):(m.map (·.1)).Nodup:=by
 have h1:=h.st.2.2
 have h2:=h.perm.map Prod.fst
 rw[List.map_map,List.map_map]at h2
 have h3:(m.map (Prod.fst ∘ fun p=>(enc p.1,p.2))).Nodup:=h2.nodup_iff.1 h1
 have:m.map (Prod.fst ∘ fun p=>(enc p.1,p.2))=(m.map (·.1)).map enc:=by simp[Function.comp_def]
 rw[this]at h3
 exact List.Pairwise.of_map enc (fun a b hab e=>hab (by rw[e])) h3
theorem size(h:MapIs enc es clk m):es.size=m.length:=by
 have:=h.perm.length_eq
 simpa using this
theorem mem(h:MapIs enc es clk m)(kl:qfM P kt enc){e:MapEntry}(he:e∈es.toList){k:K}(hk:e.key=enc k):(k,e.val)∈m:=by
 have:(e.key,e.val)∈es.toList.map fun e=>(e.key,e.val):=List.mem_map.2 ⟨e,he,rfl⟩
 obtain⟨p,hp,hpe⟩:=List.mem_map.1 (h.perm.mem_iff.1 this)
 have h1:enc p.1=enc k:=(congrArg Prod.fst hpe).trans hk
 have h2:p.2=e.val:=congrArg Prod.snd hpe
 rw[<-kl.inj h1,<-h2]
 exact hp
theorem find(h:MapIs enc es clk m)(kl:qfM P kt enc)(w:World)(k:K) :
  (jK m k=none/\(Instr.findKey kt (enc k) es.toList).run P w=.ok none w/\∀ e∈es.toList,e.key≠enc k)\/
  ∃ v j e,jK m k=some v/\(Instr.findKey kt (enc k) es.toList).run P w=.ok (some (j,v)) w/\es[j]?=some e/\e.key=enc k/\e.val=v:=by
 rcases kl.find w k es.toList h.keys with⟨h1,h2⟩ | ⟨j,e,h1,h2,h3⟩
 ·refine .inl ⟨q3z.2 fun p hp e=>?_,h1,h2⟩
  have:(enc p.1,p.2)∈es.toList.map fun e=>(e.key,e.val):=h.perm.mem_iff.2 (List.mem_map.2 ⟨p,hp,rfl⟩)
  obtain⟨x,hx,he⟩:=List.mem_map.1 this
  exact h2 x hx ((congrArg Prod.fst he).trans (by rw[e]))
 ·refine .inr ⟨e.val,j,e,(qhd h.nodup).2 (h.mem kl (List.mem_of_getElem? h2) h3),h1,by simpa using h2,h3,rfl⟩
theorem lookup(h:MapIs enc es clk m)(kl:qfM P kt enc){T et:TypeId}(hT:P.underlying T=some (.map kt et)){z:Value}(hz:∀ w,(zeroValue et).run P w=.ok z w)
  {w:World} {b:Nat} (hb:w.heap[b]?=some (.map es clk)) (k:K) (ok:Bool) :
  (Instr.lookup T (.map (some b)) (enc k) ok).run P w=.ok (if ok then .tuple #[(jK m k).getD z,.bool (jK m k).isSome]else(jK m k).getD z) w:=by
 unfold Instr.lookup
 simp only[Sem.run_bind,run_underlying hT,Result.andThen_ok,MapKept.run_getObj_map hb,Sem.run_pure,kl.check]
 rcases h.find kl w k with⟨h1,h2,_⟩ | ⟨v,j,e,h1,h2,_⟩
 ·rw[h2,h1]
  simp only[Result.andThen_ok,Sem.run_bind,hz,Sem.run_pure]
  cases ok<;>simp
 ·rw[h2,h1]
  simp only[Result.andThen_ok,Sem.run_bind,Sem.run_pure]
  cases ok<;>simp
open Classical in
theorem update(h:MapIs enc es clk m)(kl:qfM P kt enc){T et:TypeId}(hT:P.underlying T=some (.map kt et)){w:World}{b:Nat}(hb:w.heap[b]?=some (.map es clk))(k:K)(v:Value) :
  ∃ es' clk',(Instr.mapUpdate T (.map (some b)) (enc k) v).run P w=.ok () (w.putObj b (.map es' clk'))/\MapIs enc es' clk' (q7I m k v):=by
 unfold Instr.mapUpdate
 simp only[Sem.run_bind,run_underlying hT,Result.andThen_ok,MapKept.run_getObj_map hb,kl.check]
 rcases h.find kl w k with⟨h1,h2,h3⟩ | ⟨v0,j,e,h1,h2,h3,h4,h5⟩
 ·refine⟨es.push { key:=enc k,val:=v,born:=clk },clk+1,?_,MapKept.stamped_push h.st h3,?_⟩
  ·rw[h2]
   simp only[Result.andThen_ok,MapKept.run_setObj_map _ hb]
   rfl
  ·unfold q7I
   rw[h1]
   simp only[Array.toList_push,List.map_append,List.map_cons,List.map_nil]
   exact h.perm.append_right _
 ·refine⟨es.modify j fun e=>{ e with key:=enc k,val:=v },clk,?_,MapKept.stamped_modify h.st j _ (fun _ _=>rfl) (fun x _ hx=>?_),?_⟩
  ·rw[h2]
   simp only[Result.andThen_ok,Sem.run_bind,h3,Option.map_some,Option.getD_some,h4,kl.stays,MapKept.run_setObj_map _ hb]
   rfl
  ·rw[h3]at hx;cases hx;exact h4.symm
  ·unfold q7I
   rw[h1]
   have e1:(es.modify j fun e=>{ e with key:=enc k,val:=v }).toList.map (fun e=>(e.key,e.val)) =
     (es.toList.map fun e=>(e.key,e.val)).map fun q=>if q.1=enc k then(q.1,v)else q:=by
    apply List.ext_getElem?
    intro i
    simp only[List.getElem?_map,Array.getElem?_toList,Array.getElem?_modify]
    by_cases hij:j=i
    ·subst hij
     simp[h3,h4]
    ·simp only[hij,if_false]
     cases hx:es[i]? with
     | none=>rfl
     | some x=>
      have hne:x.key≠enc k:=fun hk=>hij (q1u h.st.2.2 (x:=enc k) (by simp[h3,h4]) (by simp[hx,hk]))
      simp[hne]
   have e2:(m.map fun p=>if p.1=k then(p.1,v)else p).map (fun p=>(enc p.1,p.2)) =
     (m.map fun p=>(enc p.1,p.2)).map fun q=>if q.1=enc k then(q.1,v)else q:=by
    rw[List.map_map,List.map_map]
    apply List.map_congr_left
    intro p _
    simp only[Function.comp_def]
    by_cases hp:p.1=k
    ·subst hp;simp
    ·have:enc p.1≠enc k:=fun e=>hp (kl.inj e)
     simp[hp,this]
   simp only[e1,e2]
   exact h.perm.map _
theorem len(h:MapIs enc es clk m){w:World}{b:Nat}(hb:w.heap[b]?=some (.map es clk)){T et:TypeId}(hT:P.underlying T=some (.map kt et))(t:TypeId) :
  (Builtin.len_ #[T] t [Value.map (some b)].toArray).run P w=.ok (.int .i64 m.length) w:=by
 simp[Builtin.len_,MapKept.run_getObj_map hb,h.size,goInt,run_underlying hT]
end MapIs
theorem qZ{w:World}(p:Option Addr)(l c:Nat){T et:TypeId}(hT:P.underlying T=some (.slice et))(t:TypeId):(Builtin.len_ #[T] t [Value.slice p l c].toArray).run P w=.ok (.int .i64 l) w:=by
 simp[Builtin.len_,goInt,run_underlying hT]
theorem qx7{k:IntKind}(hkt:P.underlying kt=some (.int k)):qfM P kt (fun x:Int=>Value.int k x) where
 check w em x:=MapKept.run_checkKey hkt (d:=.int k) (by simp[MapKept.IsKey]) em 9999
 find w x es hes:=by
  rcases MapKept.findNow_spec (d:=.int k) (k:=.int k x) (by simp[MapKept.IsKey]) es 0 (fun e he=>by obtain⟨y,hy⟩:=hes e he;rw[hy];simp[MapKept.IsKey])with⟨h1,h2⟩ | ⟨j,e,h1,h2,h3⟩
  ·exact .inl ⟨MapKept.run_findKey hkt h1,h2⟩
  ·exact .inr ⟨j,e,MapKept.run_findKey hkt (by rw[h1];simp),h2,h3⟩
 stays w x:=by simp[Instr.keyThatStays,Instr.sameBits]
 inj h:=by simpa using h
end Go.Fx
namespace Go.Fx.Mo
structure Qk where
 ev:Int
 th:Int
 pc:Int
 st:Bool
 at':Bool
 deriving DecidableEq,Inhabited
structure Ev where
 kind:Int
 th:Int
 pc:Int
 a:Int
 b:Int
 n:Int
 deriving DecidableEq,Inhabited
structure qQ where
 byte:Int
 first:Qk
 second:Qk
 deriving DecidableEq,Inhabited
structure vH where
 kind:Int
 th:Int
 other:Int
 obj:Int
 deriving DecidableEq,Inhabited
abbrev vj:=List Int
abbrev Ob:=Bool × Int
def yk(x:Int):Int:=IntKind.wrap .i64 x
def jE(x:Int):Int:=IntKind.wrap .u32 x
section assoc
variable {K V:Type} [DecidableEq K]
def qr(m:List (K × V))(k:K):Option V:=(m.find? fun p=>p.1==k).map (·.2)
def put(m:List (K × V))(k:K)(v:V):List (K × V):=match qr m k with
 | some _=>m.map fun p=>if p.1=k then(p.1,v)else p
 | none=>m++[(k,v)]
def zf(m:List (K × V)):List (K × V)->List (K × V)
 | []=>m
 | p::r=>zf (put m p.1 p.2) r
end assoc
def zE(a b:Qk):Bool:=a.th != b.th&&(a.st||b.st)&&!(a.at'&&b.at')
def kind(a:Qk):Int:=if a.at' then 2 else if a.st then 1 else 0
def zl(e:Ev):Bool × Bool × Bool:=
 if e.kind=2\/e.kind=23 then(false,false,true)else if e.kind=3\/e.kind=22 then(true,false,true)else if e.kind=4 then(true,true,true)else(false,false,false)
def zk(c d:vj):vj:=List.zipWith (fun x y=>if y > x then y else x) c d
def qW:vj:=List.replicate 8 0
def bytes(a n:Int):List Int:=(List.range n.toNat).map fun i:Nat=>jE (a+jE (i:Int))
structure Th where
 clocks:List vj
 begun:List Bool
 ended:List Bool
 rels:List Int
 objs:List (Ob × vj)
 names:List (Ob × Int)
 deriving DecidableEq,Inhabited
def zi:Th:={ clocks:=List.replicate 8 qW,begun:=true::List.replicate 7 false,ended:=List.replicate 8 false,rels:=List.replicate 8 0,objs:=[],names:=[] }
structure Pl where
 orders:List vH
 own:vj
 tk:Int
 objs:List (Ob × vj)
 names:List (Ob × Int)
 fork:Int
 ends:Int
 rel:Bool
 bad:Bool
 deriving DecidableEq,Inhabited
def zo(l:List Int)(i:Int):Int:=l.getD i.toNat 0
def tick(e:Ev)(p:Pl)(o:vH):Pl:=
 let own:=p.own.set e.th.toNat (yk (zo p.own e.th+1))
 { p with orders:=p.orders++[{ o with th:=e.th }],own,tk:=if p.tk=0 then zo own e.th else p.tk }
def number(T:Th)(p:Pl)(x:Ob):Int × Pl:=match qr T.names x with
 | some n=>(n,p)
 | none=>match qr p.names x with
  | some n=>(n,p)
  | none=>
   let n:=yk (T.names.length+p.names.length)
   (n,{ p with names:=put p.names x n,bad:=p.bad||decide (n>=65536) })
def qL(T:Th)(p:Pl)(x:Ob):vj:=match qr p.objs x with
 | some c=>c
 | none=>(qr T.objs x).getD qW
def acquire(T:Th)(p:Pl)(x:Ob):Pl:={ p with own:=zk p.own (qL T p x) }
def release(T:Th)(p:Pl)(x:Ob):Pl:={ p with objs:=put p.objs x (zk (qL T p x) p.own),rel:=true }
def step(e:Ev)(p:Pl):Pl:=tick e p ⟨1,0,0,0⟩
def Ja(T:Th)(e:Ev)(x:Ob)(p:Pl):Pl:=
 let (n,p):=number T p x
 release T (tick e (acquire T p x) ⟨4,0,0,n⟩) x
def atomicL(T:Th)(e:Ev):List Int->Ob->Pl->Pl
 | [],_,p=>p
 | a::r,last,p=>
  let x:Ob:=(true,jE (a.tdiv 4))
  if x=last then atomicL T e r last p else atomicL T e r x (Ja T e x p)
def q5e(T:Th)(e:Ev)(p:Pl):Pl:=atomicL T e (bytes e.a e.n) (false,0) p
def zb(l:List Bool)(i:Int):Bool:=l.getD i.toNat false
def getC(l:List vj)(i:Int):vj:=l.getD i.toNat qW
def zx(e:Ev):Bool:=decide (e.n>=0)&&decide (e.n<8)
def jk(T:Th)(e:Ev)(p:Pl):Pl:=
 if !zx e||zb T.begun e.n then { p with bad:=true }else
 { tick e p ⟨5,0,e.n,0⟩with fork:=e.n,rel:=true }
def join(T:Th)(e:Ev)(p:Pl):Pl:=
 if !zx e||!zb T.begun e.n||zb T.ended e.n||e.n==e.th then { p with bad:=true }else
 { tick e { p with own:=zk p.own (getC T.clocks e.n) } ⟨6,0,e.n,0⟩with ends:=e.n }
def qzK(T:Th)(e:Ev)(p:Pl):Pl:=
 let x:Ob:=(false,e.a)
 let (n,p):=number T p x
 tick e (acquire T p x) ⟨3,0,0,n⟩
def q7p(T:Th)(e:Ev)(p:Pl):Pl:=
 let x:Ob:=(false,e.a)
 let (n,p):=number T p x
 release T (tick e p ⟨2,0,0,n⟩) x
def act(T:Th)(e:Ev)(p:Pl):Pl:=
 if e.kind=4 then q5e T e p else if e.kind=11 then jk T e p else if e.kind=13 then join T e p else if e.kind=14 then qzK T e p else if e.kind=15 then q7p T e p else step e p
def zw(T:Th)(e:Ev):Bool:=
 decide (e.kind<1)||decide (e.kind > 24)||decide (e.th<0)||decide (e.th>=8)||!zb T.begun e.th||zb T.ended e.th ||
 (zl e).2.2&&(decide (e.n<0)||decide (e.n > 65536))||(zl e).2.1&&(decide (e.n<1)||decide (e.n > 16))
def yL(T:Th)(e:Ev):Pl:={ orders:=[],own:=getC T.clocks e.th,tk:=0,objs:=[],names:=[],fork:=-1,ends:=-1,rel:=false,bad:=false }
def plan(T:Th)(e:Ev):Option Pl:=
 if zw T e then none else if(act T e (yL T e)).bad then none else some (act T e (yL T e))
def qG(T:Th)(e:Ev)(p:Pl):Th:=
 let T:={ T with clocks:=T.clocks.set e.th.toNat p.own,objs:=zf T.objs p.objs,names:=zf T.names p.names }
 let T:=if p.fork>=0 then { T with begun:=T.begun.set p.fork.toNat true,clocks:=T.clocks.set p.fork.toNat (zk (getC T.clocks p.fork) p.own) }else T
 let T:=if p.ends>=0 then { T with ended:=T.ended.set p.ends.toNat true }else T
 if p.rel then { T with rels:=T.rels.set e.th.toNat (yk (zo T.rels e.th+1)) }else T
structure q2D where
 acc:Qk
 tick:Int
 deriving DecidableEq,Inhabited
structure vl where
 l:List q2D
 last:List Int
 deriving DecidableEq,Inhabited
def yI:vl:=⟨[],List.replicate 24 0⟩
def vl.race(c:vl)(a:Qk)(own:vj):Option Qk:=(c.l.find? fun p=>zE p.acc a&&decide (zo own p.acc.th<p.tick)).map (·.acc)
def vl.remember(c:vl)(a:Qk)(tick rel:Int):vl:=
 let i:=a.th.toNat*3+(kind a).toNat
 if c.last.getD i 0=yk (rel+1)then c else { l:=c.l++[⟨a,tick⟩],last:=c.last.set i (yk (rel+1)) }
structure VO where
 th:Th
 many:Int
 cells:List (Int × vl)
 told:List (Int × Bool)
 deriving DecidableEq,Inhabited
def Za:VO:=⟨zi,0,[],[]⟩
def jq(d:VO)(a:Qk)(own:vj):List Int->List qQ->Int->Option (List qQ)
 | [],out,_=>some out
 | b::r,out,fresh=>match qr d.cells b with
  | none=>if yk (d.cells.length+yk (fresh+1)) > 20000 then none else jq d a own r out (yk (fresh+1))
  | some c=>if(qr d.told b).getD false then jq d a own r out fresh else
   match c.race a own with
   | some x=>jq d a own r (out++[⟨b,x,a⟩]) fresh
   | none=>jq d a own r out fresh
def yy(a:Qk)(tick rel:Int)(told:List (Int × Bool)):List Int->List (Int × vl)->List (Int × vl)
 | [],cs=>cs
 | b::r,cs=>
  let c:=(qr cs b).getD yI
  yy a tick rel told r (if(qr told b).getD false then(match qr cs b with
   | none=>put cs b yI
   | some _=>cs)else put cs b (c.remember a tick rel))
def yB:List qQ->List (Int × vl)->List (Int × Bool)->List (Int × vl) × List (Int × Bool)
 | [],cs,ts=>(cs,ts)
 | x::r,cs,ts=>yB r (put cs x.byte { (qr cs x.byte).getD yI with l:=[] }) (put ts x.byte true)
def jI(d:VO)(e:Ev):Qk:=⟨d.many,e.th,e.pc,(zl e).1,(zl e).2.1⟩
def feed(d:VO)(e:Ev):VO × (List qQ ⊕ Int):=
 if d.many>=20000 then(d,.inr 2)else
 match plan d.th e with
 | none=>(d,.inr 300)
 | some p=>
  let a:=jI d e
  let bs:=if(zl e).2.2 then bytes e.a e.n else[]
  match jq d a p.own bs [] 0 with
  | none=>(d,.inr 2)
  | some out=>
   if yk (d.told.length+out.length) > 1000 then(d,.inr 2)else
   let cs:=yy a p.tk (zo d.th.rels e.th) d.told bs d.cells
   let (cs,ts):=yB out cs d.told
   ({ th:=qG d.th e p,many:=yk (d.many+1),cells:=cs,told:=ts },.inl out)
structure q5D where
 first:Int
 last:vj
 deriving DecidableEq,Inhabited
structure q1M where
 orders:List vH
 of:List Int
 events:List q5D
 deriving DecidableEq,Inhabited
def QQ:List Ev->Int->Th->q1M->Option q1M
 | [],_,_,h=>some h
 | e::r,i,T,h=>match plan T e with
  | none=>none
  | some p=>QQ r (i+1) (qG T e p) ⟨h.orders++p.orders,h.of++List.replicate p.orders.length i,h.events++[⟨p.tk,p.own⟩]⟩
def run(l:List Ev):q1M ⊕ Int:=if l.length > 20000 then .inr 2 else match QQ l 0 zi ⟨[],[],[]⟩with
 | some h=>.inl h
 | none=>.inr 300
def jH:List Ev->VO->List qQ->List qQ ⊕ Int
 | [],_,out=>.inl out
 | e::r,d,out=>match feed d e with
  | (_,.inr x)=>.inr x
  | (d,.inl x)=>jH r d (out++x)
def yE(a b:qQ):Bool:=decide (a.second.ev<b.second.ev)||a.second.ev==b.second.ev&&decide (a.byte<=b.byte)
def jM(l:List Ev):List qQ ⊕ Int:=match run l with
 | .inr x=>.inr x
 | .inl _=>match jH l Za []with
  | .inr x=>.inr x
  | .inl out=>.inl (out.mergeSort yE)
def ev(k t a n:Int):Ev:=⟨k,t,0,a,0,n⟩
end Go.Fx.Mo
namespace Go.Fx.Tryz
open Go Go.Fx Go.Fx.Mo
open Go.Proofs
set_option maxRecDepth 20000
def ym(x:Ob):Value:=.agg #[.bool x.1,.int .u32 x.2]
theorem qwA(w:World)(em:Bool)(a:Bool)(x:Int):(Instr.checkKey em 10000 147 (.agg #[.bool a,.int .u32 x])).run P w=.ok () w:=kr
theorem q2o : P.fieldsOf 117 = #[{ name := "word", type := 4, offset := 0, embedded := false, tag := "", pkgPath := "candling/race", byteOffset := 0 }, { name := "at", type := 43, offset := 1, embedded := false, tag := "", pkgPath := "candling/race", byteOffset := 4 }] := by kernel_rfl
theorem qEd(w:World)(a b:Bool)(x y:Int):(Op.equal 117 (.agg #[.bool a,.int .u32 x]) (.agg #[.bool b,.int .u32 y])).run P w=.ok (a==b&&x==y) w:=by
 unfold Op.equal
 have h4:∀ d,(Op.equalIn (d+1) 4 (.bool a) (.bool b)).run P w=.ok (a==b) w:=fun d=>by simp[Op.equalIn,run_underlying Tryz.underlying4]
 have h33:∀ d,(Op.equalIn (d+1) 43 (.int .u32 x) (.int .u32 y)).run P w=.ok (x==y) w:=fun d=>by simp[Op.equalIn,run_underlying Tryz.underlying43]
 have hm:∃ d,Op.maxDepth=d+2:=⟨_,rfl⟩
 obtain⟨d,hd⟩:=hm
 rw[hd,run_equalIn_struct w (d+1) 117 _ _ (by rw[q2o];exact Tryz.underlying117) Tryz.stoodInHeld117,q2o]
 have p0:∀ (a:Bool) (x:Int),(part 4 #[.bool a,.int .u32 x] 0).run P w=.ok (.bool a) w:=fun a x=>by kernel_rfl
 have p1:∀ (a:Bool) (x:Int),(part 43 #[.bool a,.int .u32 x] 1).run P w=.ok (.int .u32 x) w:=fun a x=>by kernel_rfl
 simp[Op.eqFields,p0,p1,h4,h33]
 by_cases hxy:x=y<;>cases a<;>cases b<;>simp[hxy]
theorem q3x{a b:Ob}(h:ym a=ym b):a=b:=by
 obtain⟨a1,a2⟩:=a
 obtain⟨b1,b2⟩:=b
 simpa [ym]using h
theorem qio(w:World)(k:Ob):∀ (es:List MapEntry) (i:Nat),(∀ e∈es,∃ x,e.key=ym x)->
  ((Instr.findAsking 117 (ym k) es i).run P w=.ok none w/\∀ e∈es,e.key≠ym k)\/∃ j e,(Instr.findAsking 117 (ym k) es i).run P w=.ok (some (i+j,e.val)) w/\es[j]?=some e/\e.key=ym k
 | [],i,_=>.inl ⟨by simp[Instr.findAsking],by simp⟩
 | e::es,i,h=>by
  obtain⟨x,hx⟩:=h e (.head _)
  have he:(Op.equal 117 (ym k) e.key).run P w=.ok (k.1==x.1&&k.2==x.2) w:=by rw[hx];exact qEd w k.1 x.1 k.2 x.2
  by_cases hk:k=x
  ·subst hk
   refine .inr ⟨0,e,?_,rfl,hx⟩
   simp[Instr.findAsking,he]
  ·have hb:(k.1==x.1&&k.2==x.2)=false:=by
    cases hb:(k.1==x.1&&k.2==x.2)
    ·rfl
    ·simp at hb;exact absurd (Prod.ext hb.1 hb.2) hk
   have hne:e.key≠ym k:=fun hh=>hk (q3x (hh.symm.trans hx))
   rw[hb]at he
   rcases qio w k es (i+1) (fun e he=>h e (.tail _ he))with⟨h1,h2⟩ | ⟨j,e',h1,h2,h3⟩
   ·refine .inl ⟨by simp[Instr.findAsking,he,h1],fun y hy=>?_⟩
    cases hy with
    | head=>exact hne
    | tail _ hy=>exact h2 y hy
   ·exact .inr ⟨j+1,e',by simp[Instr.findAsking,he,h1];omega,by simpa using h2,h3⟩
theorem qeN:qfM P 117 ym where
 check w em k:=qwA w em k.1 k.2
 find w k es hes:=by
  rw[run_findKey_eq w (by rw[Tryz.underlying117])]
  rcases qio w k es 0 hes with h | ⟨j,e,h1,h2,h3⟩
  ·exact .inl h
  ·exact .inr ⟨j,e,by simpa using h1,h2,h3⟩
 stays w k:=by
  obtain⟨a,x⟩:=k
  have:Instr.sameBits 10000 (ym (a,x)) (ym (a,x))=true:=by
   show Instr.sameBits (9999+1) (.agg #[.bool a,.int .u32 x]) (.agg #[.bool a,.int .u32 x])=true
   simp[Instr.sameBits]
  simp[Instr.keyThatStays,this]
 inj:=q3x
theorem qvu:qfM P 43 (fun x:Int=>Value.int .u32 x):=qx7 Tryz.underlying43
section
variable {K' V:Type} [DecidableEq K'] (f:V->Value)
abbrev yp(m:List (K' × V)):List (K' × Value):=m.map fun p=>(p.1,f p.2)
theorem Yd(m:List (K' × V))(k:K'):jK (yp f m) k=(Mo.qr m k).map f:=by
 induction m with
 | nil=>rfl
 | cons p r ih=>
  unfold jK Mo.qr at *
  simp only[yp,List.map_cons,List.find?_cons]
  cases p.1==k
  ·exact ih
  ·rfl
theorem Vk(m:List (K' × V))(k:K')(v:V):q7I (yp f m) k (f v)=yp f (Mo.put m k v):=by
 unfold q7I Mo.put
 rw[Yd]
 cases Mo.qr m k with
 | none=>simp[yp]
 | some u=>
  simp only[Option.map_some,yp,List.map_map]
  apply List.map_congr_left
  intro p _
  simp only[Function.comp_def]
  split<;>rfl
end
theorem qDY(w:World):(zeroValue 3).run P w=.ok (.int .i64 0) w:=Tryz.zeroValue3 w
theorem qDv(w:World):(zeroValue 27).run P w=.ok (.agg #[.int .i64 0,.int .i64 0,.int .i64 0,.int .i64 0,.int .i64 0,.int .i64 0,.int .i64 0,.int .i64 0]) w:=Tryz.zeroValue27 w
end Go.Fx.Tryz
namespace Go.Fx.Tryz
set_option maxRecDepth 100000
open Go Go.Fx Go.Proofs
def c72:=qx Tryz.f72
def qMs:=Tryz.f72.results.toList
abbrev qx2 K:=qH P qMs K
def f72 a b w K:=CS P c72 none [4] [4] (qx2 K) (zh 27 [(Value.agg a),(Value.agg b)]) w
def JT a w K:=SG c72 7 [4] [4] (qx2 K) 27 [(4,VB a)] w
theorem qn7:JT a w K=(K (Value.bool a) w):=kr
theorem qHd:f72 d e w K=(qt d 97 w (fun b n=>qt e 97 n (fun c a=>∃ f:Int,a.cell? ((Addr.mk b 0 none).add 1)=some (.int .i64 f)/\∃ g:Int,a.cell? ((Addr.mk c 0 none).add 1)=some (.int .i64 g)/\qC (f != g) (∃ h:Bool,a.cell? ((Addr.mk b 0 none).add 3)=some (.bool h)/\qC h (∃ i:Bool,a.cell? ((Addr.mk b 0 none).add 4)=some (.bool i)/\qC i (∃ j:Bool,a.cell? ((Addr.mk c 0 none).add 4)=some (.bool j)/\JT (!j) a K) (JT true a K)) (∃ k:Bool,a.cell? ((Addr.mk c 0 none).add 3)=some (.bool k)/\qC k (∃ l:Bool,a.cell? ((Addr.mk b 0 none).add 4)=some (.bool l)/\qC l (∃ m:Bool,a.cell? ((Addr.mk c 0 none).add 4)=some (.bool m)/\JT (!m) a K) (JT true a K)) (JT false a K))) (JT false a K)))):=kr
theorem qJB a b w K(h:f72 a b w K):qa P 72 [(Value.agg a),(Value.agg b)] w K:=zj c72 Tryz.func72 h
def c73:=qx Tryz.f73
def qLF:=Tryz.f73.results.toList
abbrev qz3 K:=qH P qLF K
def f73 a w K:=CS P c73 none [2] [2] (qz3 K) (zh 9 [(Value.agg a)]) w
def qze w K:=SG c73 7 [2] [2] (qz3 K) 9 [] w
theorem qml:qze w K=(K (Value.int .i64 0) w):=kr
theorem qFO:f73 b w K=(qt b 97 w (fun c a=>∃ d:Bool,a.cell? ((Addr.mk c 0 none).add 4)=some (.bool d)/\qC d (K (Value.int .i64 2) a) (∃ e:Bool,a.cell? ((Addr.mk c 0 none).add 3)=some (.bool e)/\qC e (K (Value.int .i64 1) a) (qze a K)))):=kr
theorem qJA a w K(h:f73 a w K):qa P 73 [(Value.agg a)] w K:=zj c73 Tryz.func73 h
def c36:=qx Tryz.f36
def qMq:=Tryz.f36.results.toList
abbrev qeh K:=qH P qMq K
def f36 a w K:=CS P c36 none [2,3,4] [2,3,4] (qeh K) (zh 15 [(Value.agg a)]) w
abbrev qGc K:=kq c36 3 [2,3,4] [2,3,4] (qeh K)
abbrev qts K:=qq 0 (qGc K)
def qeA a b w K:=SG c36 53 [] [2,3,4] (qts K) 15 [(7,VB a),(6,VI b)] w
def qe2 a b w K:=SG c36 215 [] [2,3,4] (qts K) 15 [(10,VB a),(6,VI b)] w
def qwx w K:=SG c36 7 [2,3,4] [2,3,4] (qeh K) 15 [] w
theorem qq1:qwx w K=(K (Value.tuple #[(Value.bool false),(Value.bool false),(Value.bool false)]) w):=kr
theorem qmp:qe2 a b w K=(qC a (K (Value.tuple #[(Value.bool true),(Value.bool false),(Value.bool true)]) w) (qC (b==4) (K (Value.tuple #[(Value.bool true),(Value.bool true),(Value.bool true)]) w) (qwx w K))):=kr
theorem qpX:qeA b a w K=(qC b (K (Value.tuple #[(Value.bool false),(Value.bool false),(Value.bool true)]) w) (qC (a==3) (qe2 true a w K) (qe2 (a==22) a w K))):=kr
theorem qHc:f36 c w K=(qt c 45 w (fun d b=>∃ a:Int,b.cell? (Addr.mk d 0 none)=some (.int .i64 a)/\qC (a==2) (qeA true a b K) (qeA (a==23) a b K))):=kr
theorem qJD a w K(h:f36 a w K):qa P 36 [(Value.agg a)] w K:=zj c36 Tryz.func36 h
def c37:=qx Tryz.f37
def qLx:=Tryz.f37.results.toList
abbrev qEz K:=qH P qLx K
def f37 a b w K:=CS P c37 none [4] [4] (qEz K) (zh 6 [(Value.int .u32 a),(VI b)]) w
theorem qxL:f37 a b w K=(qt #[(Value.int .u32 a)] 43 w (fun c d=>qt #[(Value.int .i64 b)] 3 d (fun e f=>K (Value.func (.func 71) #[] #[(Value.pointer (some (Addr.mk e 0 none))),(Value.pointer (some (Addr.mk c 0 none)))]) f))):=kr
theorem qyK a b w K(h:f37 a b w K):qa P 37 [(Value.int .u32 a),(Value.int .i64 b)] w K:=zj c37 Tryz.func37 h
def c71:=qx Tryz.f71
def qLZ:=Tryz.f71.results.toList
abbrev qvD K:=qH P qLZ K
def f71 a b c w K:=CS P c71 none [] [] (qvD K) (zh 17 [a,(VP (some b)),(VP (some c))]) w
abbrev qz6 K:=qq 0 (qvD K)
def qBA K Y0 e w:=zJ (fun e w=>CS P (cA c71 12) none [6,2,0,5] [] (qw [6,2,0,5] Y0 (qz6 K)) e w) e w
abbrev q8B K Y0:=qw [6,2,0,5] Y0 (qz6 K)
def qik a b c d w K Y0:=SG c71 12 [6,2,0,5] [] (q8B K Y0) 17 [(6,VI a),(2,VQ b),(0,c),(5,VI d)] w
def quy a b c d w K Y0:=SG c71 51 [6,2,0,5] [] (q8B K Y0) 17 [(2,VQ a),(0,b),(5,VI c),(6,VI d)] w
def qsd a b c d w K Y0:=SG c71 103 [6,2,0,5] [] (q8B K Y0) 17 [(2,VQ a),(0,b),(5,VI c),(6,VI d)] w
theorem qon:qsd a b c d w K Y0=(Y0 (ql.mk 17 [(6,(Value.int .i64 (IntKind.wrap .i64 (d+1)))),(2,(Value.pointer (some a))),(0,b),(5,(Value.int .i64 c))] []) w):=kr
theorem qlF:quy a b d c w K Y0=(∃ e:Int,w.cell? a=some (.int .u32 e)/\Zw P b [(Value.int .u32 (IntKind.wrap .u32 (e+(IntKind.wrap .u32 c))))] w (fun h f=>∃ g:Bool,h=(.bool g)/\qC (!g) (K (Value.tuple #[]) f) (qsd a b d c f K Y0))):=kr
theorem qdc:qik a c d b w K Y0=(qC (decide (a<b)) (quy c d b a w K Y0) (K (Value.tuple #[]) w)):=kr
theorem qGd:f71 a b c w K=(∃ d:Int,w.cell? b=some (.int .i64 d)/\za (qBA K) (ql.mk 17 [(6,(Value.int .i64 0)),(2,(Value.pointer (some c))),(0,a),(5,(Value.int .i64 d))] []) w):=kr
theorem qH6 a b c w K(h:f71 a b c w K):qa P 71 [a,(Value.pointer (some b)),(Value.pointer (some c))] w K:=zj c71 Tryz.func71 h
def c74:=qx Tryz.f74
def qLc:=Tryz.f74.results.toList
abbrev qsa K:=qH P qLc K
def f74 a b w K:=CS P c74 none [] [] (qsa K) (zh 22 [(VP a),(Value.agg b)]) w
abbrev qqN K:=qq 0 (qsa K)
def qAW K Y0 e w:=zJ (fun e w=>CS P (cA c74 28) none [5,3,0] [] (qw [5,3,0] Y0 (qqN K)) e w) e w
abbrev q8G K Y0:=qw [5,3,0] Y0 (qqN K)
def qhS a b c w K Y0:=SG c74 28 [5,3,0] [] (q8G K Y0) 22 [(5,VI a),(3,VQ b),(0,VP c)] w
def qsZ a b c w K Y0:=SG c74 115 [5,3,0] [] (q8G K Y0) 22 [(3,VQ a),(0,VP b),(5,VI c)] w
def qrR a b c w K Y0:=SG c74 231 [5,3,0] [] (q8G K Y0) 22 [(3,VQ a),(0,VP b),(5,VI c)] w
theorem qly:qrR a b c w K Y0=(Y0 (ql.mk 22 [(5,(Value.int .i64 (IntKind.wrap .i64 (c+1)))),(3,(Value.pointer (some a))),(0,(Value.pointer b))] []) w):=kr
theorem qqh:qsZ c b a w K Y0=(qi b (fun h=>0<=a/\a<(8:Nat)/\0<=a/\a<(8:Nat)/\qi b (fun i=>∃ d:Int,w.drew.cell? (h.add (Int.toNat a*1))=some (.int .i64 d)/\∃ e:Int,w.drew.cell? (c.add (Int.toNat a*1))=some (.int .i64 e)/\∃ f:Int,∃ g:World,(Builtin.max_ #[3,3] 3 #[(Value.int .i64 d),(Value.int .i64 e)]).run P w.drew=.ok (.int .i64 f) g/\0<=a/\a<(8:Nat)/\zG (i.add (Int.toNat a*1)) (Value.int .i64 f) g (fun j=>qrR c b a j K Y0)))):=kr
theorem qht:qhS a b c w K Y0=(qC (decide (a<8)) (qsZ b c a w K Y0) (K (Value.tuple #[]) w)):=kr
theorem qFJ:f74 a b w K=(qt b 27 w (fun c d=>za (qAW K) (ql.mk 22 [(5,(Value.int .i64 0)),(3,(Value.pointer (some (Addr.mk c 0 none)))),(0,(Value.pointer a))] []) d)):=kr
theorem qJG a b w K(h:f74 a b w K):qa P 74 [(Value.pointer a),(Value.agg b)] w K:=zj c74 Tryz.func74 h
def qG8:=qx Tryz.f116
def qKK:=Tryz.f116.results.toList
abbrev qke K:=qH P qKK K
def f116 a w K:=CS P qG8 none [2,3] [2,3] (qke K) (zh 17 [(VP a)]) w
def q82 a b w K:=SG qG8 15 [2,3] [2,3] (qke K) 17 [(2,VI a),(3,VB b)] w
theorem qfN:q82 a b w K=(K (Value.tuple #[(Value.int .i64 a),(Value.bool b)]) w):=kr
theorem qAq:f116 b w K=(qi b (fun c=>∃ a:Int,w.cell? ((c.add 1).add 5)=some (.int .i64 a)/\qC (decide (a>=0)) (q82 a (decide (a<8)) w K) (q82 a false w K))):=kr
theorem qD8 a w K(h:f116 a w K):qa P 116 [(Value.pointer a)] w K:=zj qG8 Tryz.func116 h
end Go.Fx.Tryz
namespace Go.Fx.Tryz
open Go Go.Fx Go.Fx.Mo
variable {w0 w:World} {H:qP} {K:KT}
abbrev qj(x:Int):Value:=.int .i64 x
abbrev U32(x:Int):Value:=.int .u32 x
def qO(a:Qk):List Value:=[.int .i64 a.ev,.int .i64 a.th,.int .u32 a.pc,.bool a.st,.bool a.at']
def qE(e:Ev):List Value:=[qj e.kind,qj e.th,.int .u32 e.pc,.int .u32 e.a,.int .u32 e.b,qj e.n]
def zu(o:vH):List Value:=[qj o.kind,qj o.th,qj o.other,qj o.obj]
theorem qab(h:St w0 w H)(a b:Qk)(hK:∀ w',St w0 w' H->K (.bool (Mo.zE a b)) w'):qa P 72 [.agg (qO a).toArray,.agg (qO b).toArray] w K:=by
 refine qJB _ _ _ _ ?_
 rw[qHd]
 refine h.newC fun n2 w3 hn2 h3=>h3.newC fun n4 w5 hn4 h5=>?_
 have hk:=hK w5 ((h5.tail hn4).tail hn2)
 have r1:∀ i,w5.cell? (Addr.mk n2 i none)=(qO a)[i]?:=fun i=>h5.cell (k:=1) rfl
 have r0:∀ i,w5.cell? (Addr.mk n4 i none)=(qO b)[i]?:=fun i=>h5.cell (k:=0) rfl
 simp only[qc,r1,r0,qn7]
 obtain⟨ae,at_,ap,sa,aa⟩:=a
 obtain⟨be,bt,bp,bs,ba⟩:=b
 simp only[Mo.zE]at hk
 have e:(at_ != bt)=true\/(at_ != bt)=false:=by cases(at_ != bt)<;>simp
 rcases e with e | e<;>rw[e]at hk<;>cases sa<;>cases aa<;>cases bs<;>cases ba<;>simp[qO,e]at hk ⊢<;>exact hk
theorem qkV(h:St w0 w H)(a:Qk)(hK:∀ w',St w0 w' H->K (.int .i64 (kind a)) w'):qa P 73 [.agg (qO a).toArray] w K:=by
 refine qJA _ _ _ ?_
 rw[qFO]
 refine h.newC fun n2 w3 hn2 h3=>?_
 have hk:=hK w3 (h3.tail hn2)
 have r1:∀ i,w3.cell? (Addr.mk n2 i none)=(qO a)[i]?:=fun i=>h3.cell (k:=0) rfl
 simp only[qc,r1,qml]
 obtain⟨ae,at_,ap,sa,aa⟩:=a
 cases sa<;>cases aa<;>simpa [qO,kind]using hk
theorem q2s(h:St w0 w H)(e:Ev)(hK:∀ w',St w0 w' H->K (.tuple [.bool (zl e).1,.bool (zl e).2.1,.bool (zl e).2.2].toArray) w'):qa P 36 [.agg (qE e).toArray] w K:=by
 refine qJD _ _ _ ?_
 rw[qHc]
 refine h.newC fun n2 w3 hn2 h3=>?_
 have hk:=hK w3 (h3.tail hn2)
 have r1:∀ i,w3.cell? (Addr.mk n2 i none)=(qE e)[i]?:=fun i=>h3.cell (k:=0) rfl
 refine⟨e.kind,by rw[r1];rfl,?_⟩
 simp only[qpX,qmp,qq1,qg,beq_iff_eq,beq_eq_false_iff_ne]
 unfold zl at hk
 clear hK r1 h3
 generalize e.kind=k at *
 by_cases h2:k=2
 ·simp_all
 by_cases h23:k=23
 ·simp_all
 by_cases h3:k=3
 ·simp_all
 by_cases h22:k=22
 ·simp_all
 by_cases h4:k=4
 ·simp_all
 simp_all
theorem yo{c d:List Int}(hc:c.length=8)(hd:d.length=8):(zk c d).length=8:=by simp[zk,hc,hd]
theorem q3k(h:St w0 w H){k b o:Nat}{t:TypeId}{cs:List Value}{c d:List Int}(hk:H[k]?=some (b,Cs cs t))(hc:c.length=8)(hd:d.length=8)(ho:o+8<=cs.length)
  (hcs:(cs.drop o).take 8=c.map qj) (hK:∀ w',St w0 w' (H.set k (b,Cs (qI cs o ((zk c d).map qj)) t))->K (.tuple #[]) w') :
  qa P 74 [.pointer (some (Addr.mk b o none)),.agg (d.map qj).toArray] w K:=by
 refine qJG _ _ _ _ ?_
 rw[qFJ]
 refine h.newC fun n w1 hn h1=>?_
 refine⟨fun m e w=>∃ i:Nat,i<=8/\m=8-i/\e=ql.mk 22 [(5,(Value.int .i64 i)),(3,(Value.pointer (some (Addr.mk n 0 none)))),(0,(Value.pointer (some (Addr.mk b o none))))] []/\
  St w0 w ((n,Cs (d.map qj) 27)::H.set k (b,Cs (qI cs o (((zk c d).take i).map qj)) t)),⟨8,0,by omega,rfl,rfl,?_⟩,?_⟩
 ·have:H.set k (b,Cs cs t)=H:=by
   apply List.ext_getElem?
   intro j
   rw[List.getElem?_set]
   by_cases hkj:k=j
   ·subst hkj;obtain⟨h1,h2⟩:=List.getElem?_eq_some_iff.1 hk;simp[h1,h2]
   ·simp[hkj]
  simpa [qI,this]using h1
 ·rintro m e w ⟨i,hi,rfl,rfl,hs⟩
  show qhS ..
  rw[qht,qg]
  have hkl:k<H.length:=(List.getElem?_eq_some_iff.1 hk).1
  constructor
  ·intro hlt
   have hlt:i<8:=by simp at hlt;omega
   rw[qqh]
   have hcl:i<c.length:=by omega
   have hdl:i<d.length:=by omega
   have hjl:i<(zk c d).length:=by rw[yo hc hd];exact hlt
   have hd':=hs.drew
   have r1:∀ j,w.drew.cell? (Addr.mk n j none)=(d.map qj)[j]?:=fun j=>hd'.cell (k:=0) rfl
   have hget:((n,Cs (d.map qj) 27)::H.set k (b,Cs (qI cs o (((zk c d).take i).map qj)) t))[k+1]?=some (b,Cs (qI cs o (((zk c d).take i).map qj)) t):=by simp[hkl]
   have hlen:(((zk c d).take i).map qj).length=i:=by simp;omega
   have hci:cs[o+i]?=some (qj c[i]):=by
    have:=congrArg (fun l=>l[i]?) hcs
    simpa [List.getElem?_take,hlt,hcl]using this
   have r2:w.drew.cell? (Addr.mk b (o+i) none)=some (qj c[i]):=by
    rw[hd'.cell hget,qdP _ _ _ _ (by rw[hlen];omega),hci]
   simp only[qi,qc,Nat.mul_one,Nat.zero_add,Int.toNat_natCast]
   refine⟨by omega,by omega,by omega,by omega,c[i],r2,d[i],by rw[r1];simp[hdl],_,_,qAg _ _ _ _ _ _,by omega,by omega,?_⟩
   refine hd'.st1 hget (by rw[yC];omega) rfl fun w' hs'=>?_
   rw[qly]
   refine⟨8-(i+1),by omega,i+1,by omega,rfl,?_,?_⟩
   ·rw[qk om om];rfl
   ·have e1:(qI cs o (((zk c d).take i).map qj)).set (o+i) (qj (zk c d)[i])=qI cs o (((zk c d).take (i+1)).map qj):=by
     rw[YI _ hjl,List.map_append,List.map_singleton,q2h,hlen]
    have e2:(if d[i] > c[i]then d[i]else c[i])=(zk c d)[i]:=by simp[zk]
    rw[e2,e1]at hs'
    simpa using hs'
  ·intro hge
   have:i=8:=by simp at hge;omega
   subst this
   have e8:(zk c d).take 8=zk c d:=List.take_of_length_le (by rw[yo hc hd];omega)
   rw[e8]at hs
   exact hK _ (hs.tail hn)
theorem qhD{v0:Value}{a1 a2:Addr}{n at_:Int}(I:Nat->World->Prop)(Dn:World->Prop)(hn:w.cell? a1=some (qj n))(hn2:n<9223372036854775808)
  (hc:∀ i W,I i W->W.cell? a2=some (.int .u32 at_)) (h0:I 0 w)
  (hy:∀ i:Nat,(i:Int)<n->∀ W,I i W->Zw P v0 [.int .u32 (IntKind.wrap .u32 (at_+IntKind.wrap .u32 i))] W fun r W'=>∃ b,r=.bool b/\if b=true then I (i+1) W' else Dn W')
  (hK:∀ W,I n.toNat W\/Dn W->K (.tuple #[]) W):qa P 71 [v0,.pointer (some a1),.pointer (some a2)] w K:=by
 refine qH6 _ _ _ _ _ ?_
 rw[qGd]
 refine⟨n,hn,?_⟩
 refine⟨fun m e w=>∃ i:Nat,i<=n.toNat/\m=n.toNat-i/\e=ql.mk 17 [(6,(Value.int .i64 i)),(2,(Value.pointer (some a2))),(0,v0),(5,(Value.int .i64 n))] []/\I i w,
  ⟨n.toNat,0,by omega,by omega,rfl,h0⟩,?_⟩
 rintro m e w ⟨i,hi,rfl,rfl,hs⟩
 show qik ..
 rw[qdc,qg]
 constructor
 ·intro hlt
  have hlt:(i:Int)<n:=by simpa using hlt
  rw[qlF]
  refine⟨at_,hc i w hs,?_⟩
  refine YE ?_ (hy i hlt w hs)
  rintro r W' ⟨b,rfl,hb⟩
  refine⟨b,rfl,?_⟩
  cases b
  ·exact hK _ (.inr (by simpa using hb))
  ·rw[Bool.not_true,qd,qon]
   refine⟨n.toNat-(i+1),by omega,i+1,by omega,rfl,?_,by simpa using hb⟩
   rw[qk om om];rfl
 ·intro hge
  have:n<=i:=by simpa using hge
  have e:n.toNat=i:=by omega
  exact hK _ (.inl (by rw[e];exact hs))
theorem qLL:yc P 71=true:=kr
abbrev mk(l:Nat):Deferred:={ target:=.collected l,args:=#[] }
theorem VD{KK:Exit->YT}{e:ql}{n at_:Int}{round:Nat->(LoopState->Option Code->Loop)->(Option Code->World->Prop)->List Value->World->Prop}
  (h:St w0 w H) {b1 b2:Nat} {t1 t2:TypeId} (hk1:(b1,Cs [qj n] t1)∈H) (hn2:n<9223372036854775808)
  (I:Nat->List (Nat × Obj)->Prop) (J:Code->List (Nat × Obj)->Prop) (I0:I 0 H) (hI:∀ i H',I i H'->(b2,Cs [.int .u32 at_] t2)∈H')
  (hround:∀ l l' R post (i:Nat) W H',(i:Int)<n->I i H'->St w0 W ((l,.loop (R .ready none))::(l',.deferred (some []))::H')->w0.heap.size<=l->w0.heap.size<=l'->
   (∀ W' H'',I (i+1) H''->St w0 W' ((l,.loop (R .ready none))::(l',.deferred (some []))::H'')->post none W')->
   (∀ c W' H'',J c H''->St w0 W' ((l,.loop (R .done (some c)))::(l',.deferred (some []))::H'')->post (some c) W')->
   round l R post [.int .u32 (IntKind.wrap .u32 (at_+IntKind.wrap .u32 i))] W)
  (hend:∀ W H' l',w0.heap.size<=l'->I n.toNat H'->St w0 W ((l',.deferred (some []))::H')->KK .normal { e with d:=mk l'::e.d } W)
  (hexit:∀ c W H' l',w0.heap.size<=l'->J c H'->St w0 W ((l',.deferred (some []))::H')->qdy KK { e with d:=mk l'::e.d } W (some c)) :
  Vw P KK e w (.func (.func 71) #[] #[.pointer (some (Addr.mk b1 0 none)),.pointer (some (Addr.mk b2 0 none))]) round:=by
 refine⟨qLL,fun R hy=>?_⟩
 have h1:=(h.alloc (.deferred (some []))).alloc (.loop (R .ready none))
 have hsz:(w.alloc (.deferred (some []))).heap.size=w.heap.size+1:=by simp
 rw[hsz]at h1
 have hle:w0.heap.size<=w.heap.size:=h.le
 refine qhD (n:=n) (at_:=at_) (fun i W=>∃ H',I i H'/\St w0 W ((w.heap.size+1,.loop (R .ready none))::(w.heap.size,.deferred (some []))::H'))
  (fun W=>∃ c H',J c H'/\St w0 W ((w.heap.size+1,.loop (R .done (some c)))::(w.heap.size,.deferred (some []))::H')) ?_ hn2 ?_ ⟨H,I0,h1⟩ ?_ ?_
 ·rw[qv (h1.has _ _ (.tail _ (.tail _ hk1)))];rfl
 ·rintro i W ⟨H',hi,hs⟩
  rw[qv (hs.has _ _ (.tail _ (.tail _ (hI i H' hi))))];rfl
 ·rintro i hi W ⟨H',hIi,hs⟩
  refine YE ?_ (hy [.int .u32 (IntKind.wrap .u32 (at_+IntKind.wrap .u32 i))] W (fun j W'=>match j with
   | none=>∃ H'',I (i+1) H''/\St w0 W' ((w.heap.size+1,.loop (R .ready none))::(w.heap.size,.deferred (some []))::H'')
   | some c=>∃ H'',J c H''/\St w0 W' ((w.heap.size+1,.loop (R .done (some c)))::(w.heap.size,.deferred (some []))::H''))
   (hround _ _ R _ i W H' hi hIi hs om om (fun W' H'' h1 h2=>⟨H'',h1,h2⟩) (fun c W' H'' h1 h2=>⟨H'',h1,h2⟩)) (hs.get (k:=0) rfl))
  rintro v W' ⟨j,rfl,hj⟩
  cases j with
  | none=>exact⟨true,rfl,by simpa using hj⟩
  | some c=>exact⟨false,rfl,by simp;obtain⟨H'',h1,h2⟩:=hj;exact⟨c,H'',h1,h2⟩⟩
 ·rintro W (⟨H',hIi,hs⟩ | ⟨c,H',hJ,hs⟩)
  ·refine⟨.ready,none,hs.get (k:=0) rfl,by simp,?_⟩
   exact hend _ H' _ hle hIi ((hs.put (k:=0) rfl _).tail om)
  ·refine⟨.done,some c,hs.get (k:=0) rfl,by simp,?_⟩
   exact hexit c _ H' _ hle hJ ((hs.put (k:=0) rfl _).tail om)
end Go.Fx.Tryz
namespace Go.Fx.Tryz
set_option maxRecDepth 100000
open Go Go.Fx Go.Proofs
def c11:=qx Tryz.f11
def qLz:=Tryz.f11.results.toList
abbrev qIZ K:=qH P qLz K
def f11 w K:=CS P c11 none [0] [0] (qIZ K) (zh 6 []) w
theorem qIq:f11 w K=(qa P 47 [] w (fun c d=>∃ a:Array Value,c=(.agg a)/\q4L (.map #[] 0) d (fun e f=>q4L (.map #[] 0) f (fun g h=>∃ b:Array Value,(∀ wq,(Instr.build 37 #[(0,(Value.agg a)),(1,(Value.bool true)),(3,(Value.map (some e))),(4,(Value.map (some g)))]).run P wq=.ok (.agg b) wq)/\qt b 37 h (fun i j=>K (Value.pointer (some (Addr.mk i 0 none))) j))))):=kr
theorem qEP w K(h:f11 w K):qa P 11 [] w K:=zj c11 Tryz.func11 h
def c47:=qx Tryz.f47
def qMx:=Tryz.f47.results.toList
abbrev qEA K:=qH P qMx K
def f47 w K:=CS P c47 none [0] [0] (qEA K) (zh 8 []) w
theorem qJy:f47 w K=(qt (qn P 33) 33 w (fun b f=>q4L (.map #[] 0) f (fun g h=>q4L (.map #[] 0) h (fun i j=>∃ c:Array Value,(∀ wq,(Instr.build 33 #[(4,(Value.map (some g))),(5,(Value.map (some i)))]).run P wq=.ok (.agg c) wq)/\qt (qn P 33) 33 j (fun a k=>qN 90 (Addr.mk a 0 none) c k (fun l=>0<=(0:Int)/\(0:Int)<(8:Nat)/\zG (((Addr.mk a 0 none).add 64).add (Int.toNat 0*1)) (Value.bool true) l (fun d=>qf 90 (Addr.mk a 0 none) d (fun m=>qN 90 (Addr.mk b 0 none) m d (fun e=>qf 90 (Addr.mk b 0 none) e (fun n=>K (Value.agg n) e)))))))))):=kr
theorem qFE w K(h:f47 w K):qa P 47 [] w K:=zj c47 Tryz.func47 h
def qzX:=qx Tryz.f112
def qKU:=Tryz.f112.results.toList
abbrev q8h K:=qH P qKU K
def f112 a b w K:=CS P qzX none [] [] (q8h K) (zh 46 [(VP a),(Value.agg b)]) w
def q0v a b w K:=SG qzX 15 [] [] (q8h K) 46 [(3,VQ a),(0,VP b)] w
def qjm a b w K:=SG qzX 31 [] [] (q8h K) 46 [(3,VQ a),(0,VP b)] w
theorem qfB:qjm c a w K=(qi a (fun f=>∃ d:Int,w.cell? (f.add 16)=some (.int .i64 d)/\qC (d==0) (qi a (fun g=>∃ b:Int,w.drew.cell? (c.add 1)=some (.int .i64 b)/\0<=b/\b<(8:Nat)/\∃ e:Int,w.drew.cell? ((g.add 8).add (Int.toNat b*1))=some (.int .i64 e)/\qi a (fun h=>zG (h.add 16) (Value.int .i64 e) w.drew (fun i=>K (Value.tuple #[]) i)))) (K (Value.tuple #[]) w))):=kr
theorem qds:q0v c b w K=(qi b (fun e=>qi b (fun f=>∃ a:Int,w.drew.cell? (c.add 1)=some (.int .i64 a)/\0<=a/\a<(8:Nat)/\∃ d:Int,w.drew.cell? ((e.add 8).add (Int.toNat a*1))=some (.int .i64 d)/\0<=a/\a<(8:Nat)/\zG ((f.add 8).add (Int.toNat a*1)) (Value.int .i64 (IntKind.wrap .i64 (d+1))) w.drew (fun g=>qjm c b g K)))):=kr
theorem qC8:f112 a e w K=(qt e 72 w (fun b f=>qi a (fun z=>∃ g:Int,f.cell? ((z.add 1).add 1)=some (.int .i64 g)/\zG ((Addr.mk b 0 none).add 1) (Value.int .i64 g) f (fun c=>qi a (fun h=>qf 4 (Addr.mk b 0 none) c.drew (fun d=>(∃ (i:OA) (j k:Nat),c.drew.cell? (h.add 7)=some (.slice i j k)/\qJ 4 [(Value.agg d)]/\qt (([(Value.agg d)].map fun(v:Value)=>v.cells.toList).flatten.toArray) 72 c.drew (fun a0 b0=>∃ (l:OA) (m n:Nat),∃ o:World,(Builtin.append_ #[60,60] 60 #[(Value.slice i j k),(Value.slice (some (Addr.mk a0 0 none)) 1 1)]).run P b0=.ok (.slice l m n) o/\qi a (fun c0=>zG (c0.add 7) (Value.slice l m n) o (fun d0=>q0v (Addr.mk b 0 none) a d0 K))))/\(qJ 4 [(Value.agg d)]/\qt (([(Value.agg d)].map fun(v:Value)=>v.cells.toList).flatten.toArray) 72 c.drew (fun e0 p=>∃ (q:OA) (r s:Nat),p.cell? (h.add 7)=some (.slice q r s)/\∃ (t:OA) (u x:Nat),∃ y:World,(Builtin.append_ #[60,60] 60 #[(Value.slice q r s),(Value.slice (some (Addr.mk e0 0 none)) 1 1)]).run P p=.ok (.slice t u x) y/\qi a (fun f0=>zG (f0.add 7) (Value.slice t u x) y (fun g0=>q0v (Addr.mk b 0 none) a g0 K)))))))))):=kr
theorem qBx a b w K(h:f112 a b w K):qa P 112 [(Value.pointer a),(Value.agg b)] w K:=zj qzX Tryz.func112 h
def qpi:=qx Tryz.f113
def qKe:=Tryz.f113.results.toList
abbrev q2S K:=qH P qKe K
def f113 a b w K:=CS P qpi none [4] [4] (q2S K) (zh 66 [(VP a),(Value.agg b)]) w
def qjc a b w K:=SG qpi 7 [4] [4] (q2S K) 66 [(0,VP a),(3,VQ b)] w
abbrev qAY K:=kq qpi 15 [4] [4] (q2S K)
def qjg a b w K:=SG qpi 491 [7] [4] (qAY K) 66 [(7,VI a),(0,VP b)] w
def q2V a w K:=SG qpi 31 [4] [4] (q2S K) 66 [(7,VI a)] w
theorem q0n:q2V a w K=(K (Value.int .i64 a) w):=kr
theorem qeQ:qjg a b w K=(qi b (fun d=>∃ c:Bool,w.cell? (d.add 22)=some (.bool c)/\qC c (qi b (fun e=>zG (e.add 22) (Value.bool true) w (fun f=>q2V a f K))) (qi b (fun g=>zG (g.add 22) (Value.bool (decide (a>=65536))) w (fun h=>q2V a h K))))):=kr
theorem qgw:qjc a b w K=(qi a (fun m=>∃ e:Option Nat,w.drew.cell? (m.add 18)=some (.map e)/\qf 2 b w.drew (fun n=>∃ f:Int,∃ g:Bool,(∀ wq,zZ w.drew wq->(Instr.lookup 31 (Value.map e) (Value.agg n) true).run P wq=.ok (.tuple #[(Value.int .i64 f),(Value.bool g)]) wq)/\qC (!g) (qi a (fun o=>qi a (fun p=>∃ h:Option Addr,w.drew.drew.cell? o=some (.pointer h)/\qi h (fun q=>∃ i:Option Nat,w.drew.drew.cell? (q.add 89)=some (.map i)/\∃ c:Int,(∀ wq,zZ w.drew.drew wq->(Builtin.len_ #[31] 3 #[(Value.map i)]).run P wq=.ok (.int .i64 c) wq)/\∃ j:Option Nat,w.drew.drew.cell? (p.add 18)=some (.map j)/\∃ d:Int,(∀ wq,zZ w.drew.drew wq->(Builtin.len_ #[31] 3 #[(Value.map j)]).run P wq=.ok (.int .i64 d) wq)/\qi a (fun r=>∃ k:Option Nat,w.drew.drew.drew.cell? (r.add 18)=some (.map k)/\qf 2 b w.drew.drew.drew (fun s=>∃ l:World,(Instr.mapUpdate 31 (Value.map k) (Value.agg s) (Value.int .i64 (IntKind.wrap .i64 (c+d)))).run P w.drew.drew.drew=.ok () l/\qjg (IntKind.wrap .i64 (c+d)) a l K)))))) (q2V f w.drew K)))):=kr
theorem qCi:f113 b c w K=(qt c 117 w (fun d a=>qi b (fun i=>∃ e:Option Addr,a.drew.cell? i=some (.pointer e)/\qi e (fun j=>∃ f:Option Nat,a.drew.cell? (j.add 89)=some (.map f)/\qf 2 (Addr.mk d 0 none) a.drew (fun k=>∃ g:Int,∃ h:Bool,(∀ wq,zZ a.drew wq->(Instr.lookup 31 (Value.map f) (Value.agg k) true).run P wq=.ok (.tuple #[(Value.int .i64 g),(Value.bool h)]) wq)/\qC h (K (Value.int .i64 g) a.drew) (qjc b (Addr.mk d 0 none) a.drew K)))))):=kr
theorem qBU a b w K(h:f113 a b w K):qa P 113 [(Value.pointer a),(Value.agg b)] w K:=zj qpi Tryz.func113 h
def qCz:=qx Tryz.f114
def qKp:=Tryz.f114.results.toList
abbrev q8T K:=qH P qKp K
def f114 a b w K:=CS P qCz none [] [] (q8T K) (zh 31 [(VP a),(Value.agg b)]) w
def qjb a b c d w K:=SG qCz 7 [] [] (q8T K) 31 [(4,VQ a),(0,VP b),(3,VQ c),(5,VB d)] w
def q35 a b w K:=SG qCz 15 [] [] (q8T K) 31 [(4,VQ a),(0,VP b)] w
theorem qfu:q35 a b w K=(qi b (fun c=>qf 8 a w.drew (fun d=>qa P 74 [(Value.pointer (some (c.add 8))),(Value.agg d)] w.drew (fun e f=>e=(.tuple #[])/\K (Value.tuple #[]) f)))):=kr
theorem qdd:qjb a b c d w K=(qC (!d) (qi b (fun h=>∃ e:Option Addr,w.drew.cell? h=some (.pointer e)/\qi e (fun i=>∃ f:Option Nat,w.drew.cell? (i.add 88)=some (.map f)/\qf 2 c w.drew (fun j=>∃ g:Array Value,(∀ wq,zZ w.drew wq->(Instr.lookup 30 (Value.map f) (Value.agg j) false).run P wq=.ok (.agg g) wq)/\qN 8 a g w.drew (fun k=>q35 a b k K))))) (q35 a b w K)):=kr
theorem qBg:f114 b c w K=(qt c 117 w (fun d a=>qi b (fun i=>∃ e:Option Nat,a.drew.cell? (i.add 17)=some (.map e)/\qf 2 (Addr.mk d 0 none) a.drew (fun j=>∃ f:Array Value,∃ g:Bool,(∀ wq,zZ a.drew wq->(Instr.lookup 30 (Value.map e) (Value.agg j) true).run P wq=.ok (.tuple #[(Value.agg f),(Value.bool g)]) wq)/\qt (qn P 27) 27 a.drew (fun h k=>qN 8 (Addr.mk h 0 none) f k (fun l=>qjb (Addr.mk h 0 none) b (Addr.mk d 0 none) g l K)))))):=kr
theorem qAw a b w K(h:f114 a b w K):qa P 114 [(Value.pointer a),(Value.agg b)] w K:=zj qCz Tryz.func114 h
def qrY:=qx Tryz.f115
def qJJ:=Tryz.f115.results.toList
abbrev q2Y K:=qH P qJJ K
def f115 a b w K:=CS P qrY none [] [] (q2Y K) (zh 40 [(VP a),(Value.agg b)]) w
def qk8 a b c d w K:=SG qrY 7 [] [] (q2Y K) 40 [(0,VP a),(4,VQ b),(3,VQ c),(5,VB d)] w
def q3j a b c w K:=SG qrY 15 [] [] (q2Y K) 40 [(0,VP a),(4,VQ b),(3,VQ c)] w
def qjz a w K:=SG qrY 63 [] [] (q2Y K) 40 [(0,VP a)] w
theorem qel:qjz a w K=(qi a (fun b=>zG (b.add 21) (Value.bool true) w (fun c=>K (Value.tuple #[]) c))):=kr
theorem qez:q3j a c d w K=(qi a (fun g=>qf 8 (g.add 8) w (fun h=>qa P 74 [(Value.pointer (some c)),(Value.agg h)] w (fun i b=>i=(.tuple #[])/\qi a (fun j=>∃ e:Option Nat,b.drew.cell? (j.add 17)=some (.map e)/\qf 2 d b.drew (fun k=>qf 8 c b.drew (fun l=>∃ f:World,(Instr.mapUpdate 30 (Value.map e) (Value.agg k) (Value.agg l)).run P b.drew=.ok () f/\qjz a f K))))))):=kr
theorem qfx:qk8 a b c d w K=(qC (!d) (qi a (fun h=>∃ e:Option Addr,w.drew.cell? h=some (.pointer e)/\qi e (fun i=>∃ f:Option Nat,w.drew.cell? (i.add 88)=some (.map f)/\qf 2 c w.drew (fun j=>∃ g:Array Value,(∀ wq,zZ w.drew wq->(Instr.lookup 30 (Value.map f) (Value.agg j) false).run P wq=.ok (.agg g) wq)/\qN 8 b g w.drew (fun k=>q3j a b c k K))))) (q3j a b c w K)):=kr
theorem qBk:f115 b c w K=(qt c 117 w (fun d a=>qi b (fun i=>∃ e:Option Nat,a.drew.cell? (i.add 17)=some (.map e)/\qf 2 (Addr.mk d 0 none) a.drew (fun j=>∃ f:Array Value,∃ g:Bool,(∀ wq,zZ a.drew wq->(Instr.lookup 30 (Value.map e) (Value.agg j) true).run P wq=.ok (.tuple #[(Value.agg f),(Value.bool g)]) wq)/\qt (qn P 27) 27 a.drew (fun h k=>qN 8 (Addr.mk h 0 none) f k (fun l=>qk8 b (Addr.mk h 0 none) (Addr.mk d 0 none) g l K)))))):=kr
theorem qBT a b w K(h:f115 a b w K):qa P 115 [(Value.pointer a),(Value.agg b)] w K:=zj qrY Tryz.func115 h
def c92:=qx Tryz.f92
def qLo:=Tryz.f92.results.toList
abbrev qER K:=qH P qLo K
def f92 a w K:=CS P c92 none [] [] (qER K) (zh 5 [(VP a)]) w
theorem qFX:f92 a w K=(∃ b:Array Value,(∀ wq,(Instr.build 72 #[(0,(Value.int .i64 1))]).run P wq=.ok (.agg b) wq)/\qa P 112 [(Value.pointer a),(Value.agg b)] w (fun c d=>c=(.tuple #[])/\K (Value.tuple #[]) d)):=kr
theorem qIQ a w K(h:f92 a w K):qa P 92 [(Value.pointer a)] w K:=zj c92 Tryz.func92 h
def c93:=qx Tryz.f93
def qKS:=Tryz.f93.results.toList
abbrev qga K:=qH P qKS K
def f93 a w K:=CS P c93 none [] [] (qga K) (zh 39 [(VP a)]) w
def qsh a b c w K:=SG c93 15 [] [] (qga K) 39 [(17,a),(1,VQ b),(2,VQ c)] w
abbrev qz7 K:=qq 0 (qga K)
def qiS(a b:Addr)(l:Nat)(R:LoopState->Option Code->Loop)(post:Option Code->World->Prop)(args:List Value)(W:World):Prop:=args.length=1/\CS P (cA c93 60) (some l) [1,2,3] [] (VT P (cA c93 61) l R post) { zT (ql.mk 39 [(1,(VP (some a))),(2,(VP (some b)))] []) [18] args with d:=[] } W
abbrev qCG(l:Nat)(R:LoopState->Option Code->Loop)(post:Option Code->World->Prop):Exit->YT:=VT P (cA c93 61) l R post
def q92(a b:Addr)(c:Int)(w:World)(l:Nat)(R:LoopState->Option Code->Loop)(post:Option Code->World->Prop):Prop:=CS P (cA c93 60) (some l) [1,2,3] [] (qCG l R post) (ql.mk 39 [(18,(Value.int .u32 c)),(1,(VP (some a))),(2,(VP (some b)))] []) w
def qu3 a b c w l R post:=SG0 P (cA c93 61) (some l) [] [] (q7W l R post) (ql.mk 39 [(1,(VP (some a))),(2,(VP (some b))),(3,(Value.int .u32 c))] []) w
abbrev qIL l R post:=qq 1 (q7W l R post)
def qww a b c w l R post:=SG0 P (cA c93 491) (some l) [] [] (qIL l R post) (ql.mk 39 [(4,(VP (some a))),(1,(VP (some b))),(2,(VP (some c)))] []) w
theorem qlJ:qww a b f w l R post=(qf 2 a w (fun p=>qN 2 f p w (fun c=>∃ g:Option Addr,c.cell? b=some (.pointer g)/\qf 2 a c (fun q=>qa P 113 [(Value.pointer g),(Value.agg q)] c (fun r d=>∃ h:Int,r=(.int .i64 h)/\∃ i:Option Addr,d.cell? b=some (.pointer i)/\qf 2 a d (fun s=>qa P 114 [(Value.pointer i),(Value.agg s)] d (fun t j=>t=(.tuple #[])/\∃ k:Option Addr,j.cell? b=some (.pointer k)/\∃ m:Array Value,(∀ wq,(Instr.build 72 #[(0,(Value.int .i64 4)),(3,(Value.int .i64 h))]).run P wq=.ok (.agg m) wq)/\qa P 112 [(Value.pointer k),(Value.agg m)] j (fun u e=>u=(.tuple #[])/\∃ n:Option Addr,e.cell? b=some (.pointer n)/\qf 2 a e (fun v=>qa P 115 [(Value.pointer n),(Value.agg v)] e (fun x o=>x=(.tuple #[])/\o.heap[l]?=some (.loop (R .busy none))/\post none (o.putObj l (.loop (R .ready none))))))))))))):=kr
theorem qqv:qu3 d b e w l R post=((4:Int)≠0/\∃ f:Array Value,(∀ wq,(Instr.build 117 #[(0,(Value.bool true)),(1,(Value.int .u32 (IntKind.wrap .u32 (e.tdiv 4))))]).run P wq=.ok (.agg f) wq)/\qt (qn P 117) 117 w (fun c j=>qN 2 (Addr.mk c 0 none) f j (fun a=>qf 2 (Addr.mk c 0 none) a (fun g=>qf 2 b a (fun h=>∃ i:Bool,(∀ wq,(do eqGuard .eql 117 (.tmp 22) (.tmp 23) (Value.agg g) (Value.agg h);binOp .eql 117 (Value.agg g) (Value.agg h):Sem Value).run P wq=.ok (.bool i) wq)/\qC i (a.heap[l]?=some (.loop (R .busy none))/\post none (a.putObj l (.loop (R .ready none)))) (qww (Addr.mk c 0 none) d b a l R post)))))):=kr
theorem qe3:q92 a b c w l R post=(w.heap[l]?=some (.loop (R .ready none))/\qu3 a b c (w.putObj l (.loop (R .busy none))) l R post):=kr
theorem qdr:qiS b c l R post [(Value.int .u32 a)] w=([(Value.int .u32 a)].length=1/\q92 b c a w l R post):=kr
def qiw(a b:Addr)(d:List Deferred)(w:World)(K:KT):Prop:=(qz7 K) .normal (ql.mk 39 [(1,(VP (some a))),(2,(VP (some b)))] d) w
theorem qdp:qiw a b d w K=(jo P qKS (ql.mk 39 [(1,(Value.pointer (some a))),(2,(Value.pointer (some b)))] d) K d w):=kr
theorem qm4:qsh c a b w K=(Vw P (qz7 K) (ql.mk 39 [(1,(Value.pointer (some a))),(2,(Value.pointer (some b)))] []) w c (qiS a b)):=kr
theorem qJe:f93 c w K=(qt #[(Value.pointer c)] 91 w (fun b k=>∃ d:Array Value,(∀ wq,(Instr.build 117 #[]).run P wq=.ok (.agg d) wq)/\qt (qn P 117) 117 k (fun e l=>qN 2 (Addr.mk e 0 none) d l (fun a=>∃ f:Option Addr,a.drew.cell? (Addr.mk b 0 none)=some (.pointer f)/\qi f (fun m=>∃ g:Int,a.drew.cell? ((m.add 1).add 3)=some (.int .u32 g)/\∃ h:Option Addr,a.drew.cell? (Addr.mk b 0 none)=some (.pointer h)/\qi h (fun n=>∃ i:Int,a.drew.cell? ((n.add 1).add 5)=some (.int .i64 i)/\qa P 37 [(Value.int .u32 g),(Value.int .i64 i)] a.drew (fun o p=>∃ j:Value,o=j/\qsh j (Addr.mk b 0 none) (Addr.mk e 0 none) p K))))))):=kr
theorem qIM a w K(h:f93 a w K):qa P 93 [(Value.pointer a)] w K:=zj c93 Tryz.func93 h
def c94:=qx Tryz.f94
def qMo:=Tryz.f94.results.toList
abbrev qgZ K:=qH P qMo K
def f94 a w K:=CS P c94 none [] [] (qgZ K) (zh 36 [(VP a)]) w
abbrev qFS K:=kq c94 3 [] [] (qgZ K)
def q85 a b c w K:=SG c94 13 [2,0] [] (qFS K) 36 [(21,VB a),(0,VP b),(2,VI c)] w
def qyW a b w K:=SG c94 7 [] [] (qgZ K) 36 [(2,VI a),(0,VP b)] w
theorem qoF:qyW b a w K=(∃ c:Array Value,(∀ wq,(Instr.build 72 #[(0,(Value.int .i64 5)),(2,(Value.int .i64 b))]).run P wq=.ok (.agg c) wq)/\qa P 112 [(Value.pointer a),(Value.agg c)] w (fun d e=>d=(.tuple #[])/\qi a (fun f=>zG (f.add 19) (Value.int .i64 b) e (fun g=>qi a (fun h=>zG (h.add 21) (Value.bool true) g (fun i=>K (Value.tuple #[]) i)))))):=kr
theorem q6e:q85 b a c w K=(qC b (qi a (fun d=>zG (d.add 22) (Value.bool true) w (fun e=>K (Value.tuple #[]) e))) (qyW c a w K)):=kr
theorem qF8:f94 b w K=(qa P 116 [(Value.pointer b)] w (fun g c=>∃ a:Int,∃ d:Bool,g=(.tuple #[(Value.int .i64 a),(Value.bool d)])/\qC (!d) (q85 true b a c K) (qi b (fun h=>∃ e:Option Addr,c.cell? h=some (.pointer e)/\qi e (fun i=>0<=a/\a<(8:Nat)/\∃ f:Bool,c.cell? ((i.add 64).add (Int.toNat a*1))=some (.bool f)/\q85 f b a c K))))):=kr
theorem qH9 a w K(h:f94 a w K):qa P 94 [(Value.pointer a)] w K:=zj c94 Tryz.func94 h
def c95:=qx Tryz.f95
def qM5:=Tryz.f95.results.toList
abbrev q9j K:=qH P qM5 K
def f95 a w K:=CS P c95 none [] [] (q9j K) (zh 67 [(VP a)]) w
abbrev qF3 K:=kq c95 3 [] [] (q9j K)
def q1T a b c w K:=SG c95 13 [2,0] [] (qF3 K) 67 [(42,VB a),(0,VP b),(2,VI c)] w
def qtQ a b w K:=SG c95 7 [] [] (q9j K) 67 [(2,VI a),(0,VP b)] w
def qqK a b w K:=SG c95 15 [] [] (q9j K) 67 [(2,VI a),(0,VP b)] w
theorem qlO:qqK a b w K=(∃ c:Array Value,(∀ wq,(Instr.build 72 #[(0,(Value.int .i64 6)),(2,(Value.int .i64 a))]).run P wq=.ok (.agg c) wq)/\qa P 112 [(Value.pointer b),(Value.agg c)] w (fun d e=>d=(.tuple #[])/\qi b (fun f=>zG (f.add 20) (Value.int .i64 a) e (fun g=>K (Value.tuple #[]) g)))):=kr
theorem qpn:qtQ a b w K=(qi b (fun d=>qi b (fun e=>∃ c:Option Addr,w.drew.cell? e=some (.pointer c)/\qi c (fun f=>0<=a/\a<(8:Nat)/\qf 8 (f.add (Int.toNat a*8)) w.drew (fun g=>qa P 74 [(Value.pointer (some (d.add 8))),(Value.agg g)] w.drew (fun h i=>h=(.tuple #[])/\qqK a b i K)))))):=kr
theorem q62:q1T b a c w K=(qC b (qi a (fun d=>zG (d.add 22) (Value.bool true) w (fun e=>K (Value.tuple #[]) e))) (qtQ c a w K)):=kr
theorem qJk:f95 b w K=(qa P 116 [(Value.pointer b)] w (fun j c=>∃ a:Int,∃ d:Bool,j=(.tuple #[(Value.int .i64 a),(Value.bool d)])/\qC (!d) (q1T true b a c K) (qi b (fun k=>∃ e:Option Addr,c.cell? k=some (.pointer e)/\qi e (fun l=>0<=a/\a<(8:Nat)/\∃ f:Bool,c.cell? ((l.add 64).add (Int.toNat a*1))=some (.bool f)/\qC (!f) (q1T true b a c K) (qi b (fun m=>∃ g:Option Addr,c.cell? m=some (.pointer g)/\qi g (fun n=>0<=a/\a<(8:Nat)/\∃ h:Bool,c.cell? ((n.add 72).add (Int.toNat a*1))=some (.bool h)/\qC h (q1T true b a c K) (qi b (fun o=>∃ i:Int,c.cell? ((o.add 1).add 1)=some (.int .i64 i)/\q1T (a==i) b a c K)))))))))):=kr
theorem qIl a w K(h:f95 a w K):qa P 95 [(Value.pointer a)] w K:=zj c95 Tryz.func95 h
def c96:=qx Tryz.f96
def qMw:=Tryz.f96.results.toList
abbrev qJ0 K:=qH P qMw K
def f96 a w K:=CS P c96 none [] [] (qJ0 K) (zh 20 [(VP a)]) w
theorem qGU:f96 a w K=(qi a (fun i=>∃ c:Int,w.cell? ((i.add 1).add 3)=some (.int .u32 c)/\∃ d:Array Value,(∀ wq,(Instr.build 117 #[(1,(Value.int .u32 c))]).run P wq=.ok (.agg d) wq)/\qt (qn P 117) 117 w (fun b j=>qN 2 (Addr.mk b 0 none) d j (fun e=>qf 2 (Addr.mk b 0 none) e (fun k=>qa P 113 [(Value.pointer a),(Value.agg k)] e (fun l f=>∃ g:Int,l=(.int .i64 g)/\qf 2 (Addr.mk b 0 none) f (fun m=>qa P 114 [(Value.pointer a),(Value.agg m)] f (fun n o=>n=(.tuple #[])/\∃ h:Array Value,(∀ wq,(Instr.build 72 #[(0,(Value.int .i64 3)),(3,(Value.int .i64 g))]).run P wq=.ok (.agg h) wq)/\qa P 112 [(Value.pointer a),(Value.agg h)] o (fun p q=>p=(.tuple #[])/\K (Value.tuple #[]) q))))))))):=kr
theorem qIx a w K(h:f96 a w K):qa P 96 [(Value.pointer a)] w K:=zj c96 Tryz.func96 h
def c97:=qx Tryz.f97
def qLy:=Tryz.f97.results.toList
abbrev qEu K:=qH P qLy K
def f97 a w K:=CS P c97 none [] [] (qEu K) (zh 18 [(VP a)]) w
theorem qGh:f97 a w K=(qi a (fun i=>∃ c:Int,w.cell? ((i.add 1).add 3)=some (.int .u32 c)/\∃ d:Array Value,(∀ wq,(Instr.build 117 #[(1,(Value.int .u32 c))]).run P wq=.ok (.agg d) wq)/\qt (qn P 117) 117 w (fun b j=>qN 2 (Addr.mk b 0 none) d j (fun e=>qf 2 (Addr.mk b 0 none) e (fun k=>qa P 113 [(Value.pointer a),(Value.agg k)] e (fun l m=>∃ f:Int,l=(.int .i64 f)/\∃ g:Array Value,(∀ wq,(Instr.build 72 #[(0,(Value.int .i64 2)),(3,(Value.int .i64 f))]).run P wq=.ok (.agg g) wq)/\qa P 112 [(Value.pointer a),(Value.agg g)] m (fun n h=>n=(.tuple #[])/\qf 2 (Addr.mk b 0 none) h (fun o=>qa P 115 [(Value.pointer a),(Value.agg o)] h (fun p q=>p=(.tuple #[])/\K (Value.tuple #[]) q))))))))):=kr
theorem qF7 a w K(h:f97 a w K):qa P 97 [(Value.pointer a)] w K:=zj c97 Tryz.func97 h
def c70:=qx Tryz.f70
def qLr:=Tryz.f70.results.toList
abbrev qfW K:=qH P qLr K
def f70 w K:=CS P c70 none [0] [0] (qfW K) (zh 15 []) w
abbrev qH4 K:=kq c70 7 [0] [0] (qfW K)
abbrev qrM K:=qq 0 (qH4 K)
def qzU K Y0 e w:=zJ (fun e w=>CS P (cA c70 116) none [3,1,0] [0,1] (qw [3,1,0] Y0 (qrM K)) e w) e w
abbrev q7d K Y0:=qw [3,1,0] Y0 (qrM K)
def qjL a b c w K Y0:=SG c70 116 [3,1,0] [0,1] (q7d K Y0) 15 [(3,VI a),(1,VQ b),(0,VQ c)] w
def qva a b c w K Y0:=SG c70 467 [3,1,0] [0,1] (q7d K Y0) 15 [(1,VQ a),(0,VQ b),(3,VI c)] w
def qvm a b c w K Y0:=SG c70 935 [3,1,0] [0,1] (q7d K Y0) 15 [(1,VQ a),(0,VQ b),(3,VI c)] w
theorem qlD:qvm a b c w K Y0=(Y0 (ql.mk 15 [(3,(Value.int .i64 (IntKind.wrap .i64 (c+1)))),(1,(Value.pointer (some a))),(0,(Value.pointer (some b)))] []) w):=kr
theorem qmd:qva b c a w K Y0=(0<=a/\a<(25:Nat)/\zG (b.add (Int.toNat a*1)) (Value.func (.func 92) #[] #[]) w (fun d=>qvm b c a d K Y0)):=kr
def qw4 a b w K:=SG c70 15 [0] [0] (qfW K) 15 [(0,VQ a),(1,VQ b)] w
theorem qoi:qw4 b a w K=(0<=(4:Int)/\(4:Int)<(25:Nat)/\zG (a.add (Int.toNat 4*1)) (Value.func (.func 93) #[] #[]) w (fun e=>0<=(11:Int)/\(11:Int)<(25:Nat)/\zG (a.add (Int.toNat 11*1)) (Value.func (.func 94) #[] #[]) e (fun f=>0<=(13:Int)/\(13:Int)<(25:Nat)/\zG (a.add (Int.toNat 13*1)) (Value.func (.func 95) #[] #[]) f (fun g=>0<=(14:Int)/\(14:Int)<(25:Nat)/\zG (a.add (Int.toNat 14*1)) (Value.func (.func 96) #[] #[]) g (fun h=>0<=(15:Int)/\(15:Int)<(25:Nat)/\zG (a.add (Int.toNat 15*1)) (Value.func (.func 97) #[] #[]) h (fun c=>qf 25 a c (fun i=>qN 25 b i c (fun d=>qf 25 b d (fun j=>K (Value.agg j) d))))))))):=kr
theorem qeL:qjL a b c w K Y0=(qC (decide (a<25)) (qva b c a w K Y0) (qw4 c b w K)):=kr
theorem qFv:f70 w K=(qt (qn P 157) 157 w (fun a b=>qt (qn P 157) 157 b (fun c d=>za (qzU K) (ql.mk 15 [(3,(Value.int .i64 0)),(1,(Value.pointer (some (Addr.mk c 0 none)))),(0,(Value.pointer (some (Addr.mk a 0 none))))] []) d))):=kr
theorem qEZ w K(h:f70 w K):qa P 70 [] w K:=zj c70 Tryz.func70 h
end Go.Fx.Tryz
namespace Go.Fx.Tryz
open Go Go.Fx Go.Fx.Mo
open Go.Proofs
variable {w0 w:World} {H:qP} {K:KT}
set_option maxRecDepth 20000
theorem qh4:P.info? 72=some Tryz.t72:=kr
def Qh(l:List vH):List Value:=(l.map zu).flatten
def qM(tb:Nat)(e:Ev)(ov:Value)(ob nb:Nat)(p:Pl):List Value:=
 .pointer (some (Addr.mk tb 0 none))::(qE e++ov::(p.own.map qj++[qj p.tk,.map (some ob),.map (some nb),qj p.fork,qj p.ends,.bool p.rel,.bool p.bad]))
theorem q5z(k x:Int)(wq:World):(Instr.build 72 [(0,(Value.int .i64 k)),(3,(Value.int .i64 x))].toArray).run P wq=.ok (.agg (zu ⟨k,0,0,x⟩).toArray) wq:=kr
theorem own8{l:List Int}(h:l.length=8):∃ a b c d e f g i,l=[a,b,c,d,e,f,g,i]:=by
 match l,h with
 | [a,b,c,d,e,f,g,i],_=>exact⟨a,b,c,d,e,f,g,i,rfl⟩
section
variable {tb ob nb:Nat} {e:Ev} {ov:Value} {p:Pl}
theorem yf(ho:p.own.length=8):(qM tb e ov ob nb p).length=23:=by simp[qM,qE,ho]
theorem q3O(ho:p.own.length=8){i:Nat}(hi:i<8):(qM tb e ov ob nb p)[8+i]?=some (qj (p.own.getD i 0)):=by
 obtain⟨a,b,c,d,f,g,h,j,hl⟩:=own8 ho
 simp only[qM,qE,hl]
 rcases i with _ | _ | _ | _ | _ | _ | _ | _ | i<;>first | rfl | omega
theorem q5K(ho:p.own.length=8){i:Nat}(hi:i<8)(x:Int):(qM tb e ov ob nb p).set (8+i) (qj x)=qM tb e ov ob nb { p with own:=p.own.set i x }:=by
 obtain⟨a,b,c,d,f,g,h,j,hl⟩:=own8 ho
 simp only[qM,qE,hl]
 rcases i with _ | _ | _ | _ | _ | _ | _ | _ | i<;>first | rfl | omega
theorem zR(ho:p.own.length=8)(i:Nat):(qM tb e ov ob nb p)[16+i]?=[qj p.tk,.map (some ob),.map (some nb),qj p.fork,qj p.ends,.bool p.rel,.bool p.bad][i]?:=by
 obtain⟨a,b,c,d,f,g,h,j,hl⟩:=own8 ho
 simp only[qM,qE,hl]
 show _=_
 simp[List.getElem?_cons,Nat.add_comm 16 i]
end
theorem qpe(l:List vH)(o:vH):Qh (l++[o])=Qh l++zu o:=by simp[Qh]
theorem qpq{tb ob nb k n2 pb:Nat}{e:Ev}{ov:Value}{p:Pl}{t:TypeId}{o:vH}{L:qP}(h:St w0 w ((n2,Cs (zu { o with th:=e.th }) 72)::(L++H)))(hn2:w0.heap.size<=n2)
  (hk:H[k]?=some (pb,Cs (qM tb e ov ob nb p) t)) (ho:p.own.length=8) (ht:0<=e.th/\e.th<8)
  (hK:∀ w',St w0 w' (L++H.set k (pb,Cs (qM tb e ov ob nb (tick e p o)) t))->K (.tuple #[]) w'):q0v (Addr.mk n2 0 none) (some (Addr.mk pb 0 none)) w K:=by
 rw[qds]
 obtain⟨i,hi,hi8⟩:∃ i:Nat,e.th=i/\i<8:=⟨e.th.toNat,by omega,by omega⟩
 have hd:=h.drew
 have hkk:((n2,Cs (zu { o with th:=e.th }) 72)::(L++H))[L.length+k+1]?=some (pb,Cs (qM tb e ov ob nb p) t):=by
  simp only[List.getElem?_cons_succ,vI,hk]
 have rn:∀ i,w.drew.cell? (Addr.mk n2 i none)=(zu { o with th:=e.th })[i]?:=fun i=>hd.cell (k:=0) rfl
 simp only[qi,qc,Nat.mul_one,Nat.zero_add]
 refine⟨e.th,by rw[rn];rfl,by omega,by omega,p.own.getD i 0,?_,by omega,by omega,?_⟩
 ·rw[hi,Int.toNat_natCast,hd.cell hkk];exact q3O ho hi8
 ·rw[hi,Int.toNat_natCast]
  refine hd.st1 hkk (by rw[yf ho];omega) rfl fun w1 h1=>?_
  rw[q5K ho hi8]at h1
  simp only[List.set_cons_succ,jy]at h1
  rw[qfB]
  have ho':(p.own.set i (IntKind.wrap .i64 (p.own.getD i 0+1))).length=8:=by simp[ho]
  have hkl:k<H.length:=(List.getElem?_eq_some_iff.1 hk).1
  have hk1:∀ x,((n2,Cs (zu { o with th:=e.th }) 72)::(L++H.set k x))[L.length+k+1]?=some x:=fun x=>by
   simp only[List.getElem?_cons_succ,vI];simp[hkl]
  simp only[qi,qc,Nat.mul_one,Nat.zero_add]
  have hti:tick e p o={ p with orders:=p.orders++[{ o with th:=e.th }],own:=p.own.set i (IntKind.wrap .i64 (p.own.getD i 0+1)),tk:=if p.tk=0 then(p.own.set i (IntKind.wrap .i64 (p.own.getD i 0+1))).getD i 0 else p.tk }:=by
   simp[tick,zo,hi,yk]
  refine⟨p.tk,by rw[h1.cell (hk1 _),zR ho' 0];rfl,?_⟩
  rw[qg]
  constructor
  ·intro h0
   have h0:p.tk=0:=by simpa using h0
   have h1d:=h1.drew
   refine⟨e.th,by rw[h1d.cell (k:=0) rfl];rfl,by omega,by omega,_,by rw[hi,Int.toNat_natCast,h1d.cell (hk1 _)];exact q3O ho' hi8,?_⟩
   refine h1d.st1 (hk1 _) (by rw[yf ho'];omega) rfl fun w2 h2=>?_
   refine hK w2 (St.tail (b:=n2) (o:=Cs (zu { o with th:=e.th }) 72) ?_ hn2)
   rw[hti,if_pos h0]
   simp only[List.set_cons_succ,jy,List.set_set]at h2
   have e1:(qM tb e ov ob nb { p with own:=p.own.set i (IntKind.wrap .i64 (p.own.getD i 0+1)) }).set 16 (Value.int IntKind.i64 ((p.own.set i (IntKind.wrap .i64 (p.own.getD i 0+1))).getD i 0)) =
     qM tb e ov ob nb { p with own:=p.own.set i (IntKind.wrap .i64 (p.own.getD i 0+1)),tk:=(p.own.set i (IntKind.wrap .i64 (p.own.getD i 0+1))).getD i 0 }:=by
    obtain⟨a,b,c,d,f,g,hh,j,hl⟩:=own8 ho'
    simp only[qM,qE,hl]
    rfl
   rw[e1]at h2
   exact h2
  ·intro h0
   have h0:p.tk≠0:=by simpa using h0
   refine hK w1 (St.tail (b:=n2) (o:=Cs (zu { o with th:=e.th }) 72) ?_ hn2)
   rw[hti,if_neg h0]
   exact h1
theorem q25{a b x:Nat × Obj}{L H:qP}{k:Nat}(hk:H[k]?=some x):(a::b::(L++H))[L.length+k+1+1]?=some x:=by simp only[List.getElem?_cons_succ,vI,hk]
theorem Yp{a x:Nat × Obj}{L H:qP}{k:Nat}(hk:H[k]?=some x):(a::(L++H))[L.length+k+1]?=some x:=by simp only[List.getElem?_cons_succ,vI,hk]
theorem qBi{a b x:Nat × Obj}{L H:qP}{k:Nat}:(a::b::(L++H)).set (L.length+k+1+1) x=a::b::(L++H.set k x):=by simp only[List.set_cons_succ,jy]
theorem qAF{tb ob nb k pb:Nat}{e:Ev}{ov:Value}{p:Pl}{t:TypeId}{o:vH}{L:qP}(h:St w0 w (L++H))(hL:zC 4 72 ov p.orders.length (Qh p.orders) L)(hLn:zr w0 L)
  (hk:H[k]?=some (pb,Cs (qM tb e ov ob nb p) t)) (ho:p.own.length=8) (ht:0<=e.th/\e.th<8) (hn:p.orders.length<1000000)
  (hK:∀ w' ov' L',St w0 w' (L'++H.set k (pb,Cs (qM tb e ov' ob nb (tick e p o)) t))->zC 4 72 ov' (p.orders.length+1) (Qh (p.orders++[{ o with th:=e.th }])) L'->zr w0 L'->K (.tuple #[]) w') :
  qa P 112 [.pointer (some (Addr.mk pb 0 none)),.agg (zu o).toArray] w K:=by
 refine qBx _ _ _ _ ?_
 rw[qC8]
 refine h.newC fun n2 w3 hn2 h3=>?_
 simp only[qi,qc,Nat.zero_add]
 have hkl:k<H.length:=(List.getElem?_eq_some_iff.1 hk).1
 obtain⟨sa,sc,hov⟩:=hL.form
 refine⟨e.th,by rw[h3.cell (Yp hk)];rfl,?_⟩
 refine h3.st1 (k:=0) rfl (by simp[zu]) rfl fun w6 h6=>?_
 have h6:St w0 w6 ((n2,Cs (zu { o with th:=e.th }) 72)::(L++H)):=h6
 have h6d:=h6.drew
 refine h6d.ldA (k:=0) (i:=0) rfl (by simp[zu]) ?_
 have fin:∀ n13 w11,w0.heap.size<=n13->St w0 w11 ((n13,Cs (zu { o with th:=e.th }) 72)::(n2,Cs (zu { o with th:=e.th }) 72)::(L++H))->
   ∃ g cap w15,(Builtin.append_ #[60,60] 60 [ov,.slice (some ⟨n13,0,none⟩) 1 1].toArray).run P w11=.ok (.slice (some ⟨g,0,none⟩) (p.orders.length+1) cap) w15/\
    zG (Addr.mk pb 7 none) (.slice (some ⟨g,0,none⟩) (p.orders.length+1) cap) w15 fun w17=>q0v (Addr.mk n2 0 none) (some (Addr.mk pb 0 none)) w17 K:=by
  intro n13 w11 hn13 h11
  obtain⟨g,cap,w',L',hr,hS,hs',hN⟩:=St.append (P:=P) 60 60 72 Tryz.t72 (.agg #[qj 0,qj 0,qj 0,qj 0]) 4 32 Tryz.underlying60 qh4 rfl rfl rfl rfl om
   (A:=[(n13,Cs (zu { o with th:=e.th }) 72),(n2,Cs (zu { o with th:=e.th }) 72)]) h11 hL hLn (j:=0) rfl (by simp[zu]) (by simp[zu,Value.oneCell']) (by simp[maxLen];omega) om
  refine⟨g,cap,w',hr,?_⟩
  have hs':St w0 w' ((n13,Cs (zu { o with th:=e.th }) 72)::(n2,Cs (zu { o with th:=e.th }) 72)::(L'++H)):=hs'
  refine hs'.st1 (cs:=qM tb e ov ob nb p) (q25 (L:=L') hk) (by rw[yf ho];omega) rfl fun w17 h17=>?_
  rw[qBi]at h17
  refine qpq (ov:=.slice (some ⟨g,0,none⟩) (p.orders.length+1) cap) (h17.tail hn13) hn2 (by rw[List.getElem?_set_self hkl];rfl) ho ht fun w18 h18=>?_
  rw[List.set_set]at h18
  exact hK w18 _ L' h18 (by rw[qpe];exact hS) hN
 have hrd:∀ w:World,w.heap[pb]?=some (Cs (qM tb e ov ob nb p) t)->w.cell? (Addr.mk pb 7 none)=some (Value.slice sa p.orders.length sc):=fun w hw=>by
  rw[qv hw,<-hov];rfl
 constructor
 ·refine⟨sa,_,sc,hrd _ (h6d.get (Yp hk)),⟨rfl,trivial⟩,?_⟩
  refine h6d.newC fun n13 w11 hn13 h11=>?_
  obtain⟨g,cap,w15,hr,hst⟩:=fin n13 w11 hn13 h11
  rw[hov]at hr
  exact⟨_,_,_,w15,hr,hst⟩
 ·refine⟨⟨rfl,trivial⟩,?_⟩
  refine h6d.newC fun n13 w11 hn13 h11=>?_
  obtain⟨g,cap,w15,hr,hst⟩:=fin n13 w11 hn13 h11
  rw[hov]at hr
  exact⟨sa,_,sc,hrd _ (h11.get (q25 hk)),_,_,_,w15,hr,hst⟩
theorem qHQ{a x:Nat × Obj}{L H:qP}{k:Nat}:(a::(L++H)).set (L.length+k+1) x=a::(L++H.set k x):=by simp only[List.set_cons_succ,jy]
theorem q4X{tb ob nb:Nat}{e:Ev}{ov:Value}{p:Pl}(ho:p.own.length=8)(b:Bool):(qM tb e ov ob nb p).set 22 (.bool b)=qM tb e ov ob nb { p with bad:=b }:=by
 obtain⟨a,b,c,d,f,g,h,j,hl⟩:=own8 ho
 simp only[qM,qE,hl]
 rfl
def qU(T:Th)(ob nb:Nat):List Value:=T.clocks.flatten.map qj++(T.begun.map .bool++(T.ended.map .bool++(T.rels.map qj++[.map (some ob),.map (some nb)])))
structure vr (T:Th):Prop where
 clocks:T.clocks.length=8
 each:∀ c∈T.clocks,c.length=8
 begun:T.begun.length=8
 ended:T.ended.length=8
 rels:T.rels.length=8
 objs:∀ q∈T.objs,q.2.length=8
theorem js{l:List vj}(h:∀ c∈l,c.length=8):l.flatten.length=8*l.length:=by
 induction l with
 | nil=>rfl
 | cons c r ih=>
  simp only[List.flatten_cons,List.length_append,List.length_cons]
  rw[ih (fun d hd=>h d (.tail _ hd)),h c (.head _)]
  omega
section
variable {T:Th} {ob nb:Nat} {rest:List Value}
theorem yu(h:vr T):(qU T ob nb).length=90:=by
 have hf:=js h.each
 simp only[qU,List.length_append,List.length_map,hf,h.clocks,h.begun,h.ended,h.rels,List.length_cons,List.length_nil]
theorem ZX(h:vr T)(i:Nat):(qU T ob nb++rest)[88+i]?=([.map (some ob),.map (some nb)]++rest)[i]?:=by
 have hf:=js h.each
 unfold qU
 simp only[List.append_assoc]
 rw[List.getElem?_append_right (by simp only[List.length_map,hf,h.clocks];omega),List.getElem?_append_right (by simp only[List.length_map,hf,h.clocks,h.begun];omega),
  List.getElem?_append_right (by simp only[List.length_map,hf,h.clocks,h.begun,h.ended];omega),List.getElem?_append_right (by simp only[List.length_map,hf,h.clocks,h.begun,h.ended,h.rels];omega)]
 congr 1
 simp only[List.length_map,hf,h.clocks,h.begun,h.ended,h.rels]
 omega
end
abbrev ZT(n:Int):Value:=qj n
abbrev Zj(c:vj):Value:=.agg (c.map qj).toArray
def qR(x:Ob):List Value:=[.bool x.1,.int .u32 x.2]
structure PB where
 pb:Nat
 ob:Nat
 nb:Nat
 tb:Nat
 tob:Nat
 tnb:Nat
 t:TypeId
 tt:TypeId
 e:Ev
 T:Th
 rest:List Value
 es3:Array MapEntry
 c3:Nat
 es4:Array MapEntry
 c4:Nat
structure PD where
 ov:Value
 p:Pl
 es1:Array MapEntry
 c1:Nat
 es2:Array MapEntry
 c2:Nat
abbrev vN(B:PB)(D:PD)(R:qP):List (Nat × Obj):=
 (B.pb,Cs (qM B.tb B.e D.ov B.ob B.nb D.p) B.t)::(B.ob,.map D.es1 D.c1)::(B.nb,.map D.es2 D.c2)::(B.tb,Cs (qU B.T B.tob B.tnb++B.rest) B.tt)::(B.tob,.map B.es3 B.c3)::(B.tnb,.map B.es4 B.c4)::R
structure yv (B:PB):Prop where
 th:vr B.T
 m3:MapIs ym B.es3 B.c3 (yp Zj B.T.objs)
 m4:MapIs ym B.es4 B.c4 (yp ZT B.T.names)
 lt:0<=B.e.th/\B.e.th<8
structure q24 (D:PD):Prop where
 own:D.p.own.length=8
 m1:MapIs ym D.es1 D.c1 (yp Zj D.p.objs)
 m2:MapIs ym D.es2 D.c2 (yp ZT D.p.names)
 each:∀ q∈D.p.objs,q.2.length=8
theorem qlw{B:PB}{D:PD}{R L:qP}(h:St w0 w (L++vN B D R))(hB:yv B)(hD:q24 D)(x:Ob)
  (hK:∀ w' D',St w0 w' (L++vN B D' R)->q24 D'->D'.ov=D.ov->D'.p=(number B.T D.p x).2->K (qj (number B.T D.p x).1) w') :
  qa P 113 [.pointer (some (Addr.mk B.pb 0 none)),.agg (qR x).toArray] w K:=by
 refine qBU _ _ _ _ ?_
 rw[qCi]
 refine h.newC fun n2 w3 hn2 h3=>?_
 have h3d:=h3.drew
 have i0:∀ D',((n2,Cs (qR x) 117)::(L++vN B D' R))[L.length+0+1]?=some (B.pb,Cs (qM B.tb B.e D'.ov B.ob B.nb D'.p) B.t):=fun D'=>Yp (L:=L) (k:=0) rfl
 have i2:∀ D',((n2,Cs (qR x) 117)::(L++vN B D' R))[L.length+2+1]?=some (B.nb,.map D'.es2 D'.c2):=fun D'=>Yp rfl
 have i3:∀ D',((n2,Cs (qR x) 117)::(L++vN B D' R))[L.length+3+1]?=some (B.tb,Cs (qU B.T B.tob B.tnb++B.rest) B.tt):=fun D'=>Yp rfl
 have i5:∀ D',((n2,Cs (qR x) 117)::(L++vN B D' R))[L.length+5+1]?=some (B.tnb,.map B.es4 B.c4):=fun D'=>Yp rfl
 refine⟨some (Addr.mk B.tb 0 none),by rw[h3d.cell (i0 D)];rfl,some B.tnb,by rw[qc,h3d.cell (i3 D)];exact ZX hB.th 1,?_⟩
 refine h3d.ldA (k:=0) (i:=0) rfl (by simp[qR]) ?_
 have hlk:∀ wq,zZ w3.drew wq->(Instr.lookup 31 (.map (some B.tnb)) (ym x) true).run P wq=.ok (.tuple #[((Mo.qr B.T.names x).map ZT).getD (qj 0),.bool ((Mo.qr B.T.names x).map ZT).isSome]) wq:=fun wq hx=>by
  have:=hB.m4.lookup qeN Tryz.underlying31 qDY (w:=wq) (b:=B.tnb) (by rw[hx _ (h3d.lt (List.mem_of_getElem? (i5 D)))];exact h3d.get (i5 D)) x true
  simpa [Yd]using this
 refine⟨(Mo.qr B.T.names x).getD 0,(Mo.qr B.T.names x).isSome,fun wq hx=>by rw[show Value.agg (List.take 2 (List.drop 0 (qR x).toArray.toList)).toArray=ym x from rfl,hlk wq hx];cases Mo.qr B.T.names x<;>rfl,?_⟩
 cases hl1:Mo.qr B.T.names x with
 | some n=>
  simp only[Option.isSome_some,Option.getD_some,qm]
  have:=hK w3.drew D (h3d.tail hn2) hD rfl (by simp[number,hl1])
  simpa [number,hl1]using this
 | none=>
  simp only[Option.isSome_none,qd]
  rw[qgw]
  have h4:=h3d.drew
  refine⟨some B.nb,by rw[qc,h4.cell (i0 D)];exact zR hD.own 2,?_⟩
  refine h4.ldA (k:=0) (i:=0) rfl (by simp[qR]) ?_
  have hlk2:∀ wq,zZ w3.drew.drew wq->(Instr.lookup 31 (.map (some B.nb)) (ym x) true).run P wq=.ok (.tuple #[((Mo.qr D.p.names x).map ZT).getD (qj 0),.bool ((Mo.qr D.p.names x).map ZT).isSome]) wq:=fun wq hx=>by
   have:=hD.m2.lookup qeN Tryz.underlying31 qDY (w:=wq) (b:=B.nb) (by rw[hx _ (h4.lt (List.mem_of_getElem? (i2 D)))];exact h4.get (i2 D)) x true
   simpa [Yd]using this
  refine⟨(Mo.qr D.p.names x).getD 0,(Mo.qr D.p.names x).isSome,fun wq hx=>by rw[show Value.agg (List.take 2 (List.drop 0 (qR x).toArray.toList)).toArray=ym x from rfl,hlk2 wq hx];cases Mo.qr D.p.names x<;>rfl,?_⟩
  cases hl2:Mo.qr D.p.names x with
  | some n=>
   simp only[Option.isSome_some,Option.getD_some,Bool.not_true,qd,q0n]
   have:=hK w3.drew.drew D (h4.tail hn2) hD rfl (by simp[number,hl1,hl2])
   simpa [number,hl1,hl2]using this
  | none=>
   simp only[Option.isSome_none,Bool.not_false,qm]
   have h5:=h4.drew
   have h6:=h5.drew
   refine⟨some (Addr.mk B.tb 0 none),by rw[h5.cell (i0 D)];rfl,some B.tnb,by rw[qc,h5.cell (i3 D)];exact ZX hB.th 1,B.T.names.length,fun wq hx=>?_,
    some B.nb,by rw[qc,h5.cell (i0 D)];exact zR hD.own 2,D.p.names.length,fun wq hx=>?_,some B.nb,by rw[qc,h6.cell (i0 D)];exact zR hD.own 2,?_⟩
   ·have:=hB.m4.len (w:=wq) (b:=B.tnb) (by rw[hx _ (h5.lt (List.mem_of_getElem? (i5 D)))];exact h5.get (i5 D)) Tryz.underlying31 3
    simpa using this
   ·have:=hD.m2.len (w:=wq) (b:=B.nb) (by rw[hx _ (h5.lt (List.mem_of_getElem? (i2 D)))];exact h5.get (i2 D)) Tryz.underlying31 3
    simpa using this
   ·refine h6.ldA (k:=0) (i:=0) rfl (by simp[qR]) ?_
    obtain⟨es',clk',hr,hm⟩:=hD.m2.update qeN Tryz.underlying31 (h6.get (i2 D)) x (ZT (yk (B.T.names.length+D.p.names.length)))
    rw[Vk]at hm
    refine⟨_,hr,?_⟩
    have h7:=h6.put (i2 D) (.map es' clk')
    rw[qHQ]at h7
    have hnum:number B.T D.p x=(yk (B.T.names.length+D.p.names.length),{ D.p with names:=Mo.put D.p.names x (yk (B.T.names.length+D.p.names.length)),bad:=D.p.bad||decide (yk (B.T.names.length+D.p.names.length)>=65536) }):=by
     simp[number,hl1,hl2]
    rw[hnum]at hK
    let D1:PD:={ D with es2:=es',c2:=clk',p:={ D.p with names:=Mo.put D.p.names x (yk (B.T.names.length+D.p.names.length)) } }
    have h7:St w0 _ ((n2,Cs (qR x) 117)::(L++vN B D1 R)):=h7
    have fin:∀ bb:Bool,(D.p.bad||decide (yk (B.T.names.length+D.p.names.length)>=65536))=bb->zG (Addr.mk B.pb 22 none) (.bool bb) _ fun w'=>K (qj (yk (B.T.names.length+D.p.names.length))) w':=fun bb hbb=>by
     refine h7.st1 (cs:=qM B.tb B.e D1.ov B.ob B.nb D1.p) (i0 D1) (by rw[yf (p:=D1.p) hD.own];omega) rfl fun w8 h8=>?_
     rw[qHQ (k:=0),q4X (p:=D1.p) hD.own]at h8
     refine hK w8 { D1 with p:={ D1.p with bad:=bb } } (h8.tail hn2) ⟨hD.own,hD.m1,hm,hD.each⟩ rfl (by rw[hbb])
    rw[qeQ]
    refine⟨D.p.bad,by rw[qc,h7.cell (i0 D1)];exact zR hD.own 6,?_⟩
    rw[qg]
    constructor
    ·intro hb
     simp only[q0n]
     exact fin true (by rw[hb];rfl)
    ·intro hb
     simp only[q0n]
     exact fin _ (by rw[hb];rfl)
theorem qFb:qn P 27=#[qj 0,qj 0,qj 0,qj 0,qj 0,qj 0,qj 0,qj 0]:=kr
theorem ja{cs vs:List Value}(h:cs.length=vs.length):qI cs 0 vs=vs:=by
 rw[Ji _ _ _ om]
 simp[h]
theorem JJ{tb ob nb:Nat}{e:Ev}{ov:Value}{p:Pl}(ho:p.own.length=8){d:vj}(hd:d.length=8):qI (qM tb e ov ob nb p) 8 (d.map qj)=qM tb e ov ob nb { p with own:=d }:=by
 obtain⟨a,b,c,d',f,g,h,j,hl⟩:=own8 ho
 obtain⟨a2,b2,c2,d2,f2,g2,h2,j2,hl2⟩:=own8 hd
 simp only[qM,qE,hl,hl2]
 rfl
theorem Vt{tb ob nb:Nat}{e:Ev}{ov:Value}{p:Pl}(ho:p.own.length=8):((qM tb e ov ob nb p).drop 8).take 8=p.own.map qj:=by
 obtain⟨a,b,c,d',f,g,h,j,hl⟩:=own8 ho
 simp only[qM,qE,hl]
 rfl
theorem vQ{K' V:Type} [DecidableEq K'] {m:List (K' × V)} {k:K'} {v:V} (h:Mo.qr m k=some v):∃ q∈m,q.2=v:=by
 unfold Mo.qr at h
 obtain⟨q,hq,rfl⟩:=Option.map_eq_some_iff.1 h
 exact⟨q,List.mem_of_find?_eq_some hq,rfl⟩
theorem Vx{T:Th}{p:Pl}{x:Ob}(hT:vr T)(hp:∀ q∈p.objs,q.2.length=8):(qL T p x).length=8:=by
 unfold qL
 split
 ·rename_i c hc
  obtain⟨q,hq,rfl⟩:=vQ hc
  exact hp q hq
 ·cases ho:Mo.qr T.objs x with
  | none=>rfl
  | some c=>
   obtain⟨q,hq,rfl⟩:=vQ ho
   exact hT.objs q hq
theorem qm6(o:Option vj):(o.map Zj).getD (.agg #[qj 0,qj 0,qj 0,qj 0,qj 0,qj 0,qj 0,qj 0])=Zj (o.getD qW):=by cases o<;>rfl
theorem q1q{B:PB}{D:PD}{R L:qP}{n9 n2:Nat}{x:Ob}{c:vj}(h:St w0 w ((n9,Cs (c.map qj) 27)::(n2,Cs (qR x) 117)::(L++vN B D R)))(h9:w0.heap.size<=n9)(h2:w0.heap.size<=n2)
  (hD:D.p.own.length=8) (hc:c.length=8) (hK:∀ w',St w0 w' (L++vN B { D with p:={ D.p with own:=zk D.p.own c } } R)->K (.tuple #[]) w') :
  q35 (Addr.mk n9 0 none) (some (Addr.mk B.pb 0 none)) w K:=by
 rw[qfu]
 have hd:=h.drew
 refine hd.ldA (k:=0) (i:=0) rfl (by simp[hc]) ?_
 have e:(List.take 8 (List.drop 0 (c.map qj)))=c.map qj:=List.take_of_length_le (by simp[hc])
 rw[e,qc]
 refine q3k hd (cs:=qM B.tb B.e D.ov B.ob B.nb D.p) (q25 (L:=L) (k:=0) rfl) hD hc (by rw[yf hD];omega) (Vt hD) fun w' h'=>?_
 refine⟨rfl,hK w' ?_⟩
 rw[qBi (k:=0),JJ hD (yo hD hc)]at h'
 exact(h'.tail h9).tail h2
theorem qjo{es:Array MapEntry}{clk:Nat}{m:List (Ob × vj)}(hm:MapIs ym es clk (yp Zj m)){w wq:World}{b:Nat}(hx:zZ w wq)(hb:w.heap[b]?=some (.map es clk))(x:Ob)(ok:Bool) :
  (Instr.lookup 30 (.map (some b)) (ym x) ok).run P wq=.ok (if ok then .tuple #[Zj ((Mo.qr m x).getD qW),.bool (Mo.qr m x).isSome]else Zj ((Mo.qr m x).getD qW)) wq:=by
 have:=hm.lookup qeN Tryz.underlying30 qDv (w:=wq) (b:=b) (by rw[hx _ (Array.getElem?_eq_some_iff.1 hb).1];exact hb) x ok
 rw[Yd,qm6]at this
 rw[this]
 cases Mo.qr m x<;>rfl
theorem qgk{B:PB}{D:PD}{R L:qP}(h:St w0 w (L++vN B D R))(hB:yv B)(hD:q24 D)(x:Ob)
  (hK:∀ w',St w0 w' (L++vN B { D with p:=acquire B.T D.p x } R)->K (.tuple #[]) w') :
  qa P 114 [.pointer (some (Addr.mk B.pb 0 none)),.agg (qR x).toArray] w K:=by
 refine qAw _ _ _ _ ?_
 rw[qBg]
 refine h.newC fun n2 w3 hn2 h3=>?_
 have h3d:=h3.drew
 have i1:((n2,Cs (qR x) 117)::(L++vN B D R))[L.length+1+1]?=some (B.ob,.map D.es1 D.c1):=Yp rfl
 refine⟨some B.ob,by rw[qc,h3d.cell (Yp (L:=L) (k:=0) rfl)];exact zR hD.own 1,?_⟩
 refine h3d.ldA (k:=0) (i:=0) rfl (by simp[qR]) ?_
 refine⟨(((Mo.qr D.p.objs x).getD qW).map qj).toArray,(Mo.qr D.p.objs x).isSome,fun wq hx=>qjo hD.m1 hx (h3d.get i1) x true,?_⟩
 have hc7:((Mo.qr D.p.objs x).getD qW).length=8:=by
  cases hl:Mo.qr D.p.objs x with
  | none=>rfl
  | some c=>obtain⟨q,hq,rfl⟩:=vQ hl;exact hD.each q hq
 refine h3d.newC fun n9 w10 hn9 h10=>?_
 rw[qFb]at h10
 refine h10.stA (k:=0) (i:=0) rfl (by simp[hc7]) (by simp) (by simp[Value.oneCell']) fun w11 h11=>?_
 have e1:qI [qj 0,qj 0,qj 0,qj 0,qj 0,qj 0,qj 0,qj 0] 0 (((Mo.qr D.p.objs x).getD qW).map qj)=((Mo.qr D.p.objs x).getD qW).map qj:=ja (by simp[hc7])
 have h11:St w0 w11 ((n9,Cs (qI [qj 0,qj 0,qj 0,qj 0,qj 0,qj 0,qj 0,qj 0] 0 (((Mo.qr D.p.objs x).getD qW).map qj)) 27)::(n2,Cs (qR x) 117)::(L++vN B D R)):=h11
 rw[e1]at h11
 have hcl:=Vx (x:=x) hB.th hD.each
 rw[qdd]
 cases hl:Mo.qr D.p.objs x with
 | some c=>
  simp only[Option.isSome_some,Bool.not_true,qd]
  rw[hl]at h11
  have hcc:qL B.T D.p x=c:=by simp[qL,hl]
  refine q1q (c:=c) h11 hn9 hn2 hD.own (by rw[<-hcc];exact hcl) fun w' h'=>hK w' ?_
  simpa [acquire,hcc]using h'
 | none=>
  simp only[Option.isSome_none,Bool.not_false,qm]
  have h12:=h11.drew
  have hcc:qL B.T D.p x=(Mo.qr B.T.objs x).getD qW:=by simp[qL,hl]
  refine⟨some (Addr.mk B.tb 0 none),by rw[h12.cell (q25 (L:=L) (k:=0) rfl)];rfl,some B.tob,by rw[qc,h12.cell (q25 (L:=L) (k:=3) rfl)];exact ZX hB.th 0,?_⟩
  refine h12.ldA (k:=1) (i:=0) rfl (by simp[qR]) ?_
  refine⟨((qL B.T D.p x).map qj).toArray,fun wq hx=>?_,?_⟩
  ·rw[hcc]
   exact qjo hB.m3 hx (h12.get (q25 (L:=L) (k:=4) rfl)) x false
  ·refine h12.stA (k:=0) (i:=0) rfl (by simp[hcl]) (by simp[hc7]) (by simp[Value.oneCell']) fun w13 h13=>?_
   have h13:St w0 w13 ((n9,Cs (qI (((Mo.qr D.p.objs x).getD qW).map qj) 0 ((qL B.T D.p x).map qj)) 27)::(n2,Cs (qR x) 117)::(L++vN B D R)):=h13
   rw[ja (by simp[hc7,hcl])]at h13
   exact q1q h13 hn9 hn2 hD.own hcl fun w' h'=>hK w' h'
theorem JO{tb ob nb:Nat}{e:Ev}{ov:Value}{p:Pl}(ho:p.own.length=8)(b:Bool):(qM tb e ov ob nb p).set 21 (.bool b)=qM tb e ov ob nb { p with rel:=b }:=by
 obtain⟨a,b,c,d,f,g,h,j,hl⟩:=own8 ho
 simp only[qM,qE,hl]
 rfl
theorem q16{B:PB}{D:PD}{R L:qP}{n9 n2:Nat}{x:Ob}{c:vj}(h:St w0 w ((n9,Cs (c.map qj) 27)::(n2,Cs (qR x) 117)::(L++vN B D R)))(h9:w0.heap.size<=n9)(h2:w0.heap.size<=n2)
  (hD:q24 D) (hc:c.length=8) (hK:∀ w' D',St w0 w' (L++vN B D' R)->q24 D'->D'.ov=D.ov->D'.p={ D.p with objs:=Mo.put D.p.objs x (zk c D.p.own),rel:=true }->K (.tuple #[]) w') :
  q3j (some (Addr.mk B.pb 0 none)) (Addr.mk n9 0 none) (Addr.mk n2 0 none) w K:=by
 rw[qez]
 show qf 8 ((Addr.mk B.pb 0 none).add 8) _ _
 rw[qc]
 refine h.ldA (cs:=qM B.tb B.e D.ov B.ob B.nb D.p) (q25 (L:=L) (k:=0) rfl) (by rw[yf hD.own];omega) ?_
 rw[Vt hD.own]
 refine q3k h (k:=0) (o:=0) (c:=c) rfl hc hD.own (by simp[hc]) (by rw[List.drop_zero];exact List.take_of_length_le (by simp[hc])) fun w1 h1=>?_
 have hj:=yo hc hD.own
 have h1:St w0 w1 ((n9,Cs (qI (c.map qj) 0 ((zk c D.p.own).map qj)) 27)::(n2,Cs (qR x) 117)::(L++vN B D R)):=h1
 rw[ja (by simp[hc,hj])]at h1
 refine⟨rfl,?_⟩
 have h1d:=h1.drew
 refine⟨some B.ob,by rw[qc,h1d.cell (q25 (L:=L) (k:=0) rfl)];exact zR hD.own 1,?_⟩
 refine h1d.ldA (k:=1) (i:=0) rfl (by simp[qR]) ?_
 refine h1d.ldA (k:=0) (i:=0) rfl (by simp[hj]) ?_
 have e:List.take 8 (List.drop 0 ((zk c D.p.own).map qj))=(zk c D.p.own).map qj:=List.take_of_length_le (by simp[hj])
 rw[e]
 have i1:((n9,Cs ((zk c D.p.own).map qj) 27)::(n2,Cs (qR x) 117)::(L++vN B D R))[L.length+1+1+1]?=some (B.ob,.map D.es1 D.c1):=q25 rfl
 obtain⟨es',clk',hr,hm⟩:=hD.m1.update qeN Tryz.underlying30 (h1d.get i1) x (Zj (zk c D.p.own))
 rw[Vk]at hm
 refine⟨_,hr,?_⟩
 have h2':=h1d.put i1 (.map es' clk')
 rw[qBi]at h2'
 let D1:PD:={ D with es1:=es',c1:=clk',p:={ D.p with objs:=Mo.put D.p.objs x (zk c D.p.own) } }
 have h2':St w0 _ ((n9,Cs ((zk c D.p.own).map qj) 27)::(n2,Cs (qR x) 117)::(L++vN B D1 R)):=h2'
 rw[qel]
 show zG ((Addr.mk B.pb 0 none).add 21) _ _ _
 rw[qc]
 refine h2'.st1 (cs:=qM B.tb B.e D1.ov B.ob B.nb D1.p) (q25 (L:=L) (k:=0) rfl) (by rw[yf (p:=D1.p) hD.own];omega) rfl fun w3 h3=>?_
 rw[qBi (k:=0),JO (p:=D1.p) hD.own]at h3
 refine hK w3 { D1 with p:={ D1.p with rel:=true } } ((h3.tail h9).tail h2) ⟨hD.own,hm,hD.m2,fun q hq=>?_⟩ rfl rfl
 have hq:q∈Mo.put D.p.objs x (zk c D.p.own):=hq
 unfold Mo.put at hq
 split at hq
 ·obtain⟨q0,hq0,rfl⟩:=List.mem_map.1 hq
  split
  ·exact hj
  ·exact hD.each q0 hq0
 ·rcases List.mem_append.1 hq with hq | hq
  ·exact hD.each q hq
  ·simp at hq;subst hq;exact hj
theorem qhH{B:PB}{D:PD}{R L:qP}(h:St w0 w (L++vN B D R))(hB:yv B)(hD:q24 D)(x:Ob)
  (hK:∀ w' D',St w0 w' (L++vN B D' R)->q24 D'->D'.ov=D.ov->D'.p=release B.T D.p x->K (.tuple #[]) w') :
  qa P 115 [.pointer (some (Addr.mk B.pb 0 none)),.agg (qR x).toArray] w K:=by
 refine qBT _ _ _ _ ?_
 rw[qBk]
 refine h.newC fun n2 w3 hn2 h3=>?_
 have h3d:=h3.drew
 have i1:((n2,Cs (qR x) 117)::(L++vN B D R))[L.length+1+1]?=some (B.ob,.map D.es1 D.c1):=Yp rfl
 refine⟨some B.ob,by rw[qc,h3d.cell (Yp (L:=L) (k:=0) rfl)];exact zR hD.own 1,?_⟩
 refine h3d.ldA (k:=0) (i:=0) rfl (by simp[qR]) ?_
 refine⟨(((Mo.qr D.p.objs x).getD qW).map qj).toArray,(Mo.qr D.p.objs x).isSome,fun wq hx=>qjo hD.m1 hx (h3d.get i1) x true,?_⟩
 have hc7:((Mo.qr D.p.objs x).getD qW).length=8:=by
  cases hl:Mo.qr D.p.objs x with
  | none=>rfl
  | some c=>obtain⟨q,hq,rfl⟩:=vQ hl;exact hD.each q hq
 refine h3d.newC fun n9 w10 hn9 h10=>?_
 rw[qFb]at h10
 refine h10.stA (k:=0) (i:=0) rfl (by simp[hc7]) (by simp) (by simp[Value.oneCell']) fun w11 h11=>?_
 have e1:qI [qj 0,qj 0,qj 0,qj 0,qj 0,qj 0,qj 0,qj 0] 0 (((Mo.qr D.p.objs x).getD qW).map qj)=((Mo.qr D.p.objs x).getD qW).map qj:=ja (by simp[hc7])
 have h11:St w0 w11 ((n9,Cs (qI [qj 0,qj 0,qj 0,qj 0,qj 0,qj 0,qj 0,qj 0] 0 (((Mo.qr D.p.objs x).getD qW).map qj)) 27)::(n2,Cs (qR x) 117)::(L++vN B D R)):=h11
 rw[e1]at h11
 have hcl:=Vx (x:=x) hB.th hD.each
 rw[qfx]
 cases hl:Mo.qr D.p.objs x with
 | some c=>
  simp only[Option.isSome_some,Bool.not_true,qd]
  rw[hl]at h11
  have hcc:qL B.T D.p x=c:=by simp[qL,hl]
  refine q16 (c:=c) h11 hn9 hn2 hD (by rw[<-hcc];exact hcl) fun w' D' h' h1 h2 h3=>hK w' D' h' h1 h2 ?_
  rw[h3];simp[release,hcc]
 | none=>
  simp only[Option.isSome_none,Bool.not_false,qm]
  have h12:=h11.drew
  have hcc:qL B.T D.p x=(Mo.qr B.T.objs x).getD qW:=by simp[qL,hl]
  refine⟨some (Addr.mk B.tb 0 none),by rw[h12.cell (q25 (L:=L) (k:=0) rfl)];rfl,some B.tob,by rw[qc,h12.cell (q25 (L:=L) (k:=3) rfl)];exact ZX hB.th 0,?_⟩
  refine h12.ldA (k:=1) (i:=0) rfl (by simp[qR]) ?_
  refine⟨((qL B.T D.p x).map qj).toArray,fun wq hx=>?_,?_⟩
  ·rw[hcc]
   exact qjo hB.m3 hx (h12.get (q25 (L:=L) (k:=4) rfl)) x false
  ·refine h12.stA (k:=0) (i:=0) rfl (by simp[hcl]) (by simp[hc7]) (by simp[Value.oneCell']) fun w13 h13=>?_
   have h13:St w0 w13 ((n9,Cs (qI (((Mo.qr D.p.objs x).getD qW).map qj) 0 ((qL B.T D.p x).map qj)) 27)::(n2,Cs (qR x) 117)::(L++vN B D R)):=h13
   rw[ja (by simp[hc7,hcl])]at h13
   exact q16 h13 hn9 hn2 hD hcl fun w' D' h' h1 h2 h3=>hK w' D' h' h1 h2 h3
end Go.Fx.Tryz
