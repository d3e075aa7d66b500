/- A part of the proof. -/
import Derived.Test.YtamciedmojpjaaaGreatKaYi
import Derived.KernelRfl
import Derived.Test.YtamciedmojpjaaaGreatKbYi
import Derived.Sort.Grow
import Derived.Deep.Draws
import Derived.Shelf.SlSortCmp.WholeK
import Derived.Test.YtamciedmojpjaaaGreatProg
import Derived.Shelf.SlSortCmp.NoneTotal
namespace Go.Fx.Tryz
set_option maxRecDepth 100000
open Go Go.Fx Go.Proofs
noncomputable def c59:Code:=bodyOf Tryz.f59
noncomputable def rs59:List ResultVar:=Tryz.f59.results.toList
abbrev f59_kb (K:KT):Exit→YT:=bodyK P rs59 K
def f59 (a:OA) (b c:Nat) (w:World) (K:KT):Prop:=CS P c59 none [2,3] [2,3] (f59_kb K) (env0 70 [(VS a b c)]) w
def f59_s0 (a b:Addr) (c:Int) (d:OA) (f g:Nat) (w:World) (K:KT):Prop:=SG P (cA c59 15) none [2,3] [2,3] (f59_kb K) (Env.mk 70 [(2,(VP (some a))),(4,(VP (some b))),(3,(VI c)),(0,(VS d f g))] []) w
abbrev f59_k6 (K:KT):Exit→YT:=kseq P (cA c59 62) (cA c59 63) none [2,3] [2,3] (f59_kb K)
abbrev f59_k8 (K:KT):Exit→YT:=kblock 0 (f59_k6 K)
def f59_lp1 (K:KT) (Y1:YT) (e:Env) (w:World):Prop:=Join (fun e w=>CS P (cA c59 500) none [2,4,17,3,5,15,16] [2,3,4] (kloop [2,4,17,3,5,15,16] Y1 (f59_k8 K)) e w) e w
abbrev f59_kl1 (K:KT) (Y1:YT):Exit→YT:=kloop [2,4,17,3,5,15,16] Y1 (f59_k8 K)
def f59_lb1 (a b:Addr) (c d:Int) (f:Addr) (g:OA) (h i:Nat) (j:Int) (w:World) (K:KT) (Y1:YT):Prop:=SG P (cA c59 500) none [2,4,17,3,5,15,16] [2,3,4] (f59_kl1 K Y1) (Env.mk 70 [(2,(VP (some a))),(4,(VP (some b))),(17,(VI c)),(3,(VI d)),(5,(VP (some f))),(15,(VS g h i)),(16,(VI j))] []) w
def f59_s2 (a b c:Addr) (d:OA) (f g:Nat) (h i j:Int) (w:World) (K:KT) (Y1:YT):Prop:=SG P (cA c59 2003) none [2,4,17,3,5,15,16] [2,3,4] (f59_kl1 K Y1) (Env.mk 70 [(2,(VP (some a))),(4,(VP (some b))),(5,(VP (some c))),(15,(VS d f g)),(16,(VI h)),(17,(VI i)),(3,(VI j))] []) w
abbrev f59_k11 (K:KT) (Y1:YT):Exit→YT:=kseq P (cA c59 4006) (cA c59 4007) none [2,4,17,3,5,15,16] [2,3,4] (f59_kl1 K Y1)
abbrev f59_k12 (K:KT) (Y1:YT):Exit→YT:=kblock 1 (f59_k11 K Y1)
def f59_s3 (a:Addr) (b:Int) (c:Addr) (d:Int) (f:Addr) (g:OA) (h i:Nat) (j k:Int) (l:OA) (w:World) (K:KT) (Y1:YT):Prop:=SG P (cA c59 64103) none [2,4,3,5,15,16,17] [2,3,4,5,15,16,17] (f59_k12 K Y1) (Env.mk 70 [(4,(VP (some a))),(6,(VI b)),(2,(VP (some c))),(3,(VI d)),(5,(VP (some f))),(15,(VS g h i)),(16,(VI j)),(17,(VI k)),(8,(VP l))] []) w
def f59_s4 (a:Addr) (b:Int) (c:Addr) (d:Int) (f:Addr) (g:OA) (h i:Nat) (j k:Int) (l:OA) (w:World) (K:KT) (Y1:YT):Prop:=SG P (cA c59 256415) none [2,4,3,5,15,16,17] [2,3,4,5,15,16,17] (f59_k12 K Y1) (Env.mk 70 [(4,(VP (some a))),(6,(VI b)),(2,(VP (some c))),(3,(VI d)),(5,(VP (some f))),(15,(VS g h i)),(16,(VI j)),(17,(VI k)),(8,(VP l))] []) w
abbrev f59_k20 (K:KT) (Y1:YT):Exit→YT:=kseq P (cA c59 512830) (cA c59 512831) none [2,4,3,5,15,16,17] [2,3,4,5,15,16,17] (f59_k12 K Y1)
abbrev f59_k22 (K:KT) (Y1:YT):Exit→YT:=kblock 2 (f59_k20 K Y1)
def f59_lp5 (K:KT) (Y1 Y5:YT) (e:Env) (w:World):Prop:=Join (fun e w=>CS P (cA c59 4102644) none [45,4,6,2,3,5,15,16,17,8,44] [2,3,4,5,15,16,17,8] (kloop [45,4,6,2,3,5,15,16,17,8,44] Y5 (f59_k22 K Y1)) e w) e w
abbrev f59_kl5 (K:KT) (Y1 Y5:YT):Exit→YT:=kloop [45,4,6,2,3,5,15,16,17,8,44] Y5 (f59_k22 K Y1)
def f59_lb5 (a:Int) (b:Addr) (c:Int) (d:Addr) (f:Int) (g:Addr) (h:OA) (i j:Nat) (k l:Int) (m:OA) (n:Int) (w:World) (K:KT) (Y1 Y5:YT):Prop:=SG P (cA c59 4102644) none [45,4,6,2,3,5,15,16,17,8,44] [2,3,4,5,15,16,17,8] (f59_kl5 K Y1 Y5) (Env.mk 70 [(45,(VI a)),(4,(VP (some b))),(6,(VI c)),(2,(VP (some d))),(3,(VI f)),(5,(VP (some g))),(15,(VS h i j)),(16,(VI k)),(17,(VI l)),(8,(VP m)),(44,(VI n))] []) w
def f59_s6 (a:Addr) (b:Int) (c:Addr) (d:Int) (f:Addr) (g:OA) (h i:Nat) (j k:Int) (l:OA) (m n:Int) (w:World) (K:KT) (Y1 Y5:YT):Prop:=SG P (cA c59 16410579) none [45,4,6,2,3,5,15,16,17,8,44] [2,3,4,5,15,16,17,8] (f59_kl5 K Y1 Y5) (Env.mk 70 [(4,(VP (some a))),(6,(VI b)),(2,(VP (some c))),(3,(VI d)),(5,(VP (some f))),(15,(VS g h i)),(16,(VI j)),(17,(VI k)),(8,(VP l)),(44,(VI m)),(45,(VI n))] []) w
def f59_s7 (a:Addr) (b:Int) (c:Addr) (d:Int) (f:Addr) (g:OA) (h i:Nat) (j k:Int) (l:OA) (m n:Int) (w:World) (K:KT) (Y1 Y5:YT):Prop:=SG P (cA c59 32821159) none [45,4,6,2,3,5,15,16,17,8,44] [2,3,4,5,15,16,17,8] (f59_kl5 K Y1 Y5) (Env.mk 70 [(4,(VP (some a))),(6,(VI b)),(2,(VP (some c))),(3,(VI d)),(5,(VP (some f))),(15,(VS g h i)),(16,(VI j)),(17,(VI k)),(8,(VP l)),(44,(VI m)),(45,(VI n))] []) w
theorem f59_s7_eq (a:Addr) (b:Int) (c:Addr) (d:Int) (e:Addr) (f:OA) (g h:Nat) (i j:Int) (k:OA) (l m:Int) (w:World) (K:KT) (Y1 Y5:YT):f59_s7 a b c d e f g h i j k l m w K Y1 Y5=(Y5 (Env.mk 70 [(45,(Value.int .i64 (IntKind.wrap .i64 ((m:Int)+1)))),(4,(Value.pointer (some a))),(6,(Value.int .i64 b)),(2,(Value.pointer (some c))),(3,(Value.int .i64 d)),(5,(Value.pointer (some e))),(15,(Value.slice f g h)),(16,(Value.int .i64 i)),(17,(Value.int .i64 j)),(8,(Value.pointer k)),(44,(Value.int .i64 l))] []) w):=by kernel_rfl
theorem f59_s6_eq (a:Addr) (b:Int) (c:Addr) (d:Int) (e:Addr) (f:OA) (g h:Nat) (i j:Int) (k:OA) (l m:Int) (w:World) (K:KT) (Y1 Y5:YT):f59_s6 a b c d e f g h i j k l m w K Y1 Y5=(∃ (n:OA) (o p:Nat),w.cell? (a.add 1)=some (.slice n o p)∧sizesAre 1 [(Value.int .i64 b)]∧NewC (([(Value.int .i64 b)].map fun (v:Value)=>v.cells.toList).flatten.toArray) 3 w (fun u x=>∃ (q:OA) (r s:Nat),∃ t:World,(Builtin.append_ #[61,61] 61 [(Value.slice n o p),(Value.slice (some (Addr.mk u 0 none)) 1 1)].toArray).run P x=.ok (.slice q r s) t∧St1 (a.add 1) (Value.slice q r s) t (fun y=>f59_s7 a b c d e f g h i j k l m y K Y1 Y5))):=by kernel_rfl
def f59_s8 (a b:Addr) (c:Int) (d:Addr) (f:OA) (g h:Nat) (i j:Int) (k:OA) (w:World) (K:KT) (Y1:YT):Prop:=SG P (cA c59 512831) none [2,4,3,5,15,16,17] [2,3,4,5,15,16,17] (f59_k12 K Y1) (Env.mk 70 [(2,(VP (some a))),(4,(VP (some b))),(3,(VI c)),(5,(VP (some d))),(15,(VS f g h)),(16,(VI i)),(17,(VI j)),(8,(VP k))] []) w
def f59_s9 (a b:Addr) (c:Int) (d:Addr) (f:OA) (g h:Nat) (i j:Int) (w:World) (K:KT) (Y1:YT):Prop:=SG P (cA c59 4007) none [2,4,17,3,5,15,16] [2,3,4] (f59_kl1 K Y1) (Env.mk 70 [(2,(VP (some a))),(4,(VP (some b))),(3,(VI c)),(5,(VP (some d))),(15,(VS f g h)),(16,(VI i)),(17,(VI j))] []) w
theorem f59_s9_eq (a b:Addr) (c:Int) (d:Addr) (e:OA) (f g:Nat) (h i:Int) (w:World) (K:KT) (Y1:YT):f59_s9 a b c d e f g h i w K Y1=(Y1 (Env.mk 70 [(2,(Value.pointer (some a))),(4,(Value.pointer (some b))),(17,(Value.int .i64 (IntKind.wrap .i64 ((i:Int)+1)))),(3,(Value.int .i64 c)),(5,(Value.pointer (some d))),(15,(Value.slice e f g)),(16,(Value.int .i64 h))] []) w):=by kernel_rfl
theorem f59_s8_eq (c a:Addr) (d:Int) (e:Addr) (f:OA) (g h:Nat) (i j:Int) (k:OA) (w:World) (K:KT) (Y1:YT):f59_s8 c a d e f g h i j k w K Y1=(optS k (fun d0=>optS k (fun e0=>∃ l:Int,w.drew.cell? (d0.add 16)=some (.int .i64 l)∧LdA 8 (e0.add 8) w.drew (fun f0=>∃ b:Array Value,(∀ wq,(Instr.build 173 [(0,(Value.int .i64 l)),(1,(Value.agg f0))].toArray).run P wq=.ok (.agg b) wq)∧(∃ (m:OA) (n o:Nat),w.drew.cell? (a.add 2)=some (.slice m n o)∧sizesAre 9 [(Value.agg b)]∧NewC (([(Value.agg b)].map fun (v:Value)=>v.cells.toList).flatten.toArray) 173 w.drew (fun g0 h0=>∃ (p:OA) (q r:Nat),∃ s:World,(Builtin.append_ #[139,139] 139 [(Value.slice m n o),(Value.slice (some (Addr.mk g0 0 none)) 1 1)].toArray).run P h0=.ok (.slice p q r) s∧St1 (a.add 2) (Value.slice p q r) s (fun i0=>f59_s9 c a d e f g h i j i0 K Y1)))∧(sizesAre 9 [(Value.agg b)]∧NewC (([(Value.agg b)].map fun (v:Value)=>v.cells.toList).flatten.toArray) 173 w.drew (fun j0 t=>∃ (u:OA) (x y:Nat),t.cell? (a.add 2)=some (.slice u x y)∧∃ (z:OA) (a0 b0:Nat),∃ c0:World,(Builtin.append_ #[139,139] 139 [(Value.slice u x y),(Value.slice (some (Addr.mk j0 0 none)) 1 1)].toArray).run P t=.ok (.slice z a0 b0) c0∧St1 (a.add 2) (Value.slice z a0 b0) c0 (fun l0=>f59_s9 c a d e f g h i j l0 K Y1))))))):=by kernel_rfl
theorem f59_lb5_eq (a:Int) (b:Addr) (m:Int) (c:Addr) (d:Int) (e:Addr) (f:OA) (g h:Nat) (i j:Int) (k:OA) (l:Int) (w:World) (K:KT) (Y1 Y5:YT):f59_lb5 a b m c d e f g h i j k l w K Y1 Y5=(BIf (decide ((a:Int) < l)) (f59_s6 b m c d e f g h i j k l a w K Y1 Y5) (f59_s8 c b d e f g h i j k w K Y1)):=by kernel_rfl
theorem f59_s4_eq (b:Addr) (c:Int) (d:Addr) (e:Int) (f:Addr) (g:OA) (h i:Nat) (j k:Int) (a:OA) (w:World) (K:KT) (Y1:YT):f59_s4 b c d e f g h i j k a w K Y1=(optS a (fun p=>∃ (l:OA) (m n:Nat),w.cell? (p.add 7)=some (.slice l m n)∧∃ o:Int,(∀ wq,Ext w wq→(Builtin.len_ #[60] 3 [(Value.slice l m n)].toArray).run P wq=.ok (.int .i64 o) wq)∧LoopE (f59_lp5 K Y1) (Env.mk 70 [(45,(Value.int .i64 0)),(4,(Value.pointer (some b))),(6,(Value.int .i64 c)),(2,(Value.pointer (some d))),(3,(Value.int .i64 e)),(5,(Value.pointer (some f))),(15,(Value.slice g h i)),(16,(Value.int .i64 j)),(17,(Value.int .i64 k)),(8,(Value.pointer a)),(44,(Value.int .i64 o))] []) w)):=by kernel_rfl
theorem f59_s3_eq (a:Addr) (e:Int) (f:Addr) (g:Int) (c:Addr) (h:OA) (i j:Nat) (k l:Int) (b:OA) (w:World) (K:KT) (Y1:YT):f59_s3 a e f g c h i j k l b w K Y1=(CallL P 40 [(Value.pointer (some c)),(Value.pointer b)] w (fun x d=>x=(.tuple [].toArray)∧optS b (fun y=>∃ (m:OA) (n o:Nat),d.drew.cell? a=some (.slice m n o)∧∃ (p:OA) (q r:Nat),d.drew.cell? (y.add 7)=some (.slice p q r)∧∃ (s:OA) (t u:Nat),∃ v:World,(Builtin.append_ #[60,60] 60 [(Value.slice m n o),(Value.slice p q r)].toArray).run P d.drew=.ok (.slice s t u) v∧St1 a (Value.slice s t u) v (fun z=>f59_s4 a e f g c h i j k l b z K Y1)))):=by kernel_rfl
theorem f59_s2_eq (b f c:Addr) (d:OA) (e g:Nat) (h a i:Int) (w:World) (K:KT) (Y1:YT):f59_s2 b f c d e g h a i w K Y1=(optS d (fun q=>0≤(a:Int)∧(a:Int) < (e:Nat)∧LdA 6 (q.add (Int.toNat a * 6)) w (fun r=>NewC (zcells P 45) 45 w (fun j s=>StA 6 (Addr.mk j 0 none) r s (fun k=>LdA 6 (Addr.mk j 0 none) k (fun t=>CallL P 35 [(Value.pointer (some c)),(Value.agg t)] k (fun u l=>∃ m:Option Addr,∃ n:Bool,u=(.tuple [(Value.pointer m),(Value.bool n)].toArray)∧BIf (!n) (∃ o:Array Value,(∀ wq,(Instr.build 141 [].toArray).run P wq=.ok (.agg o) wq)∧StA 3 b o l (fun p=>LdA 3 b p (fun v=>K (Value.tuple [(Value.agg v),(Value.int .i64 300)].toArray) p))) (f59_s3 f a b i c d e g h a m l K Y1)))))))):=by kernel_rfl
def f59_s10 (a b:Addr) (w:World) (K:KT):Prop:=SG P (cA c59 63) none [2,3] [2,3] (f59_kb K) (Env.mk 70 [(2,(VP (some a))),(4,(VP (some b)))] []) w
theorem f59_s10_eq (a b:Addr) (w:World) (K:KT):f59_s10 a b w K=(LdA 3 b w (fun d=>StA 3 a d w (fun c=>LdA 3 a c (fun e=>K (Value.tuple [(Value.agg e),(Value.int .i64 0)].toArray) c)))):=by kernel_rfl
theorem f59_lb1_eq (a b:Addr) (c e:Int) (f:Addr) (g:OA) (h i:Nat) (d:Int) (w:World) (K:KT) (Y1:YT):f59_lb1 a b c e f g h i d w K Y1=(BIf (decide ((c:Int) < d)) (f59_s2 a b f g h i d c e w K Y1) (f59_s10 a b w K)):=by kernel_rfl
theorem f59_s0_eq (d e:Addr) (f:Int) (a:OA) (b c:Nat) (w:World) (K:KT):f59_s0 d e f a b c w K=(CallL P 47 [] w (fun k l=>∃ g:Array Value,k=(.agg g)∧NewC (zcells P 33) 33 l (fun h m=>StA 90 (Addr.mk h 0 none) g m (fun i=>∃ j:Int,(∀ wq,Ext i wq→(Builtin.len_ #[22] 3 [(Value.slice a b c)].toArray).run P wq=.ok (.int .i64 j) wq)∧LoopE (f59_lp1 K) (Env.mk 70 [(2,(Value.pointer (some d))),(4,(Value.pointer (some e))),(17,(Value.int .i64 0)),(3,(Value.int .i64 f)),(5,(Value.pointer (some (Addr.mk h 0 none)))),(15,(Value.slice a b c)),(16,(Value.int .i64 j))] []) i)))):=by kernel_rfl
theorem f59_eq (b:OA) (c d:Nat) (w:World) (K:KT):f59 b c d w K=(NewC (zcells P 141) 141 w (fun e i=>NewC (zcells P 141) 141 i (fun f a=>∃ g:Int,(∀ wq,Ext a wq→(Builtin.len_ #[22] 3 [(Value.slice b c d)].toArray).run P wq=.ok (.int .i64 g) wq)∧BIf (decide ((g:Int) > 20000)) (LdA 3 (Addr.mk f 0 none) a (fun j=>StA 3 (Addr.mk e 0 none) j a (fun h=>LdA 3 (Addr.mk e 0 none) h (fun k=>K (Value.tuple [(Value.agg k),(Value.int .i64 2)].toArray) h)))) (f59_s0 (Addr.mk e 0 none) (Addr.mk f 0 none) 0 b c d a K)))):=by kernel_rfl
theorem f59_ok (a:OA) (b c:Nat) (w:World) (K:KT) (h:f59 a b c w K):CallL P 59 [(Value.slice a b c)] w K:=okCS c59 Tryz.func59 (by kernel_rfl) (by kernel_rfl) h
noncomputable def c34:Code:=bodyOf Tryz.f34
noncomputable def rs34:List ResultVar:=Tryz.f34.results.toList
abbrev f34_kb (K:KT):Exit→YT:=bodyK P rs34 K
def f34 (a:OA) (b c:Nat) (w:World) (K:KT):Prop:=CS P c34 none [2,3] [2,3] (f34_kb K) (env0 43 [(VS a b c)]) w
def f34_s0 (a:OA) (b c:Nat) (d:Int) (f:OA) (g h:Nat) (w:World) (K:KT):Prop:=SG P (cA c34 7) none [2,3] [2,3] (f34_kb K) (Env.mk 43 [(2,(VS a b c)),(3,(VI d)),(0,(VS f g h))] []) w
abbrev f34_k7 (K:KT):Exit→YT:=kseq P (cA c34 62) (cA c34 63) none [2,3] [2,3] (f34_kb K)
abbrev f34_k9 (K:KT):Exit→YT:=kblock 0 (f34_k7 K)
def f34_lp1 (K:KT) (Y1:YT) (e:Env) (w:World):Prop:=Join (fun e w=>CS P (cA c34 500) none [7,23,6,21,2,3,22] [2,3,7] (kloop [7,23,6,21,2,3,22] Y1 (f34_k9 K)) e w) e w
abbrev f34_kl1 (K:KT) (Y1:YT):Exit→YT:=kloop [7,23,6,21,2,3,22] Y1 (f34_k9 K)
def f34_lb1 (a:OA) (b c:Nat) (d:Int) (f g:OA) (h i:Nat) (j:OA) (k l:Nat) (m n:Int) (w:World) (K:KT) (Y1:YT):Prop:=SG P (cA c34 500) none [7,23,6,21,2,3,22] [2,3,7] (f34_kl1 K Y1) (Env.mk 43 [(7,(VS a b c)),(23,(VI d)),(6,(VP f)),(21,(VS g h i)),(2,(VS j k l)),(3,(VI m)),(22,(VI n))] []) w
def f34_s2 (a:OA) (b c:Nat) (d f:OA) (g h:Nat) (i j:Int) (k:OA) (l m:Nat) (n:Int) (w:World) (K:KT) (Y1:YT):Prop:=SG P (cA c34 2003) none [7,23,6,21,2,3,22] [2,3,7] (f34_kl1 K Y1) (Env.mk 43 [(7,(VS a b c)),(6,(VP d)),(21,(VS f g h)),(22,(VI i)),(23,(VI j)),(2,(VS k l m)),(3,(VI n))] []) w
abbrev f34_k12 (K:KT) (Y1:YT):Exit→YT:=kseq P (cA c34 4006) (cA c34 4007) none [7,23,6,21,2,3,22] [2,3,7] (f34_kl1 K Y1)
abbrev f34_k13 (K:KT) (Y1:YT):Exit→YT:=kblock 1 (f34_k12 K Y1)
def f34_s3 (a b:OA) (c d:Nat) (f:OA) (g h:Nat) (i j k:Int) (l:OA) (m n:Nat) (o:OA) (p q:Nat) (w:World) (K:KT) (Y1:YT):Prop:=SG P (cA c34 64103) none [7,6,21,2,3,22,23] [2,3,7,6,21,22,23] (f34_k13 K Y1) (Env.mk 43 [(6,(VP a)),(21,(VS b c d)),(2,(VS f g h)),(3,(VI i)),(22,(VI j)),(23,(VI k)),(10,(VS l m n)),(7,(VS o p q))] []) w
def f34_s4 (a:OA) (b c:Nat) (d f:OA) (g h:Nat) (i:OA) (j k:Nat) (l m n:Int) (w:World) (K:KT) (Y1:YT):Prop:=SG P (cA c34 4007) none [7,23,6,21,2,3,22] [2,3,7] (f34_kl1 K Y1) (Env.mk 43 [(7,(VS a b c)),(6,(VP d)),(21,(VS f g h)),(2,(VS i j k)),(3,(VI l)),(22,(VI m)),(23,(VI n))] []) w
theorem f34_s4_eq (a:OA) (b c:Nat) (d e:OA) (f g:Nat) (h:OA) (i j:Nat) (k l m:Int) (w:World) (K:KT) (Y1:YT):f34_s4 a b c d e f g h i j k l m w K Y1=(Y1 (Env.mk 43 [(7,(Value.slice a b c)),(23,(Value.int .i64 (IntKind.wrap .i64 ((m:Int)+1)))),(6,(Value.pointer d)),(21,(Value.slice e f g)),(2,(Value.slice h i j)),(3,(Value.int .i64 k)),(22,(Value.int .i64 l))] []) w):=by kernel_rfl
theorem f34_s3_eq (a b:OA) (c d:Nat) (e:OA) (f g:Nat) (h i j:Int) (k:OA) (l m:Nat) (n:OA) (o p:Nat) (w:World) (K:KT) (Y1:YT):f34_s3 a b c d e f g h i j k l m n o p w K Y1=(∃ (q:OA) (r s:Nat),∃ t:World,(Builtin.append_ #[39,39] 39 [(Value.slice n o p),(Value.slice k l m)].toArray).run P w=.ok (.slice q r s) t∧f34_s4 q r s a b c d e f g h i j t K Y1):=by kernel_rfl
theorem f34_s2_eq (f:OA) (g h:Nat) (b c:OA) (d i:Nat) (j a:Int) (k:OA) (l m:Nat) (n:Int) (w:World) (K:KT) (Y1:YT):f34_s2 f g h b c d i j a k l m n w K Y1=(optS c (fun u=>0≤(a:Int)∧(a:Int) < (d:Nat)∧LdA 6 (u.add (Int.toNat a * 6)) w (fun v=>NewC (zcells P 45) 45 w (fun o x=>StA 6 (Addr.mk o 0 none) v x (fun p=>LdA 6 (Addr.mk o 0 none) p (fun y=>CallL P 7 [(Value.pointer b),(Value.agg y)] p (fun z q=>∃ (r:OA) (s t:Nat),∃ e:Int,z=(.tuple [(Value.slice r s t),(Value.int .i64 e)].toArray)∧BIf ((e:Int) != 0) (K (Value.tuple [(Value.slice none 0 0),(Value.int .i64 e)].toArray) q) (f34_s3 b c d i k l m n j a r s t f g h q K Y1)))))))):=by kernel_rfl
def f34_s5 (a:OA) (b c:Nat) (w:World) (K:KT):Prop:=SG P (cA c34 63) none [2,3] [2,3] (f34_kb K) (Env.mk 43 [(7,(VS a b c))] []) w
theorem f34_s5_eq (a:OA) (b c:Nat) (w:World) (K:KT):f34_s5 a b c w K=(CallL P 65 [(Value.slice a b c),(Value.func (.func 66) #[] #[])] w (fun d e=>d=(.tuple [].toArray)∧K (Value.tuple [(Value.slice a b c),(Value.int .i64 0)].toArray) e)):=by kernel_rfl
theorem f34_lb1_eq (a:OA) (b c:Nat) (d:Int) (f g:OA) (h i:Nat) (j:OA) (k l:Nat) (m e:Int) (w:World) (K:KT) (Y1:YT):f34_lb1 a b c d f g h i j k l m e w K Y1=(BIf (decide ((d:Int) < e)) (f34_s2 a b c f g h i e d j k l m w K Y1) (f34_s5 a b c w K)):=by kernel_rfl
theorem f34_s0_eq (d:OA) (e f:Nat) (g:Int) (a:OA) (b c:Nat) (w:World) (K:KT):f34_s0 d e f g a b c w K=(CallL P 11 [] w (fun k h=>∃ i:Option Addr,k=(.pointer i)∧∃ j:Int,(∀ wq,Ext h wq→(Builtin.len_ #[22] 3 [(Value.slice a b c)].toArray).run P wq=.ok (.int .i64 j) wq)∧LoopE (f34_lp1 K) (Env.mk 43 [(7,(Value.slice none 0 0)),(23,(Value.int .i64 0)),(6,(Value.pointer i)),(21,(Value.slice a b c)),(2,(Value.slice d e f)),(3,(Value.int .i64 g)),(22,(Value.int .i64 j))] []) h)):=by kernel_rfl
theorem f34_eq (a:OA) (b c:Nat) (w:World) (K:KT):f34 a b c w K=(CallL P 59 [(Value.slice a b c)] w (fun g h=>∃ e:Array Value,∃ d:Int,g=(.tuple [(Value.agg e),(Value.int .i64 d)].toArray)∧NewC (zcells P 141) 141 h (fun i j=>StA 3 (Addr.mk i 0 none) e j (fun f=>BIf ((d:Int) != 0) (K (Value.tuple [(Value.slice none 0 0),(Value.int .i64 d)].toArray) f) (f34_s0 none 0 0 0 a b c f K))))):=by kernel_rfl
theorem f34_ok (a:OA) (b c:Nat) (w:World) (K:KT) (h:f34 a b c w K):CallL P 34 [(Value.slice a b c)] w K:=okCS c34 Tryz.func34 (by kernel_rfl) (by kernel_rfl) h
noncomputable def c16:Code:=bodyOf Tryz.f16
noncomputable def rs16:List ResultVar:=Tryz.f16.results.toList
abbrev f16_kb (K:KT):Exit→YT:=bodyK P rs16 K
def f16 (a:OA) (b c:Nat) (w:World) (K:KT):Prop:=CS P c16 none [2] [2] (f16_kb K) (env0 30 [(VS a b c)]) w
abbrev f16_k2 (K:KT):Exit→YT:=kseq P (cA c16 14) (cA c16 15) none [2] [2] (f16_kb K)
abbrev f16_k4 (K:KT):Exit→YT:=kblock 0 (f16_k2 K)
def f16_lp0 (K:KT) (Y0:YT) (e:Env) (w:World):Prop:=Join (fun e w=>CS P (cA c16 116) none [8,3,6,2,7] [2,3] (kloop [8,3,6,2,7] Y0 (f16_k4 K)) e w) e w
abbrev f16_kl0 (K:KT) (Y0:YT):Exit→YT:=kloop [8,3,6,2,7] Y0 (f16_k4 K)
def f16_lb0 (a b:Int) (c:OA) (d f:Nat) (g h:Int) (w:World) (K:KT) (Y0:YT):Prop:=SG P (cA c16 116) none [8,3,6,2,7] [2,3] (f16_kl0 K Y0) (Env.mk 30 [(8,(VI a)),(3,(VI b)),(6,(VS c d f)),(2,(VI g)),(7,(VI h))] []) w
def f16_s1 (a:OA) (b c:Nat) (d f g h:Int) (w:World) (K:KT) (Y0:YT):Prop:=SG P (cA c16 467) none [8,3,6,2,7] [2,3] (f16_kl0 K Y0) (Env.mk 30 [(6,(VS a b c)),(2,(VI d)),(7,(VI f)),(8,(VI g)),(3,(VI h))] []) w
abbrev f16_k7 (K:KT) (Y0:YT):Exit→YT:=kseq P (cA c16 934) (cA c16 935) none [8,3,6,2,7] [2,3] (f16_kl0 K Y0)
abbrev f16_k8 (K:KT) (Y0:YT):Exit→YT:=kblock 1 (f16_k7 K Y0)
abbrev f16_k11 (K:KT) (Y0:YT):Exit→YT:=kblock 2 (f16_k8 K Y0)
def f16_s2 (a:Bool) (b:OA) (c d:Nat) (f g h:Int) (i:Addr) (j:Int) (w:World) (K:KT) (Y0:YT):Prop:=SG P (cA c16 29901) none [3,6,2,7,8] [2,3,6,7,8] (f16_k11 K Y0) (Env.mk 30 [(14,(VB a)),(6,(VS b c d)),(2,(VI f)),(7,(VI g)),(8,(VI h)),(5,(VP (some i))),(3,(VI j))] []) w
def f16_s3 (a:Int) (b:OA) (c d:Nat) (f g h:Int) (w:World) (K:KT) (Y0:YT):Prop:=SG P (cA c16 935) none [8,3,6,2,7] [2,3] (f16_kl0 K Y0) (Env.mk 30 [(3,(VI a)),(6,(VS b c d)),(2,(VI f)),(7,(VI g)),(8,(VI h))] []) w
theorem f16_s3_eq (a:Int) (b:OA) (c d:Nat) (e f g:Int) (w:World) (K:KT) (Y0:YT):f16_s3 a b c d e f g w K Y0=(Y0 (Env.mk 30 [(8,(Value.int .i64 (IntKind.wrap .i64 ((g:Int)+1)))),(3,(Value.int .i64 a)),(6,(Value.slice b c d)),(2,(Value.int .i64 e)),(7,(Value.int .i64 f))] []) w):=by kernel_rfl
theorem f16_s2_eq (i:Bool) (a:OA) (b c:Nat) (d e f:Int) (h:Addr) (g:Int) (w:World) (K:KT) (Y0:YT):f16_s2 i a b c d e f h g w K Y0=(BIf i (∃ j:Int,w.cell? (h.add 5)=some (.int .i64 j)∧BIf (decide ((j:Int) > 0)) (∃ k:Int,w.cell? (h.add 5)=some (.int .i64 k)∧∃ l:Int,∃ m:World,(Builtin.min_ #[3,3] 3 [(Value.int .i64 k),(Value.int .i64 1048576)].toArray).run P w=.ok (.int .i64 l) m∧f16_s3 (IntKind.wrap .i64 ((g:Int)+l)) a b c d e f m K Y0) (f16_s3 g a b c d e f w K Y0)) (f16_s3 g a b c d e f w K Y0)):=by kernel_rfl
theorem f16_s1_eq (b:OA) (c e:Nat) (f g a h:Int) (w:World) (K:KT) (Y0:YT):f16_s1 b c e f g a h w K Y0=(optS b (fun k=>0≤(a:Int)∧(a:Int) < (c:Nat)∧LdA 6 (k.add (Int.toNat a * 6)) w (fun l=>NewC (zcells P 45) 45 w (fun d m=>StA 6 (Addr.mk d 0 none) l m (fun i=>∃ j:Int,i.cell? (Addr.mk d 0 none)=some (.int .i64 j)∧BIf ((j:Int) == 2) (f16_s2 true b c e f g a (Addr.mk d 0 none) h i K Y0) (BIf ((j:Int) == 3) (f16_s2 true b c e f g a (Addr.mk d 0 none) h i K Y0) (BIf ((j:Int) == 4) (f16_s2 true b c e f g a (Addr.mk d 0 none) h i K Y0) (BIf ((j:Int) == 22) (f16_s2 true b c e f g a (Addr.mk d 0 none) h i K Y0) (f16_s2 ((j:Int) == 23) b c e f g a (Addr.mk d 0 none) h i K Y0))))))))):=by kernel_rfl
def f16_s4 (a:Int) (w:World) (K:KT):Prop:=SG P (cA c16 15) none [2] [2] (f16_kb K) (Env.mk 30 [(3,(VI a))] []) w
theorem f16_s4_eq (a:Int) (w:World) (K:KT):f16_s4 a w K=(K (Value.int .i64 a) w):=by kernel_rfl
theorem f16_lb0_eq (a b:Int) (d:OA) (e f:Nat) (g c:Int) (w:World) (K:KT) (Y0:YT):f16_lb0 a b d e f g c w K Y0=(BIf (decide ((a:Int) < c)) (f16_s1 d e f g c a b w K Y0) (f16_s4 b w K)):=by kernel_rfl
theorem f16_eq (a:OA) (b c:Nat) (w:World) (K:KT):f16 a b c w K=(∃ d:Int,(∀ wq,Ext w wq→(Builtin.len_ #[22] 3 [(Value.slice a b c)].toArray).run P wq=.ok (.int .i64 d) wq)∧LoopE (f16_lp0 K) (Env.mk 30 [(8,(Value.int .i64 0)),(3,(Value.int .i64 0)),(6,(Value.slice a b c)),(2,(Value.int .i64 0)),(7,(Value.int .i64 d))] []) w):=by kernel_rfl
theorem f16_ok (a:OA) (b c:Nat) (w:World) (K:KT) (h:f16 a b c w K):CallL P 16 [(Value.slice a b c)] w K:=okCS c16 Tryz.func16 (by kernel_rfl) (by kernel_rfl) h
end Go.Fx.Tryz
namespace Go.Fx.Tryz
open Go Go.Fx Go.Fx.Mo
open Go.Proofs
variable {w0 w:World} {H:HL} {K:KT}
set_option maxRecDepth 20000
def evsCs (l:List Ev):List Value:=(l.map Evcs).flatten
theorem Evcs_len (e:Ev):(Evcs e).length=6:=rfl
theorem Evcs_one (e:Ev):∀ v∈(Evcs e).toArray.toList,v.oneCell'=true:=by simp [Evcs,Value.oneCell']
theorem evs_at {l:List Ev} {i:Nat} (hi:i < l.length):((evsCs l).drop (i * 6)).take 6=Evcs l[i]:=flat_slice (f:=Evcs) (fun x _=>Evcs_len x) hi
def madeCs (m:Made):List Value:=I64 m.first::m.last.map I64
def mades (l:List Made):List Value:=(l.map madeCs).flatten
theorem mades_snoc (l:List Made) (m:Made):mades (l++[m])=mades l++madeCs m:=by simp [mades]
theorem z89:zcells P 141=#[nilS,nilS,nilS]:=by kernel_rfl
theorem z35:∃ cs:List Value,zcells P 45=cs.toArray∧cs.length=6:=⟨_,rfl,by kernel_rfl⟩
theorem build89 (wq:World):(Instr.build 141 [].toArray).run P wq=.ok (.agg #[nilS,nilS,nilS]) wq:=by kernel_rfl
theorem build158 (x:Int) {c:Clk} (hc:c.length=8) (wq:World):(Instr.build 173 [(0,(Value.int .i64 x)),(1,(Value.agg (c.map I64).toArray))].toArray).run P wq=.ok (.agg (madeCs ⟨x,c⟩).toArray) wq:=by
 obtain ⟨c0,c1,c2,c3,c4,c5,c6,c7,rfl⟩:=own8 hc
 kernel_rfl
theorem info158:P.info? 173=some Tryz.t173:=by kernel_rfl
theorem info3:P.info? 3=some Tryz.t3:=by kernel_rfl
theorem run_len_22 {p:Option Addr} {l c:Nat} (wq:World):(Builtin.len_ #[22] 3 [Value.slice p l c].toArray).run P wq=.ok (.int .i64 l) wq:=run_len_slice p l c Tryz.underlying22 3
theorem run_len_57 {p:Option Addr} {l c:Nat} (wq:World):(Builtin.len_ #[60] 3 [Value.slice p l c].toArray).run P wq=.ok (.int .i64 l) wq:=run_len_slice p l c Tryz.underlying60 3
theorem ords_one (l:List Ord):∀ v∈ords l,v.oneCell'=true:=by
 intro v hv
 obtain ⟨x,hx,hv⟩:=List.mem_flatten.1 hv
 obtain ⟨r,_,rfl⟩:=List.mem_map.1 hx
 simp [Ordcs] at hv
 rcases hv with rfl | rfl | rfl | rfl <;> rfl
theorem act_orders (T:Th) (e:Ev) (p:Pl):(act T e p).orders.length≤p.orders.length+(if e.kind=4 then e.n.toNat else 1):=by
 unfold act
 by_cases h4:e.kind=4
 ·rw [if_pos h4,if_pos h4]
  rw [← atomic_eq]
  exact aSt_orders T e p _
 ·rw [if_neg h4,if_neg h4]
  have hn:∀ x,(number T p x).2.orders=p.orders:=fun x=>number_orders T p x
  split
  ·unfold spawn
   split
   ·simp
   ·simp [tick]
  ·split
   ·unfold Mo.join
    split
    ·simp
    ·simp [tick]
   ·split
    ·simp [Mo.lock,tick,acquire,hn]
    ·split
     ·simp [Mo.unlock,tick,release,hn]
     ·simp [Mo.step,tick]
theorem plan_orders {T:Th} {e:Ev} {q:Pl} (h:plan T e=some q):q.orders.length≤16:=by
 obtain ⟨k1,k2,t1,t2,hn16⟩:=refused_kind (plan_refused h)
 unfold plan at h
 split at h
 ·cases h
 ·split at h
  ·cases h
  ·cases h
   have:=act_orders T e (pl0 T e)
   have h0:(pl0 T e).orders.length=0:=rfl
   split at this
   ·rename_i h4; have:=hn16 h4; omega
   ·omega
structure HistOk (w0:World) (h:Hist) (v1 v2 v3:Value) (L1 L2 L3:HL):Prop where
 s1:SlO 4 72 v1 h.orders.length (ords h.orders) L1
 s2:SlO 1 3 v2 h.of.length (h.of.map I64) L2
 s3:SlO 9 173 v3 h.events.length (mades h.events) L3
 n1:New w0 L1
 n2:New w0 L2
 n3:New w0 L3
 each:∀ m∈h.events,m.last.length=8
abbrev runH (n3:Nat) (v1 v2 v3:Value) (L1 L2 L3 Y:HL):List (Nat × Obj):=(n3,Cs [v1,v2,v3] 141)::(L1++(L2++(L3++Y)))
theorem runH_mem {n3:Nat} {v1 v2 v3:Value} {L1 L2 L3 Y:HL} {y:Nat × Obj} (h:y∈Y):y∈runH n3 v1 v2 v3 L1 L2 L3 Y:=by simp [h]
theorem run_s3 {p:Pl} {h0:Hist} {n1 n3 n16 i len:Nat} {pbk:Nat} {sa:Option Addr} {sc:Nat} {v1 v2 v3 ov:Value} {L1 L2 L3 M Y:HL} {t:TypeId} {e:Ev} {ob nb:Nat} {Y1:YT}
  (hw:St w0 w (runH n3 v1 v2 v3 L1 L2 L3 Y)) (hh:HistOk w0 h0 v1 v2 v3 L1 L2 L3) (hown:p.own.length=8) (hpl:(pbk,Cs (planCs n16 e ov ob nb p) t)∈Y) (hov:SlO 4 72 ov p.orders.length (ords p.orders) M) (hM:∀ y∈M,y∈Y)
  (hb:h0.orders.length≤1000000∧h0.of.length≤1000000∧h0.events.length≤1000000∧p.orders.length≤1000∧i < 1000000)
  (hK:∀ w' v1' v2' v3' L1' L2' L3',HistOk w0 ⟨h0.orders++p.orders,h0.of++List.replicate p.orders.length (i:Int),h0.events++[⟨p.tk,p.own⟩]⟩ v1' v2' v3' L1' L2' L3'→St w0 w' (runH n3 v1' v2' v3' L1' L2' L3' Y)→
   Y1 (Env.mk 70 [(2,(ptr n1)),(4,(ptr n3)),(17,(Value.int .i64 (IntKind.wrap .i64 ((i:Int)+1)))),(3,(Value.int .i64 0)),(5,(ptr n16)),(15,(Value.slice sa len sc)),(16,(Value.int .i64 len))] []) w') :
  ∃ (s59a:Option Addr) (s59l s59c:Nat),w.cell? (Addr.mk n3 0 none)=some (Value.slice s59a s59l s59c)∧∃ (s60a:Option Addr) (s60l s60c:Nat),w.cell? ((Addr.mk pbk 0 none).add 7)=some (Value.slice s60a s60l s60c)∧∃ (s61a:Option Addr) (s61l s61c:Nat),∃ w62:World,
   (Builtin.append_ #[60,60] 60 [(Value.slice s59a s59l s59c),(Value.slice s60a s60l s60c)].toArray).run P w=.ok (Value.slice s61a s61l s61c) w62∧St1 (Addr.mk n3 0 none) (Value.slice s61a s61l s61c) w62 (fun w63=>f59_s4 (Addr.mk n3 0 none) i (Addr.mk n1 0 none) 0 (Addr.mk n16 0 none) sa len sc len i (some (Addr.mk pbk 0 none)) w63 K Y1):=by
 obtain ⟨o1,o2,ho⟩:=hov.form
 obtain ⟨h1a,h1c,hv1⟩:=hh.s1.form
 have pl7:∀ {w':World} {v1 L1 v2 L2 v3 L3} {X:HL},St w0 w' (X++runH n3 v1 v2 v3 L1 L2 L3 Y)→w'.heap[pbk]?=some (Cs (planCs n16 e ov ob nb p) t):=fun h'=>h'.has pbk _ (List.mem_append_right _ (runH_mem hpl))
 refine ⟨h1a,_,h1c,by rw [hw.cell (k:=0) rfl,← hv1]; rfl,o1,_,o2,by rw [add_lit',Nat.zero_add,cell_of (pl7 (X:=[]) hw),← ho]; rfl,?_⟩
 obtain ⟨b1,b2,b3,b4,b5⟩:=hb
 obtain ⟨v',w1,L1',hr,hS1,hs1,hN1⟩:=St.appendN (P:=P) 60 60 72 Tryz.t72 (.agg #[I64 0,I64 0,I64 0,I64 0]) 4 32 Tryz.underlying60 info99 rfl rfl rfl rfl (by omega)
  (A:=[(n3,Cs [v1,v2,v3] 141)]) (L:=L1) (H:=L2++(L3++Y)) hw hh.s1 hh.n1 hov (fun y hy=>hw.has _ _ (runH_mem (hM y hy))) (ords_one _) (by simp [maxLen]; omega) (by omega)
 rw [hv1,ho] at hr
 obtain ⟨q1,q2,hq⟩:=hS1.form
 subst hq
 refine ⟨_,_,_,w1,hr,?_⟩
 have hs1:St w0 w1 (runH n3 v1 v2 v3 L1' L2 L3 Y):=hs1
 refine hs1.st1 (k:=0) rfl (by simp) rfl fun w2 h2=>?_
 have h2:St w0 w2 (runH n3 (.slice q1 (h0.orders.length+p.orders.length) q2) v2 v3 L1' L2 L3 Y):=h2
 rw [f59_s4_eq]
 refine ⟨o1,_,o2,by rw [add_lit',Nat.zero_add,cell_of (pl7 (X:=[]) h2),← ho]; rfl,p.orders.length,fun wq _=>run_len_57 wq,?_⟩
 refine ⟨fun m ee w=>∃ (k:Nat) (v2':Value) (L2':HL),k≤p.orders.length∧m=p.orders.length - k∧
  ee=Env.mk 70 [(45,(Value.int .i64 k)),(4,(ptr n3)),(6,(Value.int .i64 i)),(2,(ptr n1)),(3,(Value.int .i64 0)),(5,(ptr n16)),(15,(Value.slice sa len sc)),(16,(Value.int .i64 len)),(17,(Value.int .i64 i)),(8,(ptr pbk)),(44,(Value.int .i64 p.orders.length))] []∧
  SlO 1 3 v2' (h0.of.length+k) ((h0.of++List.replicate k (i:Int)).map I64) L2'∧New w0 L2'∧St w0 w (runH n3 (.slice q1 (h0.orders.length+p.orders.length) q2) v2' v3 L1' L2' L3 Y),
  ⟨p.orders.length,0,v2,L2,by omega,rfl,rfl,by simpa using hh.s2,hh.n2,h2⟩,?_⟩
 rintro m ee w3 ⟨k,v2',L2',hk,rfl,rfl,hS2,hN2,h3⟩
 show f59_lb5 ..
 rw [f59_lb5_eq,BIf_iff]
 constructor
 ·intro hlt
  have hlt:k < p.orders.length:=by simpa using hlt
  rw [f59_s6_eq]
  obtain ⟨r1,r2,hr2⟩:=hS2.form
  refine ⟨r1,_,r2,by rw [add_lit',Nat.zero_add,h3.cell (k:=0) rfl,← hr2]; rfl,⟨rfl,trivial⟩,?_⟩
  refine h3.newC fun n102 w4 hn102 h4=>?_
  obtain ⟨g,cap,w5,L2'',hr',hS2',hs5,hN2'⟩:=St.append (P:=P) 61 61 3 Tryz.t3 (I64 0) 1 8 Tryz.underlying61 info3 rfl rfl rfl rfl (by omega)
   (A:=(n102,Cs [I64 i] 3)::(n3,Cs [.slice q1 (h0.orders.length+p.orders.length) q2,v2',v3] 141)::L1') (L:=L2') (H:=L3++Y) (by exact h4) hS2 hN2 (j:=0) rfl rfl (by simp [Value.oneCell']) (by simp [maxLen]; omega) (by omega)
  rw [hr2] at hr'
  refine ⟨_,_,_,w5,hr',?_⟩
  have hs5:St w0 w5 ((n102,Cs [I64 i] 3)::runH n3 (.slice q1 (h0.orders.length+p.orders.length) q2) v2' v3 L1' L2'' L3 Y):=hs5
  simp only [add_lit',Nat.zero_add]
  refine hs5.st1 (k:=1) rfl (by simp) rfl fun w6 h6=>?_
  rw [f59_s7_eq]
  refine ⟨p.orders.length - (k+1),by omega,k+1,_,L2'',by omega,rfl,?_,?_,hN2',h6.tail hn102⟩
  ·rw [wrap_i64 (by omega) (by omega)]; rfl
  ·have e:(h0.of++List.replicate (k+1) (i:Int)).map I64=(h0.of++List.replicate k (i:Int)).map I64++[I64 i]:=by
    rw [List.replicate_succ',← List.append_assoc,List.map_append]; rfl
   rw [e]
   exact hS2'
 ·intro hge
  have:k=p.orders.length:=by simp at hge; omega
  subst this
  rw [f59_s8_eq]
  have hd:=h3.drew
  refine ⟨p.tk,by rw [add_lit',Nat.zero_add,cell_of (pl7 (X:=[]) hd)]; exact planCs_rest hown 0,?_⟩
  rw [add_lit',Nat.zero_add]
  have hown8:((planCs n16 e ov ob nb p).drop 8).take 8=p.own.map I64:=by
   obtain ⟨a,b,c,d,f,g,h,j,hl⟩:=own8 hown
   simp only [planCs,Evcs,hl]
   rfl
  refine LdA_of (pl7 (X:=[]) hd) (by rw [planCs_len hown]; omega) ?_
  rw [hown8]
  refine ⟨_,build158 p.tk hown,?_⟩
  obtain ⟨r1,r2,hr3⟩:=hh.s3.form
  have hml:(madeCs ⟨p.tk,p.own⟩).length=9:=by simp [madeCs,hown]
  have fin:∀ n134 w132,w0.heap.size≤n134→St w0 w132 ((n134,Cs (madeCs ⟨p.tk,p.own⟩) 173)::runH n3 (.slice q1 (h0.orders.length+p.orders.length) q2) v2' v3 L1' L2' L3 Y)→
    ∃ g cap w136,(Builtin.append_ #[139,139] 139 [v3,.slice (some ⟨n134,0,none⟩) 1 1].toArray).run P w132=.ok (.slice (some ⟨g,0,none⟩) (h0.events.length+1) cap) w136∧
     St1 (Addr.mk n3 2 none) (.slice (some ⟨g,0,none⟩) (h0.events.length+1) cap) w136 fun w137=>f59_s9 (Addr.mk n1 0 none) (Addr.mk n3 0 none) 0 (Addr.mk n16 0 none) sa len sc len i w137 K Y1:=by
   intro n134 w132 hn134 h132
   obtain ⟨g,cap,w5,L3',hr',hS3',hs5,hN3'⟩:=St.append (P:=P) 139 139 173 Tryz.t173 (.agg #[I64 0,I64 0,I64 0,I64 0,I64 0,I64 0,I64 0,I64 0,I64 0]) 9 72 Tryz.underlying139 info158 rfl rfl rfl rfl (by omega)
    (A:=(n134,Cs (madeCs ⟨p.tk,p.own⟩) 173)::(n3,Cs [.slice q1 (h0.orders.length+p.orders.length) q2,v2',v3] 141)::(L1'++L2')) (L:=L3) (H:=Y) (by
     have:(n134,Cs (madeCs ⟨p.tk,p.own⟩) 173)::(n3,Cs [.slice q1 (h0.orders.length+p.orders.length) q2,v2',v3] 141)::(L1'++L2')++(L3++Y)=(n134,Cs (madeCs ⟨p.tk,p.own⟩) 173)::runH n3 (.slice q1 (h0.orders.length+p.orders.length) q2) v2' v3 L1' L2' L3 Y:=by simp
     rw [this]; exact h132) hh.s3 hh.n3 (j:=0) rfl hml (by
     intro u hu
     simp only [madeCs,List.mem_cons,List.mem_map] at hu
     rcases hu with rfl | ⟨x,_,rfl⟩ <;> rfl) (by simp [maxLen]; omega) (by omega)
   refine ⟨g,cap,w5,hr',?_⟩
   have hs5:St w0 w5 ((n134,Cs (madeCs ⟨p.tk,p.own⟩) 173)::runH n3 (.slice q1 (h0.orders.length+p.orders.length) q2) v2' v3 L1' L2' L3' Y):=by
    have:(n134,Cs (madeCs ⟨p.tk,p.own⟩) 173)::(n3,Cs [.slice q1 (h0.orders.length+p.orders.length) q2,v2',v3] 141)::(L1'++L2')++(L3'++Y)=(n134,Cs (madeCs ⟨p.tk,p.own⟩) 173)::runH n3 (.slice q1 (h0.orders.length+p.orders.length) q2) v2' v3 L1' L2' L3' Y:=by simp
    rw [this] at hs5; exact hs5
   refine hs5.st1 (k:=1) rfl (by simp) rfl fun w6 h6=>?_
   rw [f59_s9_eq]
   refine hK w6 _ v2' _ L1' L2' L3' ⟨?_,?_,?_,hN1,hN2,hN3',fun m hm=>by
    rcases List.mem_append.1 hm with hm | hm
    ·exact hh.each m hm
    ·simp at hm; rw [hm]; exact hown⟩ (h6.tail hn134)
   ·simp only [List.length_append]
    have:ords (h0.orders++p.orders)=ords h0.orders++ords p.orders:=by simp [ords]
    rw [this]
    exact hS1
   ·simp only [List.length_append,List.length_replicate]
    exact hS2
   ·simp only [List.length_append,List.length_singleton]
    rw [mades_snoc]
    exact hS3'
  have rd:∀ {w':World} {X:HL},St w0 w' (X++runH n3 (.slice q1 (h0.orders.length+p.orders.length) q2) v2' v3 L1' L2' L3 Y)→w'.cell? ((Addr.mk n3 0 none).add 2)=some (Value.slice r1 h0.events.length r2):=fun h'=>by
   rw [add_lit',Nat.zero_add,cell_of (h'.has n3 (Cs [.slice q1 (h0.orders.length+p.orders.length) q2,v2',v3] 141) (by simp)),← hr3]; rfl
  constructor
  ·refine ⟨r1,_,r2,rd (X:=[]) hd,⟨by show (madeCs ⟨p.tk,p.own⟩).toArray.size=9; simpa using hml,trivial⟩,?_⟩
   refine hd.newC fun n134 w132 hn134 h132=>?_
   have e0:(([(Value.agg (madeCs ⟨p.tk,p.own⟩).toArray)].map fun (v:Value)=>v.cells.toList).flatten.toArray).toList=madeCs ⟨p.tk,p.own⟩:=by simp [Value.cells]
   rw [e0] at h132
   obtain ⟨g,cap,w136,hr',hst⟩:=fin n134 w132 hn134 h132
   rw [hr3] at hr'
   rw [add_lit',Nat.zero_add]
   exact ⟨_,_,_,w136,hr',hst⟩
  ·refine ⟨⟨by show (madeCs ⟨p.tk,p.own⟩).toArray.size=9; simpa using hml,trivial⟩,?_⟩
   refine hd.newC fun n134 w132 hn134 h132=>?_
   have e0:(([(Value.agg (madeCs ⟨p.tk,p.own⟩).toArray)].map fun (v:Value)=>v.cells.toList).flatten.toArray).toList=madeCs ⟨p.tk,p.own⟩:=by simp [Value.cells]
   rw [e0] at h132
   obtain ⟨g,cap,w136,hr',hst⟩:=fin n134 w132 hn134 h132
   rw [hr3] at hr'
   refine ⟨r1,_,r2,rd (X:=[_]) h132,?_⟩
   rw [add_lit',Nat.zero_add]
   exact ⟨_,_,_,w136,hr',hst⟩
theorem run_ok {l:List Ev} {ov:Value} (h:St w0 w H) (hrow:∀ w',St w0 w' H→Row w' 6 ov l.length (evsCs l)) (hl63:l.length < 9223372036854775808)
  (herr:∀ x,Mo.run l=.inr x→∀ w',St w0 w' H→K (.tuple [.agg #[nilS,nilS,nilS],I64 x].toArray) w')
  (hok:∀ hh,Mo.run l=.inl hh→∀ w' v1 v2 v3 L1 L2 L3,HistOk w0 hh v1 v2 v3 L1 L2 L3→St w0 w' (L1++(L2++(L3++H)))→K (.tuple [.agg #[v1,v2,v3],I64 0].toArray) w') :
  CallL P 59 [ov] w K:=by
 obtain ⟨sa,sc,hov⟩:=(hrow w h).form
 rw [hov]
 refine f59_ok _ _ _ _ _ ?_
 rw [f59_eq,z89]
 refine h.newC fun n1 w1 hn1 h1=>h1.newC fun n3 w2 hn3 h2=>⟨l.length,fun wq _=>run_len_22 wq,?_⟩
 rw [BIf_iff]
 constructor
 ·intro hgt
  have hgt:l.length > 20000:=by simp at hgt; omega
  refine h2.ldA (k:=0) (i:=0) rfl (by simp) (h2.stA (k:=1) rfl rfl (by simp) (by simp [Value.oneCell']) fun w3 h3=>?_)
  refine h3.ldA (k:=1) (i:=0) rfl (by simp [splice_length]) ?_
  exact herr 2 (by unfold Mo.run; rw [if_pos hgt]) w3 ((h3.tail hn3).tail hn1)
 ·intro hle
  have hle:¬ l.length > 20000:=by simp at hle; omega
  have hrunl:Mo.run l=match runL l 0 begin' ⟨[],[],[]⟩ with
   | some h=>.inl h
   | none=>.inr 300:=by unfold Mo.run; rw [if_neg hle]; cases runL l 0 begin' ⟨[],[],[]⟩ <;> rfl
  rw [f59_s0_eq]
  refine begin_ok h2 fun w3 ta tb hta htb h3=>⟨_,rfl,?_⟩
  obtain ⟨zs,hz,hzl⟩:=z121
  rw [hz]
  refine h3.newC fun n16 w4 hn16 h4=>?_
  refine h4.stA (k:=0) rfl (by simp [th0_len]) (by simp [hzl]) (by simpa using th0_one ta tb) fun w5 h5=>?_
  have h5:St w0 w5 ((n16,Cs (splice zs 0 (thCs begin' ta tb)) 33)::(ta,.map #[] 0)::(tb,.map #[] 0)::(n3,Cs [nilS,nilS,nilS] 141)::(n1,Cs [nilS,nilS,nilS] 141)::H):=h5
  rw [splice_whole (by rw [th0_len,hzl]),← List.append_nil (thCs begin' ta tb)] at h5
  refine ⟨l.length,fun wq _=>run_len_22 wq,?_⟩
  let TH:Th→Array MapEntry→Nat→Array MapEntry→Nat→List (Nat × Obj)→List (Nat × Obj):=fun T es3 c3 es4 c4 R=>(n16,Cs (thCs T ta tb++[]) 33)::(ta,.map es3 c3)::(tb,.map es4 c4)::R
  refine ⟨fun m ee w=>∃ (i:Nat) (T:Th) (es3:Array MapEntry) (c3:Nat) (es4:Array MapEntry) (c4:Nat) (h0:Hist) (v1 v2 v3:Value) (L1 L2 L3:HL),i≤l.length∧m=l.length - i∧
   ee=Env.mk 70 [(2,(ptr n1)),(4,(ptr n3)),(17,(Value.int .i64 i)),(3,(Value.int .i64 0)),(5,(ptr n16)),(15,(Value.slice sa l.length sc)),(16,(Value.int .i64 l.length))] []∧
   ThOk T∧MapIs encO es3 c3 (encM encC T.objs)∧MapIs encO es4 c4 (encM encI T.names)∧runL l 0 begin' ⟨[],[],[]⟩=runL (l.drop i) i T h0∧
   HistOk w0 h0 v1 v2 v3 L1 L2 L3∧h0.orders.length≤16 * i∧h0.of.length=h0.orders.length∧h0.events.length=i∧
   St w0 w ((n16,Cs (thCs T ta tb++[]) 33)::(ta,.map es3 c3)::(tb,.map es4 c4)::(n1,Cs [nilS,nilS,nilS] 141)::runH n3 v1 v2 v3 L1 L2 L3 H),
   ⟨l.length,0,begin',#[],0,#[],0,⟨[],[],[]⟩,nilS,nilS,nilS,[],[],[],by omega,rfl,rfl,th0_ok,MapIs.empty,MapIs.empty,rfl,⟨SlO.nil 4 72,SlO.nil 1 3,SlO.nil 9 173,New.nil w0,New.nil w0,New.nil w0,by simp⟩,by simp,rfl,rfl,h5.perm (perm_by fun c=>?_)⟩,?_⟩
  ·simp only [runH,List.nil_append,List.map_cons,List.sum_cons]; omega
  rintro m ee w6 ⟨i,T,es3,c3,es4,c4,h0,v1,v2,v3,L1,L2,L3,hi,rfl,rfl,hT,hm3,hm4,hrun,hh,hb1,hb2,hb3,h6⟩
  show f59_lb1 ..
  have hrow6:∀ {w':World} {X:HL},New w0 X→St w0 w' (X++H)→Row w' 6 ov l.length (evsCs l):=fun hX h'=>hrow _ (h'.sub hX)
  have hnewX:∀ {L1 L2 L3:HL} {v1 v2 v3:Value} {T:Th} {es3 c3 es4 c4},New w0 L1→New w0 L2→New w0 L3→New w0 ((n16,Cs (thCs T ta tb++[]) 33)::(ta,Obj.map es3 c3)::(tb,Obj.map es4 c4)::(n1,Cs [nilS,nilS,nilS] 141)::(n3,Cs [v1,v2,v3] 141)::(L1++(L2++L3))):=by
   intro L1 L2 L3 v1 v2 v3 T es3 c3 es4 c4 k1 k2 k3 x hx
   simp only [List.mem_cons,List.mem_append] at hx
   rcases hx with rfl | rfl | rfl | rfl | rfl | hx | hx | hx
   ·exact hn16
   ·exact hta
   ·exact htb
   ·exact hn1
   ·exact hn3
   ·exact k1 x hx
   ·exact k2 x hx
   ·exact k3 x hx
  have hassoc:∀ {L1 L2 L3:HL} {v1 v2 v3:Value} {T:Th} {es3 c3 es4 c4},((n16,Cs (thCs T ta tb++[]) 33)::(ta,Obj.map es3 c3)::(tb,Obj.map es4 c4)::(n1,Cs [nilS,nilS,nilS] 141)::runH n3 v1 v2 v3 L1 L2 L3 H) =
    ((n16,Cs (thCs T ta tb++[]) 33)::(ta,Obj.map es3 c3)::(tb,Obj.map es4 c4)::(n1,Cs [nilS,nilS,nilS] 141)::(n3,Cs [v1,v2,v3] 141)::(L1++(L2++L3)))++H:=by simp
  rw [f59_lb1_eq,BIf_iff]
  constructor
  ·intro hlt
   have hlt:i < l.length:=by simpa using hlt
   rw [f59_s2_eq]
   have hr:=hrow6 (hnewX hh.n1 hh.n2 hh.n3) (hassoc ▸ h6)
   obtain ⟨a,c,hac,hld⟩:=hr.ldA hlt
   rw [hov] at hac
   obtain ⟨hsa,-⟩:sa=some a∧sc=c:=by simpa using hac
   subst hsa
   refine ⟨by omega,by omega,hld _ ?_⟩
   rw [evs_at hlt]
   obtain ⟨ze,hze,hzel⟩:=z35
   rw [hze]
   refine h6.newC fun n36 w7 hn36 h7=>h7.stA (k:=0) rfl (by simp [Evcs_len]) (by simp [hzel]) (Evcs_one _) fun w8 h8=>?_
   have h8:St w0 w8 ((n36,Cs (splice ze 0 (Evcs l[i])) 45)::(n16,Cs (thCs T ta tb++[]) 33)::(ta,.map es3 c3)::(tb,.map es4 c4)::(n1,Cs [nilS,nilS,nilS] 141)::runH n3 v1 v2 v3 L1 L2 L3 H):=h8
   rw [splice_whole (by rw [Evcs_len,hzel])] at h8
   refine h8.ldA (k:=0) (i:=0) rfl (by simp [Evcs_len]) ?_
   have hdrop:l.drop i=l[i]::l.drop (i+1):=List.drop_eq_getElem_cons hlt
   refine plan_ok (T:=T) (tb:=n16) (tob:=ta) (tnb:=tb) (tt:=33) (rest:=[]) (R:=(n36,Cs (Evcs l[i]) 45)::(n1,Cs [nilS,nilS,nilS] 141)::runH n3 v1 v2 v3 L1 L2 L3 H) hT hm3 hm4 (h8.perm (perm_by fun c=>?_)) (fun hp w' v h'=>?_) (fun q hp w' pb ob nb k1 k2 k3 hps=>?_)
   ·simp only [List.map_cons,List.sum_cons]; omega
   ·refine ⟨v,false,rfl,?_⟩
    rw [Bool.not_false,BIf_true]
    refine ⟨_,build89,h'.stA (k:=4) rfl rfl (by simp) (by simp [Value.oneCell']) fun w9 h9=>?_⟩
    refine h9.ldA (k:=4) (i:=0) rfl (by simp [splice_length]) ?_
    refine herr 300 (by rw [hrunl,hrun,hdrop,runL,hp]) w9 ?_
    have h9:St w0 w9 ((n16,Cs (thCs T ta tb++[]) 33)::(ta,.map es3 c3)::(tb,.map es4 c4)::(n36,Cs (Evcs l[i]) 45)::(n1,Cs [nilS,nilS,nilS] 141)::runH n3 v1 v2 v3 L1 L2 L3 H):=h9
    refine St.sub (L:=(n36,Cs (Evcs l[i]) 45)::(n16,Cs (thCs T ta tb++[]) 33)::(ta,Obj.map es3 c3)::(tb,Obj.map es4 c4)::(n1,Cs [nilS,nilS,nilS] 141)::(n3,Cs [v1,v2,v3] 141)::(L1++(L2++L3))) (h9.perm (perm_by fun c=>?_)) ?_
    ·simp only [runH,List.map_cons,List.sum_cons,List.map_append,List.sum_append]; omega
    ·intro x hx
     rcases List.mem_cons.1 hx with rfl | hx
     ·exact hn36
     ·exact hnewX hh.n1 hh.n2 hh.n3 x hx
   ·refine ⟨some (Addr.mk pb 0 none),true,rfl,?_⟩
    rw [Bool.not_true,BIf_false,f59_s3_eq]
    obtain ⟨_,_,t1,t2,_⟩:=refused_kind (plan_refused hp)
    have hfe:=plan_fork hp
    refine perform_ps (B:=⟨pb,ob,nb,n16,ta,tb,106,33,l[i],T,[],es3,c3,es4,c4⟩) hps ⟨hT,hm3,hm4,⟨t1,t2⟩⟩ hfe.1 hfe.2 fun w9 es3' c3' es4' c4' h9 hB9=>⟨rfl,?_⟩
    have h9d:=h9.drew
    obtain ⟨DD,LL,rfl,hs9,k4,k5,k6⟩:=h9d
    have hoq:=plan_orders hp
    refine run_s3 (p:=DD.p) (h0:=h0) (e:=l[i]) (ov:=DD.ov) (ob:=ob) (nb:=nb) (t:=106) (M:=LL) (L1:=L1) (L2:=L2) (L3:=L3) (v1:=v1) (v2:=v2) (v3:=v3)
     (Y:=(pb,Cs (planCs n16 l[i] DD.ov ob nb DD.p) 106)::(ob,.map DD.es1 DD.c1)::(nb,.map DD.es2 DD.c2)::(n36,Cs (Evcs l[i]) 45)::(LL++((n16,Cs (thCs (perform T l[i] DD.p) ta tb++[]) 33)::(ta,.map es3' c3')::(tb,.map es4' c4')::(n1,Cs [nilS,nilS,nilS] 141)::H)))
     (hs9.perm (perm_by fun c=>?_)) hh k4.own (by simp) k5 (fun y hy=>by simp [hy]) ⟨by omega,by omega,by omega,by omega,by omega⟩ fun w10 v1' v2' v3' L1' L2' L3' hh' h10=>?_
    ·simp only [plH,withT,runH,List.map_cons,List.sum_cons,List.map_append,List.sum_append]; omega
    refine ⟨l.length - (i+1),by omega,i+1,perform T l[i] DD.p,es3',c3',es4',c4',_,v1',v2',v3',L1',L2',L3',by omega,rfl,?_,hB9.th,hB9.m3,hB9.m4,?_,hh',?_,?_,?_,?_⟩
    ·rw [wrap_i64 (by omega) (by omega)]; rfl
    ·rw [hrun,hdrop,runL,hp]; rfl
    ·simp only [List.length_append]; omega
    ·simp only [List.length_append,List.length_replicate]; omega
    ·simp only [List.length_append,List.length_singleton]; omega
    ·refine St.sub (L:=(pb,Cs (planCs n16 l[i] DD.ov ob nb DD.p) 106)::(ob,.map DD.es1 DD.c1)::(nb,.map DD.es2 DD.c2)::(n36,Cs (Evcs l[i]) 45)::LL) (h10.perm (perm_by fun c=>?_)) ?_
     ·simp only [runH,List.map_cons,List.sum_cons,List.map_append,List.sum_append]; omega
     ·intro x hx
      simp only [List.mem_cons] at hx
      rcases hx with rfl | rfl | rfl | rfl | hx
      ·exact k1
      ·exact k2
      ·exact k3
      ·exact hn36
      ·exact k6 x hx
  ·intro hge
   have:i=l.length:=by simp at hge; omega
   subst this
   rw [List.drop_length] at hrun
   rw [f59_s10_eq]
   refine h6.ldA (k:=4) (i:=0) rfl (by simp) (h6.stA (k:=3) rfl rfl (by simp) (by
    obtain ⟨a1,c1,e1⟩:=hh.s1.form
    obtain ⟨a2,c2,e2⟩:=hh.s2.form
    obtain ⟨a3,c3,e3⟩:=hh.s3.form
    simp [e1,e2,e3,Value.oneCell']) fun w7 h7=>?_)
   refine h7.ldA (k:=3) (i:=0) rfl (by simp [splice_length]) ?_
   refine hok h0 (by rw [hrunl,hrun]; rfl) w7 v1 v2 v3 L1 L2 L3 hh ?_
   have h7:St w0 w7 ((n16,Cs (thCs T ta tb++[]) 33)::(ta,.map es3 c3)::(tb,.map es4 c4)::(n1,Cs [v1,v2,v3] 141)::runH n3 v1 v2 v3 L1 L2 L3 H):=h7
   exact ((((h7.tail hn16).tail hta).tail htb).tail hn1).tail hn3
def SortOk (w0:World) (g:Nat):Prop:=∀ {w:World} {H:HL} {K:KT} {out:List Mo.Race} {ov:Value} {Lo:HL},St w0 w (Lo++H)→SlO 11 108 ov out.length (racesCs out) Lo→(out.map (·.byte)).Nodup→out.length < 2000000000→
 (∀ w' Lo',SlO 11 108 ov out.length (racesCs (out.mergeSort raceLe)) Lo'→(New w0 Lo→New w0 Lo')→St w0 w' (Lo'++H)→K (.tuple [].toArray) w')→CallL P 65 [ov,.func (.func g) #[] #[]] w K
theorem feed_err {d d':Det} {e:Ev} {x:Int} (h:feed d e=(d',.inr x)):x=2∨x=300:=by
 unfold feed at h
 split at h
 ·simp at h; exact .inl h.2.symm
 ·split at h
  ·simp at h; exact .inr h.2.symm
  ·simp only at h
   split at h
   ·simp at h; exact .inl h.2.symm
   ·split at h
    ·simp at h; exact .inl h.2.symm
    ·simp at h
theorem feed_len {d d':Det} {e:Ev} {out:List Mo.Race} (h:feed d e=(d',.inl out)):out.length≤65536:=by
 obtain ⟨p,hp,_,hs,_,_⟩:=feed_inl h
 obtain ⟨ext,rfl,hsub,_⟩:=scan_mem hs
 have h1:=hsub.length_le
 rw [bytes_evN,List.length_map,bytes_len] at h1
 have hn:evN e≤65536:=by
  unfold evN
  split
  ·rename_i hi; exact (refused_n (plan_refused hp) hi).2
  ·omega
 omega
theorem racesCs_append (a b:List Mo.Race):racesCs (a++b)=racesCs a++racesCs b:=by simp [racesCs]
theorem out_append {A Y:HL} {out x:List Mo.Race} {ov xv:Value} {Lo Lx:HL} (h:St w0 w (A++(Lo++(Lx++Y)))) (hLo:SlO 11 108 ov out.length (racesCs out) Lo) (hN:New w0 Lo) (hx:SlO 11 108 xv x.length (racesCs x) Lx) (hNx:New w0 Lx)
  (hb:out.length < 1500000000∧x.length≤65536) :
  ∃ v' w' L',(Builtin.append_ #[39,39] 39 [ov,xv].toArray).run P w=.ok v' w'∧SlO 11 108 v' (out++x).length (racesCs (out++x)) L'∧New w0 L'∧St w0 w' (A++(L'++Y)):=by
 obtain ⟨v',w',L',hr,hS,hs,hN'⟩:=St.appendN (P:=P) 39 39 108 Tryz.t108 (.agg #[.int .u32 0,I64 0,I64 0,.int .u32 0,.bool false,.bool false,I64 0,I64 0,.int .u32 0,.bool false,.bool false]) 11 56 Tryz.underlying39 info47 rfl rfl rfl rfl (by omega)
  (A:=A) (L:=Lo) (H:=Lx++Y) (M:=Lx) h hLo hN hx (fun y hy=>h.has _ _ (by simp [hy])) (racesCs_one _) (by simp [maxLen]; omega) (by omega)
 refine ⟨v',w',L',hr,?_,hN',?_⟩
 ·rw [List.length_append,racesCs_append]; exact hS
 ·refine St.sub (L:=Lx) (hs.perm (perm_by fun c=>?_)) hNx
  simp only [List.map_append,List.sum_append]
  omega
theorem races_ok (hsort:SortOk w0 66) {l:List Ev} {ov:Value} (h:St w0 w H) (hrow:∀ w',St w0 w' H→Row w' 6 ov l.length (evsCs l)) (hl63:l.length < 9223372036854775808)
  (herr:∀ x,Mo.races l=.inr x→x≠0→∀ w',St w0 w' H→K (.tuple [nilS,I64 x].toArray) w')
  (hok:∀ out,Mo.races l=.inl out→out.length < 2000000000→∀ w' rv Lo,SlO 11 108 rv out.length (racesCs out) Lo→New w0 Lo→St w0 w' (Lo++H)→K (.tuple [rv,I64 0].toArray) w') :
  CallL P 34 [ov] w K:=by
 obtain ⟨sa,sc,hov⟩:=(hrow w h).form
 rw [hov]
 refine f34_ok _ _ _ _ _ ?_
 rw [f34_eq,z89,← hov]
 refine run_ok h hrow hl63 (fun x hx w1 h1=>⟨_,x,rfl,?_⟩) (fun hh hrun w1 v1 v2 v3 L1 L2 L3 hho h1=>⟨_,0,rfl,?_⟩)
 ·refine h1.newC fun n5 w2 hn5 h2=>h2.stA (k:=0) rfl rfl (by simp) (by simp [Value.oneCell']) fun w3 h3=>?_
  have hx0:x≠0:=by
   unfold Mo.run at hx
   split at hx
   ·cases hx; omega
   ·split at hx
    ·cases hx
    ·cases hx; omega
  rw [show (x != 0)=true by simpa using hx0,BIf_true]
  exact herr x (by unfold Mo.races; rw [hx]) hx0 w3 (h3.tail hn5)
 ·refine h1.newC fun n5 w2 hn5 h2=>h2.stA (k:=0) rfl rfl (by simp) (by
    obtain ⟨a1,c1,e1⟩:=hho.s1.form
    obtain ⟨a2,c2,e2⟩:=hho.s2.form
    obtain ⟨a3,c3,e3⟩:=hho.s3.form
    simp [e1,e2,e3,Value.oneCell']) fun w3 h3=>?_
  rw [show ((0:Int) != 0)=false by decide,BIf_false]
  have h3:=((((h3.tail hn5).sub hho.n1).sub hho.n2).sub hho.n3)
  have hraces:Mo.races l=match feeds l det0 [] with
   | .inr x=>.inr x
   | .inl out=>.inl (out.mergeSort raceLe):=by
   unfold Mo.races
   rw [hrun]
   simp only
   cases feeds l det0 [] <;> rfl
  have hlen:l.length≤20000:=by
   unfold Mo.run at hrun
   split at hrun
   ·cases hrun
   ·omega
  rw [f34_s0_eq]
  refine new_ok h3 fun w4 D hD0 hD h4=>⟨_,rfl,l.length,fun wq _=>run_len_22 wq,?_⟩
  refine ⟨fun m ee w=>∃ (i:Nat) (D':DB) (out:List Mo.Race) (oa:Option Addr) (oc:Nat) (Lo:HL),i≤l.length∧m=l.length - i∧
   ee=Env.mk 43 [(7,(Value.slice oa out.length oc)),(23,(Value.int .i64 i)),(6,(ptr D.db)),(21,(Value.slice sa l.length sc)),(2,nilS),(3,(Value.int .i64 0)),(22,(Value.int .i64 l.length))] []∧
   D'.db=D.db∧DBok w0 D'∧feeds l det0 []=feeds (l.drop i) D'.d out∧out.length≤65536 * i∧SlO 11 108 (.slice oa out.length oc) out.length (racesCs out) Lo∧New w0 Lo∧St w0 w (detH D'++(Lo++H)),
   ⟨l.length,0,D,[],none,0,[],by omega,rfl,rfl,rfl,hD,by rw [hD0]; rfl,by simp,SlO.nil 11 108,New.nil w0,h4⟩,?_⟩
  rintro m ee w5 ⟨i,D',out,oa,oc,Lo,hi,rfl,rfl,hdb,hD',hfeeds,hol,hLo,hLn,h5⟩
  show f34_lb1 ..
  rw [f34_lb1_eq,BIf_iff]
  constructor
  ·intro hlt
   have hlt:i < l.length:=by simpa using hlt
   rw [f34_s2_eq]
   obtain ⟨a,c,hac,hld⟩:=(hrow w5 ((h5.sub hD'.newH).sub hLn)).ldA hlt
   rw [hov] at hac
   obtain ⟨hsa,-⟩:sa=some a∧sc=c:=by simpa using hac
   subst hsa
   refine ⟨by omega,by omega,hld _ ?_⟩
   rw [evs_at hlt]
   obtain ⟨ze,hze,hzel⟩:=z35
   rw [hze]
   refine h5.newC fun n31 w6 hn31 h6=>h6.stA (k:=0) rfl (by simp [Evcs_len]) (by simp [hzel]) (Evcs_one _) fun w7 h7=>?_
   have h7:St w0 w7 ((n31,Cs (splice ze 0 (Evcs l[i])) 45)::(detH D'++(Lo++H))):=h7
   rw [splice_whole (by rw [Evcs_len,hzel])] at h7
   refine h7.ldA (k:=0) (i:=0) rfl (by simp [Evcs_len]) ?_
   have hdrop:l.drop i=l[i]::l.drop (i+1):=List.drop_eq_getElem_cons hlt
   rw [← hdb]
   refine feed_ok (R0:=(n31,Cs (Evcs l[i]) 45)::(Lo++H)) (h7.perm List.perm_middle.symm) hD' (fun d' x hf w8 h8=>⟨none,0,0,x,rfl,?_⟩) (fun d' xs hf w8 D'' xv Lx hd'' hD'' hdb'' hS hN h8=>?_)
   ·have hx0:x≠0:=by rcases feed_err hf with rfl | rfl <;> omega
    rw [show (x != 0)=true by simpa using hx0,BIf_true]
    refine herr x ?_ hx0 w8 ((((h8.sub hD'.newH).tail hn31)).sub hLn)
    rw [hraces,hfeeds,hdrop,feeds,hf]
   ·obtain ⟨xa,xc,hxv⟩:=hS.form
    refine ⟨xa,xs.length,xc,0,by rw [hxv],?_⟩
    rw [show ((0:Int) != 0)=false by decide,BIf_false,f34_s3_eq]
    have h8':St w0 w8 (detH D''++(Lo++(Lx++H))):=by
     refine St.sub (L:=[(n31,Cs (Evcs l[i]) 45)]) (h8.perm (perm_by fun c=>?_)) (by simpa [New] using hn31)
     simp only [List.map_append,List.map_cons,List.map_nil,List.sum_append,List.sum_cons,List.sum_nil]
     omega
    obtain ⟨v',w9,Lo',hr,hS',hN',h9⟩:=out_append h8' hLo hLn hS hN ⟨by omega,feed_len hf⟩
    obtain ⟨va,vc,hv'⟩:=hS'.form
    rw [hv'] at hS'
    rw [hxv,hv'] at hr
    refine ⟨va,_,vc,w9,hr,?_⟩
    rw [f34_s4_eq]
    refine ⟨l.length - (i+1),by omega,i+1,D'',out++xs,va,vc,Lo',by omega,rfl,?_,by rw [hdb'',hdb],hD'',?_,?_,hS',hN',h9⟩
    ·rw [wrap_i64 (by omega) (by omega),hdb]; rfl
    ·rw [hfeeds,hdrop,feeds,hf,hd'']
    ·have:=feed_len hf
     simp only [List.length_append]; omega
  ·intro hge
   have:i=l.length:=by simp at hge; omega
   subst this
   rw [List.drop_length] at hfeeds
   have hfeeds:feeds l det0 []=.inl out:=hfeeds
   rw [f34_s5_eq]
   refine hsort (h5.sub hD'.newH) hLo (feeds_nodup hfeeds) (by omega) fun w6 Lo' hS' hN' h6=>⟨rfl,?_⟩
   refine hok (out.mergeSort raceLe) (by rw [hraces,hfeeds]) (by rw [List.length_mergeSort]; omega) w6 _ Lo' ?_ (hN' hLn) h6
   rw [List.length_mergeSort]
   exact hS'
end Go.Fx.Tryz
namespace Go.Fx.Tryz
open Go Go.Fx Go.Fx.Mo
open Go.Proofs
open Go.Sort (grow grow_grow alloc_eq_grow)
variable {w0 w:World} {H:HL} {K:KT}
set_option maxRecDepth 20000
def cmpI (x y:Int):Int:=if x < y then -1 else if x > y then 1 else 0
def orI (a b:Int):Int:=if a≠0 then a else b
theorem isnan51 (x:Int) (hK:K (.bool false) w):CallL P 90 [.int .i64 x] w K:=by
 refine f90_ok _ _ _ ?_
 rw [f90_eq]
 simpa using hK
theorem isnan52 (x:Int) (hK:K (.bool false) w):CallL P 91 [.int .u32 x] w K:=by
 refine f91_ok _ _ _ ?_
 rw [f91_eq]
 simpa using hK
theorem cmp24 (x y:Int) (hK:K (.int .i64 (cmpI x y)) w):CallL P 68 [.int .i64 x,.int .i64 y] w K:=by
 refine f68_ok _ _ _ _ ?_
 rw [f68_eq]
 refine isnan51 x ⟨_,rfl,isnan51 y ⟨_,rfl,?_⟩⟩
 rw [BIf_false,f68_s1_eq,BIf_false,f68_s2_eq,f68_s3_eq,f68_s4_eq]
 unfold cmpI at hK
 simp only [BIf_iff]
 split at hK
 ·rename_i h; simp [h]; exact hK
 ·rename_i h
  split at hK
  ·rename_i h'; simp [h,h']; exact hK
  ·rename_i h'; simp [h,h']; exact hK
theorem cmp25 (x y:Int) (hK:K (.int .i64 (cmpI x y)) w):CallL P 69 [.int .u32 x,.int .u32 y] w K:=by
 refine f69_ok _ _ _ _ ?_
 rw [f69_eq]
 refine isnan52 x ⟨_,rfl,isnan52 y ⟨_,rfl,?_⟩⟩
 rw [BIf_false,f69_s1_eq,BIf_false,f69_s2_eq,f69_s3_eq,f69_s4_eq]
 unfold cmpI at hK
 simp only [BIf_iff]
 split at hK
 ·rename_i h; simp [h]; exact hK
 ·rename_i h
  split at hK
  ·rename_i h'; simp [h,h']; exact hK
  ·rename_i h'; simp [h,h']; exact hK
theorem run_len_39 {p:Option Addr} {l c:Nat} (wq:World):(Builtin.len_ #[61] 3 [Value.slice p l c].toArray).run P wq=.ok (.int .i64 l) wq:=run_len_slice p l c Tryz.underlying61 3
theorem or23 {b:Nat} {a c:Int} {t:TypeId} (h:w.heap[b]?=some (Cs [I64 a,I64 c] t)) (hK:K (.int .i64 (orI a c)) w):CallL P 67 [.slice (some (Addr.mk b 0 none)) 2 2] w K:=by
 refine f67_ok _ _ _ _ _ ?_
 rw [f67_eq]
 refine ⟨2,fun wq _=>run_len_39 wq,?_⟩
 refine ⟨fun m ee w'=>w'=w∧∃ i:Nat,i≤2∧m=2 - i∧ee=Env.mk 18 [(3,(Value.int .i64 0)),(8,(Value.int .i64 i)),(6,(Value.slice (some (Addr.mk b 0 none)) 2 2)),(2,(Value.int .i64 0)),(7,(Value.int .i64 2))] []∧∀ j,j < i→[a,c][j]?=some 0,⟨2,rfl,0,by omega,rfl,rfl,by intro j hj; omega⟩,?_⟩
 rintro m ee w' ⟨rfl,i,hi,rfl,rfl,hz⟩
 show f67_lb0 ..
 rw [f67_lb0_eq,BIf_iff]
 constructor
 ·intro hlt
  have hlt:i < 2:=by simp at hlt; omega
  rw [f67_s1_eq]
  refine ⟨by omega,by omega,[a,c].getD i 0,?_,?_⟩
  ·rw [add_lit',cell_of h,Int.toNat_natCast]
   rcases i with _ | _ | i
   ·rfl
   ·rfl
   ·omega
  rw [BIf_iff]
  constructor
  ·intro hne
   have hne:[a,c].getD i 0≠0:=by simpa using hne
   have:[a,c].getD i 0=orI a c:=by
    rcases i with _ | _ | i
    ·simp at hne; simp [orI,hne]
    ·have:=hz 0 (by omega)
     simp at this
     simp [orI,this]
    ·omega
   rw [this]
   exact hK
  ·intro heq
   have heq:[a,c].getD i 0=0:=by simpa using heq
   rw [f67_s2_eq]
   refine ⟨2 - (i+1),by omega,rfl,i+1,by omega,rfl,?_,?_⟩
   ·rw [wrap_i64 (by omega) (by omega)]; rfl
   ·intro j hj
    by_cases hji:j < i
    ·exact hz j hji
    ·have:j=i:=by omega
     subst this
     rcases j with _ | _ | j
     ·simpa using heq
     ·simpa using heq
     ·omega
 ·intro hge
  have:i=2:=by simp at hge; omega
  subst this
  rw [f67_s3_eq]
  have h0:=hz 0 (by omega)
  have h1:=hz 1 (by omega)
  simp at h0 h1
  have:orI a c=0:=by simp [orI,h0,h1]
  rw [this] at hK
  exact hK
def cfR (a b:Mo.Race):Int:=orI (cmpI a.second.ev b.second.ev) (cmpI a.byte b.byte)
theorem cmp_world (w:World) (A B C:Obj):(((w.alloc A).alloc B).drew).alloc C=grow (w.drewN 1) #[A,B,C]:=by
 have e:∀ (w:World) (o:Obj),w.alloc o=grow w #[o]:=alloc_eq_grow
 rw [e,e,e]
 have:∀ (w:World) (os:Array Obj),(grow w os).drew=grow (w.drewN 1) os:=fun _ _=>rfl
 have t2:∀ (w:World) (os:Array Obj),(grow w os).drewN 1=grow (w.drewN 1) os:=fun _ _=>rfl
 rw [this,t2,grow_grow,grow_grow]
 rfl
theorem cmp_tail {a b:Mo.Race} {K:KT} (w:World)
  (hK:∀ C,K (.int .i64 (cfR a b)) ((((w.alloc (Cs (Racecs a) 108)).alloc (Cs (Racecs b) 108)).drew).alloc C)) :
  sizesAre 1 [(Value.int .i64 (cmpI a.second.ev b.second.ev)),(Value.int .i64 (cmpI a.byte b.byte))]∧NewC (([(Value.int .i64 (cmpI a.second.ev b.second.ev)),(Value.int .i64 (cmpI a.byte b.byte))].map fun (v:Value)=>v.cells.toList).flatten.toArray) 3 (((w.alloc (Cs (Racecs a) 108)).alloc (Cs (Racecs b) 108)).drew)
   (fun n19 w17=>CallL P 67 [(Value.slice (some (Addr.mk n19 0 none)) 2 2)] w17 (fun r20 w21=>∃ x22:Int,r20=(Value.int .i64 x22)∧K (Value.int .i64 x22) w21)):=by
 refine ⟨⟨rfl,rfl,trivial⟩,?_⟩
 refine or23 (a:=cmpI a.second.ev b.second.ev) (c:=cmpI a.byte b.byte) (t:=3) ?_ ⟨_,rfl,hK _⟩
 rw [alloc_heap,Array.getElem?_push]
 simp [Cs,Value.cells]
theorem cells_two (w:World) (a b:Mo.Race) (i:Nat) :
  (((w.alloc (Cs (Racecs a) 108)).alloc (Cs (Racecs b) 108)).drew).cell? (Addr.mk w.heap.size i none)=(Racecs a)[i]?∧
  (((w.alloc (Cs (Racecs a) 108)).alloc (Cs (Racecs b) 108)).drew).cell? (Addr.mk (w.alloc (Cs (Racecs a) 108)).heap.size i none)=(Racecs b)[i]?:=by
 have hs:=((St.refl w).alloc (Cs (Racecs a) 108)).alloc (Cs (Racecs b) 108) |>.drew
 exact ⟨hs.cell (k:=1) rfl,hs.cell (k:=0) rfl⟩
theorem cmp48 (a b:Mo.Race) (hK:∀ w',(∃ q os,w'=grow (w.drewN q) os)→K (.int .i64 (cfR a b)) w'):CallL P 66 [.agg (Racecs a).toArray,.agg (Racecs b).toArray] w K:=by
 refine f66_ok _ _ _ _ ?_
 have hc:=cells_two w a b
 have hK':∀ C,K (.int .i64 (cfR a b)) ((((w.alloc (Cs (Racecs a) 108)).alloc (Cs (Racecs b) 108)).drew).alloc C):=fun C=>hK _ ⟨1,_,cmp_world w _ _ C⟩
 have ht:=cmp_tail (a:=a) (b:=b) (K:=K) w hK'
 rw [f66_eq]
 simp only [f66_s0_eq]
 have a0:(((w.alloc (Cs (Racecs a) 108)).alloc (Cs (Racecs b) 108)).drew).cell? (Addr.mk w.heap.size 0 none)=some (Value.int .u32 a.byte):=(hc 0).1
 have b0:(((w.alloc (Cs (Racecs a) 108)).alloc (Cs (Racecs b) 108)).drew).cell? (Addr.mk (w.alloc (Cs (Racecs a) 108)).heap.size 0 none)=some (Value.int .u32 b.byte):=(hc 0).2
 exact ⟨a.second.ev,(hc 6).1,b.second.ev,(hc 6).2,cmp24 _ _ ⟨_,rfl,a.byte,a0,b.byte,b0,cmp25 _ _ ⟨_,rfl,ht⟩⟩,
  ⟨a.byte,a0,cmp24 _ _ ⟨_,rfl,b.byte,b0,cmp25 _ _ ⟨_,rfl,ht⟩⟩,b.byte,b0,cmp24 _ _ ⟨_,rfl,cmp25 _ _ ⟨_,rfl,ht⟩⟩⟩,
  b.byte,b0,cmp24 _ _ ⟨_,rfl,a.byte,a0,cmp25 _ _ ⟨_,rfl,ht⟩⟩,a.byte,a0,cmp24 _ _ ⟨_,rfl,cmp25 _ _ ⟨_,rfl,ht⟩⟩⟩
end Go.Fx.Tryz
namespace Go.Fx.Tryz
open Go Go.Fx Go.Fx.Mo
open Go.Proofs
variable {w0 w:World} {H:HL} {K:KT}
set_option maxRecDepth 20000
theorem bs0 (w:World):(Instr.buildSlice 84 0 ([]:List (Nat × Value)).toArray).run P w=.ok (.slice (some ⟨w.heap.size,0,none⟩) 0 0) (w.alloc (.cells #[] 88 (0,0))):=by kernel_rfl
theorem fieldsOf45 : P.fieldsOf 97 = #[{ name := "Event", type := 3, offset := 0, embedded := false, tag := "", pkgPath := "", byteOffset := 0 },
  { name := "Thread", type := 3, offset := 1, embedded := false, tag := "", pkgPath := "", byteOffset := 8 },
  { name := "PC", type := 43, offset := 2, embedded := false, tag := "", pkgPath := "", byteOffset := 16 },
  { name := "Store", type := 4, offset := 3, embedded := false, tag := "", pkgPath := "", byteOffset := 20 },
  { name := "Atomic", type := 4, offset := 4, embedded := false, tag := "", pkgPath := "", byteOffset := 21 }] := by kernel_rfl
theorem eq45 (w:World) (d:Nat) (a:Mo.Acc):(Op.equalIn (d+2) 97 (.agg (Acccs a).toArray) (.agg (Acccs a).toArray)).run P w=.ok true w:=by
 have h3:∀ d x,(Op.equalIn (d+1) 3 (.int .i64 x) (.int .i64 x)).run P w=.ok true w:=fun d x=>by simp [Op.equalIn,run_underlying Tryz.underlying3]
 have h4:∀ d x,(Op.equalIn (d+1) 4 (.bool x) (.bool x)).run P w=.ok true w:=fun d x=>by simp [Op.equalIn,run_underlying Tryz.underlying4]
 have h33:∀ d x,(Op.equalIn (d+1) 43 (.int .u32 x) (.int .u32 x)).run P w=.ok true w:=fun d x=>by simp [Op.equalIn,run_underlying Tryz.underlying43]
 obtain ⟨a0,a1,a2,a3,a4⟩:=a
 rw [run_equalIn_struct w (d+1) 97 _ _ (by rw [fieldsOf45]; exact Tryz.underlying97) Tryz.stoodInHeld97,fieldsOf45]
 have p0:(part 3 #[I64 a0,I64 a1,U32 a2,.bool a3,.bool a4] 0).run P w=.ok (I64 a0) w:=by kernel_rfl
 have p1:(part 3 #[I64 a0,I64 a1,U32 a2,.bool a3,.bool a4] 1).run P w=.ok (I64 a1) w:=by kernel_rfl
 have p2:(part 43 #[I64 a0,I64 a1,U32 a2,.bool a3,.bool a4] 2).run P w=.ok (U32 a2) w:=by kernel_rfl
 have p3:(part 4 #[I64 a0,I64 a1,U32 a2,.bool a3,.bool a4] 3).run P w=.ok (.bool a3) w:=by kernel_rfl
 have p4:(part 4 #[I64 a0,I64 a1,U32 a2,.bool a3,.bool a4] 4).run P w=.ok (.bool a4) w:=by kernel_rfl
 simp [Op.eqFields,Acccs,p0,p1,p2,p3,p4,h3,h4,h33]
theorem run_min (a b:Int) (wq:World):(Builtin.min_ #[3,3] 3 [Value.int .i64 a,Value.int .i64 b].toArray).run P wq=.ok (.int .i64 (if b < a then b else a)) wq:=by
 simp [Builtin.min_,Builtin.min2]
theorem bytesOf_ok {l:List Ev} {ov:Value} (h:St w0 w H) (hrow:∀ w',St w0 w' H→Row w' 6 ov l.length (evsCs l)) (hl63:l.length < 9223372036854775807) (hK:∀ x w',St w0 w' H→K (.int .i64 x) w'):CallL P 16 [ov] w K:=by
 obtain ⟨sa,sc,hov⟩:=(hrow w h).form
 rw [hov]
 refine f16_ok _ _ _ _ _ ?_
 rw [f16_eq]
 refine ⟨l.length,fun wq _=>run_len_22 wq,?_⟩
 refine ⟨fun m ee w=>∃ (i:Nat) (s:Int),i≤l.length∧m=l.length - i∧ee=Env.mk 30 [(8,(Value.int .i64 i)),(3,(Value.int .i64 s)),(6,(Value.slice sa l.length sc)),(2,(Value.int .i64 0)),(7,(Value.int .i64 l.length))] []∧St w0 w H,
  ⟨l.length,0,0,by omega,rfl,rfl,h⟩,?_⟩
 rintro m ee w ⟨i,s,hi,rfl,rfl,hw⟩
 show f16_lb0 ..
 rw [f16_lb0_eq,BIf_iff]
 constructor
 ·intro hlt
  have hlt:i < l.length:=by simpa using hlt
  rw [f16_s1_eq]
  obtain ⟨a,c,hac,hld⟩:=(hrow w hw).ldA hlt
  rw [hov] at hac
  obtain ⟨hsa,-⟩:sa=some a∧sc=c:=by simpa using hac
  subst hsa
  refine ⟨by omega,by omega,hld _ ?_⟩
  rw [evs_at hlt]
  obtain ⟨ze,hze,hzel⟩:=z35
  rw [hze]
  refine hw.newC fun n14 w6 hn14 h6=>h6.stA (k:=0) rfl (by simp [Evcs_len]) (by simp [hzel]) (Evcs_one _) fun w7 h7=>?_
  have h7:St w0 w7 ((n14,Cs (splice ze 0 (Evcs l[i])) 45)::H):=h7
  rw [splice_whole (by rw [Evcs_len,hzel])] at h7
  have s2:∀ b,f16_s2 b (some a) l.length sc 0 l.length i (Addr.mk n14 0 none) s w7 K (fun e' w'=>∃ m,m < l.length - i∧∃ (i:Nat) (s:Int),i≤l.length∧m=l.length - i∧e'=Env.mk 30 [(8,(Value.int .i64 i)),(3,(Value.int .i64 s)),(6,(Value.slice (some a) l.length sc)),(2,(Value.int .i64 0)),(7,(Value.int .i64 l.length))] []∧St w0 w' H):=by
   intro b
   have fin:∀ x,f16_s3 x (some a) l.length sc 0 l.length i w7 K (fun e' w'=>∃ m,m < l.length - i∧∃ (i:Nat) (s:Int),i≤l.length∧m=l.length - i∧e'=Env.mk 30 [(8,(Value.int .i64 i)),(3,(Value.int .i64 s)),(6,(Value.slice (some a) l.length sc)),(2,(Value.int .i64 0)),(7,(Value.int .i64 l.length))] []∧St w0 w' H):=fun x=>by
    rw [f16_s3_eq]
    refine ⟨l.length - (i+1),by omega,i+1,x,by omega,rfl,?_,h7.tail hn14⟩
    rw [wrap_i64 (by omega) (by omega)]; rfl
   have c5:w7.cell? ((Addr.mk n14 0 none).add 5)=some (I64 l[i].n):=by rw [add_lit',h7.cell (k:=0) rfl]; rfl
   rw [f16_s2_eq,BIf_iff]
   refine ⟨fun _=>⟨_,c5,?_⟩,fun _=>fin _⟩
   rw [BIf_iff]
   exact ⟨fun _=>⟨_,c5,_,w7,run_min _ _ _,fin _⟩,fun _=>fin _⟩
  refine ⟨l[i].kind,by rw [h7.cell (k:=0) rfl]; rfl,?_⟩
  simp only [BIf_iff]
  exact ⟨fun _=>s2 _,fun _=>⟨fun _=>s2 _,fun _=>⟨fun _=>s2 _,fun _=>⟨fun _=>s2 _,fun _=>s2 _⟩⟩⟩⟩
 ·intro hge
  rw [f16_s4_eq]
  exact hK _ w hw
theorem races_at {l:List Mo.Race} {i:Nat} (hi:i < l.length):((racesCs l).drop (i * 11)).take 11=Racecs l[i]:=flat_slice (f:=Racecs) (fun x _=>Racecs_len x) hi
def triple (r:Mo.Race):List Int:=[w64 r.byte,r.first.ev,r.second.ev]
def triplesCs (l:List Mo.Race):List Value:=(l.map fun r=>(triple r).map I64).flatten
theorem build85 (a b c:Int) (wq:World):(Instr.build 88 [(0,(Value.int .i64 a)),(1,(Value.int .i64 b)),(2,(Value.int .i64 c))].toArray).run P wq=.ok (.agg #[I64 a,I64 b,I64 c]) wq:=by kernel_rfl
theorem info85:P.info? 88=some Tryz.t88:=by kernel_rfl
theorem firsts_ok (hsort:SortOk w0 66) {l:List Ev} {ov:Value} (h:St w0 w H) (hrow:∀ w',St w0 w' H→Row w' 6 ov l.length (evsCs l)) (hl63:l.length < 9223372036854775807)
  (herr:∀ x,Mo.races l=.inr x→∀ w' rv Lo,SlO 3 88 rv 0 [] Lo→New w0 Lo→St w0 w' (Lo++H)→K (.tuple [rv,.bool false].toArray) w')
  (hok:∀ out,Mo.races l=.inl out→out.length < 2000000000→∀ w' rv Lo,SlO 3 88 rv out.length (triplesCs out) Lo→New w0 Lo→St w0 w' (Lo++H)→K (.tuple [rv,.bool true].toArray) w') :
  CallL P 31 [ov] w K:=by
 obtain ⟨sa,sc,hov⟩:=(hrow w h).form
 rw [hov]
 refine f31_ok _ _ _ _ _ ?_
 rw [f31_eq,← hov]
 have nil85:∀ n,SlO 3 88 (.slice (some ⟨n,0,none⟩) 0 0) 0 [] [(n,Cs [] 88)]:=fun n=>⟨rfl,.inr ⟨n,0,[],rfl,rfl,by omega,by simp [maxLen],rfl,rfl⟩⟩
 refine races_ok hsort h hrow (by omega) (fun x hx hx0 w2 h2=>⟨none,0,0,x,rfl,_,_,_,_,bs0 w2,?_⟩) (fun out hx hlen w2 rv Lo hS hN h2=>?_)
 ·have h3:=h2.alloc (.cells #[] 88 (0,0))
  have hn:=h2.le
  generalize w2.heap.size=n at h3 hn
  have h3:St w0 (w2.alloc (.cells #[] 88 (0,0))) ([(n,Cs [] 88)]++H):=h3
  refine ⟨0,fun wq _=>run_len_25 wq,?_⟩
  refine ⟨fun m ee w=>m=0∧ee=Env.mk 38 [(17,(Value.int .i64 0)),(6,(Value.slice (some ⟨n,0,none⟩) 0 0)),(15,nilS),(2,nilS),(3,(Value.bool false)),(5,(Value.int .i64 x)),(16,(Value.int .i64 0))] []∧St w0 w ([(n,Cs [] 88)]++H),⟨0,rfl,rfl,h3⟩,?_⟩
  rintro m ee w ⟨rfl,rfl,hw⟩
  show f31_lb0 ..
  rw [f31_lb0_eq,show decide ((0:Int) < 0)=false by decide,BIf_false,f31_s3_eq]
  rw [show (x == (0:Int))=false by simpa using hx0]
  exact herr x hx w _ [(n,Cs [] 88)] (nil85 n) (by simpa [New] using hn) hw
 ·obtain ⟨ra,rc,hrv⟩:=hS.form
  subst hrv
  refine ⟨ra,_,rc,0,rfl,_,_,_,_,bs0 w2,?_⟩
  have h3:=h2.alloc (.cells #[] 88 (0,0))
  have hn:=h2.le
  generalize w2.heap.size=n at h3 hn
  have h3:St w0 (w2.alloc (.cells #[] 88 (0,0))) ([(n,Cs [] 88)]++(Lo++H)):=h3
  refine ⟨out.length,fun wq _=>run_len_25 wq,?_⟩
  refine ⟨fun m ee w=>∃ (i:Nat) (ta:Option Addr) (tc:Nat) (Lt:HL),i≤out.length∧m=out.length - i∧
   ee=Env.mk 38 [(17,(Value.int .i64 i)),(6,(Value.slice ta i tc)),(15,(Value.slice ra out.length rc)),(2,nilS),(3,(Value.bool false)),(5,(Value.int .i64 0)),(16,(Value.int .i64 out.length))] []∧
   SlO 3 88 (.slice ta i tc) i (triplesCs (out.take i)) Lt∧New w0 Lt∧St w0 w (Lt++(Lo++H)),⟨out.length,0,_,_,[(n,Cs [] 88)],by omega,rfl,rfl,nil85 n,by simpa [New] using hn,h3⟩,?_⟩
  rintro m ee w ⟨i,ta,tc,Lt,hi,rfl,rfl,hT,hTn,hw⟩
  show f31_lb0 ..
  rw [f31_lb0_eq,BIf_iff]
  constructor
  ·intro hlt
   have hlt:i < out.length:=by simpa using hlt
   rw [f31_s1_eq]
   obtain ⟨g,cc,hg,hld⟩:=slO_ldA hS (w:=w) (i:=i) (fun y hy=>hw.has _ _ (by simp [hy])) hlt
   obtain ⟨hsa,-⟩:ra=some ⟨g,0,none⟩∧rc=cc:=by simpa using hg
   subst hsa
   refine ⟨by omega,by omega,hld _ ?_⟩
   rw [races_at hlt,z47]
   refine hw.newC fun n28 w5 hn28 h5=>h5.stA (k:=0) rfl rfl (by simp) (by simpa using Racecs_one out[i]) fun w6 h6=>?_
   have h6:St w0 w6 ((n28,Cs (Racecs out[i]) 108)::(Lt++(Lo++H))):=h6
   refine ⟨out[i].byte,by rw [h6.cell (k:=0) rfl]; rfl,out[i].first.ev,by rw [add_lit',h6.cell (k:=0) rfl]; rfl,out[i].second.ev,by rw [add_lit',h6.cell (k:=0) rfl]; rfl,_,build85 _ _ _,⟨rfl,trivial⟩,?_⟩
   refine h6.newC fun n38 w7 hn38 h7=>?_
   obtain ⟨g',cap,w8,Lt',hr,hS',hs8,hN'⟩:=St.append (P:=P) 84 84 88 Tryz.t88 (.agg #[I64 0,I64 0,I64 0]) 3 24 Tryz.underlying84 info85 rfl rfl rfl rfl (by omega)
    (A:=[(n38,Cs ((triple out[i]).map I64) 88),(n28,Cs (Racecs out[i]) 108)]) (L:=Lt) (H:=Lo++H) (by exact h7) hT hTn (j:=0) rfl rfl (by simp [triple,Value.oneCell']) (by simp [maxLen]; omega) (by omega)
   refine ⟨_,_,_,w8,hr,?_⟩
   rw [f31_s2_eq]
   have hs8:St w0 w8 ((n38,Cs ((triple out[i]).map I64) 88)::(n28,Cs (Racecs out[i]) 108)::(Lt'++(Lo++H))):=hs8
   refine ⟨out.length - (i+1),by omega,i+1,some ⟨g',0,none⟩,cap,Lt',by omega,rfl,?_,?_,hN',(hs8.tail hn38).tail hn28⟩
   ·rw [wrap_i64 (by omega) (by omega)]; rfl
   ·have e:triplesCs (out.take (i+1))=triplesCs (out.take i)++(triple out[i]).map I64:=by
     rw [take_succ' _ hlt]
     unfold triplesCs
     rw [List.map_append,List.flatten_append]
     simp only [List.map_cons,List.map_nil,List.flatten_cons,List.flatten_nil,List.append_nil]
    rw [e]
    exact hS'
  ·intro hge
   have:i=out.length:=by simp at hge; omega
   subst this
   rw [f31_s3_eq]
   rw [List.take_length] at hT
   refine hok out hx hlen w _ Lt hT hTn ?_
   refine St.sub (L:=Lo) (hw.perm (perm_by fun c=>?_)) hN
   simp only [List.map_append,List.sum_append]
   omega
end Go.Fx.Tryz
namespace Go.Fx.Mo
set_option maxRecDepth 20000
theorem races_is {l:List Ev} {out:List Race} (hl:l.length≤20000) (hf:feeds l det0 []=.inl out) (hs:out.Pairwise fun a b=>raceLe a b=true):races l=.inl out:=by
 have hs':out.mergeSort raceLe=out:=(sort_is (feeds_nodup hf) (List.Perm.refl _) hs).symm
 unfold races run
 rw [if_neg (by omega)]
 cases hr:runL l 0 begin' ⟨[],[],[]⟩ with
 | none=>
  obtain ⟨x,hx⟩:=run_feeds l 0 begin' _ det0 [] rfl hr
  rw [hx] at hf
  cases hf
 | some h=>
  simp only [hf,hs']
def evSpawn:Ev:=ev 11 0 0 1
def evStore:Ev:=ev 3 0 4096 4
def evLoad:Ev:=ev 2 1 4096 4
def evX:Ev:=ev 4 0 4096 4
def evY:Ev:=ev 4 1 4096 4
def evOther:Ev:=ev 3 0 4100 4
def evLate:Ev:=ev 2 1 4100 4
def four (i j:Int) (a b:Acc):List Race:=(List.range 4).map fun (k:Nat)=>⟨4096+(k:Int),{ a with ev:=i },{ b with ev:=j }⟩
def acc (t:Int) (s a:Bool):Acc:=⟨0,t,0,s,a⟩
def ex1:List Ev:=[evSpawn,evStore,evLoad]
def ex2:List Ev:=[evStore,evSpawn,evLoad,ev 12 1 0 0,ev 13 0 0 1,evStore]
def ex3:List Ev:=[evSpawn,ev 14 0 5 0,evStore,ev 15 0 5 0,ev 14 1 5 0,evLoad]
def ex4:List Ev:=[evSpawn,ev 14 0 5 0,evStore,ev 15 0 5 0,ev 14 1 6 0,evLoad]
def ex5:List Ev:=[evSpawn,evX,evY]
def ex6:List Ev:=[evSpawn,evX,evLoad]
def ex7:List Ev:=[evSpawn,evOther,evX,evY,evLate]
theorem four_le (i j:Int) (a b:Acc):(four i j a b).Pairwise fun a b=>raceLe a b=true:=by
 have:four i j a b=[⟨4096+0,{ a with ev:=i },{ b with ev:=j }⟩,⟨4096+1,{ a with ev:=i },{ b with ev:=j }⟩,⟨4096+2,{ a with ev:=i },{ b with ev:=j }⟩,⟨4096+3,{ a with ev:=i },{ b with ev:=j }⟩]:=rfl
 rw [this]
 simp [raceLe_iff]
theorem races1:races ex1=.inl (four 1 2 (acc 0 true false) (acc 1 false false)):=races_is (by simp [ex1]) (by kernel_rfl) (four_le ..)
theorem races2:races ex2=.inl []:=races_is (by simp [ex2]) (by kernel_rfl) (by simp)
theorem races3:races ex3=.inl []:=races_is (by simp [ex3]) (by kernel_rfl) (by simp)
theorem races4:races ex4=.inl (four 2 5 (acc 0 true false) (acc 1 false false)):=races_is (by simp [ex4]) (by kernel_rfl) (four_le ..)
theorem races5:races ex5=.inl []:=races_is (by simp [ex5]) (by kernel_rfl) (by simp)
theorem races6:races ex6=.inl (four 1 2 (acc 0 true true) (acc 1 false false)):=races_is (by simp [ex6]) (by kernel_rfl) (four_le ..)
theorem races7:races ex7=.inl []:=races_is (by simp [ex7]) (by kernel_rfl) (by simp)
theorem races8:races [evLoad]=.inr 300:=by kernel_rfl
end Go.Fx.Mo
namespace Go.Fx.Mo
def w64u (x:Int):Int:=IntKind.wrap .u64 x
def accessAt (e:Ev) (i:Int) (b:Int):Option Acc:=
 if !(accesses e).2.2 || decide (w64u (w32 (b - e.a))≥w64u e.n) then none else some ⟨i,e.th,e.pc,(accesses e).1,(accesses e).2.1⟩
def before (h:Hist) (x:Acc) (j:Nat):Bool:=decide (at0 (h.events.getD j ⟨0,[]⟩).last x.th≥(h.events.getD x.ev.toNat ⟨0,[]⟩).first)
theorem runL_facts:∀ (l:List Ev) (i:Int) (T:Th) (h hh:Hist),runL l i T h=some hh→hh.events.length=h.events.length+l.length∧∀ e∈l,0≤e.th∧e.th < 8
 | [],i,T,h,hh,hr=>by simp [runL] at hr; subst hr; simp
 | e::r,i,T,h,hh,hr=>by
  unfold runL at hr
  split at hr
  ·cases hr
  ·rename_i p hp
   obtain ⟨h1,h2⟩:=runL_facts r _ _ _ _ hr
   refine ⟨by rw [h1]; simp; omega,fun x hx=>?_⟩
   rcases List.mem_cons.1 hx with rfl | hx
   ·have:=plan_refused hp
    unfold refused at this
    simp only [Bool.or_eq_false_iff,decide_eq_false_iff_not] at this
    omega
   ·exact h2 x hx
theorem run_facts {l:List Ev} {h:Hist} (hr:run l=.inl h):h.events.length=l.length∧(∀ e∈l,0≤e.th∧e.th < 8)∧l.length≤20000:=by
 unfold run at hr
 split at hr
 ·cases hr
 ·rename_i hl
  split at hr
  ·rename_i hh hrl
   cases hr
   obtain ⟨h1,h2⟩:=runL_facts _ _ _ _ _ hrl
   exact ⟨by simpa using h1,h2,by omega⟩
  ·cases hr
end Go.Fx.Mo
namespace Go.Fx.Tryz
set_option maxRecDepth 100000
open Go Go.Fx Go.Proofs
noncomputable def c63:Code:=bodyOf Tryz.f63
noncomputable def rs63:List ResultVar:=Tryz.f63.results.toList
abbrev f63_kb (K:KT):Exit→YT:=bodyK P rs63 K
def f63 (a:Array Value) (b:OA) (c d:Nat) (e f:Int) (w:World) (K:KT):Prop:=CS P c63 none [8] [8] (f63_kb K) (env0 28 [(Value.agg a),(VS b c d),(VI e),(VI f)]) w
theorem f63_eq (e:Array Value) (f:OA) (g o:Nat) (a c:Int) (w:World) (K:KT):f63 e f g o a c w K=(NewC e 141 w (fun h b=>optS f (fun p=>0≤(a:Int)∧(a:Int) < (g:Nat)∧∃ (i:OA) (j q:Nat),b.drew.cell? ((Addr.mk h 0 none).add 2)=some (.slice i j q)∧optS i (fun r=>0≤(c:Int)∧(c:Int) < (j:Nat)∧∃ d:Int,b.drew.cell? ((p.add (Int.toNat a * 6)).add 1)=some (.int .i64 d)∧0≤(d:Int)∧(d:Int) < (8:Nat)∧∃ k:Int,b.drew.cell? (((r.add (Int.toNat c * 9)).add 1).add (Int.toNat d * 1))=some (.int .i64 k)∧∃ (l:OA) (m s:Nat),b.drew.cell? ((Addr.mk h 0 none).add 2)=some (.slice l m s)∧optS l (fun t=>0≤(a:Int)∧(a:Int) < (m:Nat)∧∃ n:Int,b.drew.cell? (t.add (Int.toNat a * 9))=some (.int .i64 n)∧K (Value.bool (decide ((k:Int)≥n))) b.drew))))):=by kernel_rfl
theorem f63_ok (a:Array Value) (b:OA) (c d:Nat) (e f:Int) (w:World) (K:KT) (h:f63 a b c d e f w K):CallL P 63 [(Value.agg a),(Value.slice b c d),(Value.int .i64 e),(Value.int .i64 f)] w K:=okCS c63 Tryz.func63 (by kernel_rfl) (by kernel_rfl) h
end Go.Fx.Tryz
namespace Go.Fx.Tryz
open Go Go.Fx Go.Fx.Mo
open Go.Proofs
variable {w0 w:World} {H:HL} {K:KT}
set_option maxRecDepth 20000
def zacc:List Value:=[I64 0,I64 0,.int .u32 0,.bool false,.bool false]
def accV (x:Option Mo.Acc):Value:=match x with
 | some a=>.tuple [.agg (Acccs a).toArray,.bool true].toArray
 | none=>.tuple [.agg zacc.toArray,.bool false].toArray
theorem Row.cell {size:Nat} {ov:Value} {n:Nat} {xs:List Value} (h:Row w size ov n xs) {i j:Nat} (hi:i < n) (hj:j < size):∃ a c,ov=.slice (some a) n c∧w.cell? ((a.add (i * size)).add j)=xs[i * size+j]?:=by
 rcases h.2 with ⟨_,h0⟩ | ⟨a,c,h1,h2⟩
 ·omega
 ·have hle:i * size+size≤n * size:=by rw [← Nat.succ_mul]; exact Nat.mul_le_mul_right _ hi
  exact ⟨a,c,h1,by rw [add_add',h2 _ (by omega)]⟩
theorem evs_cell' (l:List Ev) {i j:Nat} (hi:i < l.length) (hj:j < 6):(evsCs l)[i * 6+j]?=(Evcs l[i])[j]?:=by
 have:=congrArg (fun l=>l[j]?) (evs_at hi)
 simp only [List.getElem?_take,hj,if_true,List.getElem?_drop] at this
 exact this
theorem access_ok {l:List Ev} {ov:Value} (h:St w0 w H) (hrow:∀ w',St w0 w' H→Row w' 6 ov l.length (evsCs l)) {i:Nat} (hi:i < l.length) (b:Int) (hK:∀ w',St w0 w' H→K (accV (accessAt l[i] i b)) w'):CallL P 60 [ov,.int .i64 i,.int .u32 b] w K:=by
 obtain ⟨sa,sc,hov⟩:=(hrow w h).form
 rw [hov]
 refine f60_ok _ _ _ _ _ _ _ ?_
 rw [f60_eq,z45]
 refine h.newC fun n3 w1 hn3 h1=>?_
 obtain ⟨a,c,hac,hld⟩:=(hrow w1 (h1.tail hn3)).ldA hi
 rw [hov] at hac
 obtain ⟨hsa,-⟩:sa=some a∧sc=c:=by simpa using hac
 subst hsa
 have cl:∀ {w':World} (j:Nat),j < 6→St w0 w' ((n3,Cs zacc 97)::H)→w'.cell? ((a.add (Int.toNat (i:Int) * 6)).add j)=(Evcs l[i])[j]?:=fun j hj h'=>by
  obtain ⟨a',c',hac',hcell⟩:=Row.cell (hrow _ (h'.tail hn3)) hi hj
  rw [hov] at hac'
  obtain ⟨rfl,-⟩:a=a'∧sc=c':=by simpa using hac'
  rw [Int.toNat_natCast,hcell,evs_cell' l hi hj]
 refine ⟨by omega,by omega,hld _ ?_⟩
 rw [evs_at hi]
 refine accesses_ok h1 l[i] fun w2 h2=>⟨_,_,_,rfl,?_⟩
 have h2d:St w0 w2.drew ((n3,Cs zacc 97)::H):=h2.drew
 have s0:∀ b',accessAt l[i] i b=(if b'=true then none else some ⟨i,l[i].th,l[i].pc,(accesses l[i]).1,(accesses l[i]).2.1⟩)→f60_s0 b' (Addr.mk n3 0 none) (accesses l[i]).2.1 (accesses l[i]).1 i (some a) l.length sc w2.drew K:=by
  intro b' hb
  rw [f60_s0_eq,BIf_iff]
  constructor
  ·rintro rfl
   refine ⟨_,build45z,h2d.stA (k:=0) rfl rfl (by simp [zacc]) (by simp [Value.oneCell']) fun w3 h3=>?_⟩
   refine h3.ldA (k:=0) (i:=0) rfl (by simp [splice_length,zacc]) ?_
   have:=hK w3 (h3.tail hn3)
   rw [hb] at this
   exact this
  ·rintro rfl
   rw [f60_s1_eq]
   have h3d:=h2d.drew
   refine ⟨by omega,by omega,by omega,by omega,_,cl 1 (by omega) h3d,_,cl 2 (by omega) h3d,_,build45 _ _ _ _ _,?_⟩
   refine h3d.stA (k:=0) rfl rfl (by simp [zacc]) (Acccs_one _) fun w3 h3=>?_
   rw [f60_s2_eq]
   refine h3.ldA (k:=0) (i:=0) rfl (by simp [splice_length,zacc]) ?_
   have:=hK w3 (h3.tail hn3)
   rw [hb] at this
   exact this
 rw [BIf_iff]
 constructor
 ·intro hb
  refine s0 true ?_
  simp [accessAt,hb]
 ·intro hb
  have hb:(accesses l[i]).2.2=true:=by simpa using hb
  refine ⟨by omega,by omega,by omega,by omega,_,cl 3 (by omega) h2d,_,cl 5 (by omega) h2d,?_⟩
  refine s0 _ ?_
  simp only [accessAt,hb,Bool.not_true,Bool.false_or]
  rfl
theorem mades_cell {l:List Made} (he:∀ m∈l,m.last.length=8) {i j:Nat} (hi:i < l.length) (hj:j < 9):(mades l)[i * 9+j]?=(madeCs l[i])[j]?:=by
 have h:=flat_slice (f:=madeCs) (n:=9) (l:=l) (fun x hx=>by simp [madeCs,he x hx]) hi
 have:=congrArg (fun l=>l[j]?) h
 simp only [List.getElem?_take,hj,if_true,List.getElem?_drop] at this
 exact this
theorem before_ok {l:List Ev} {ov v1 v2 v3:Value} {hh:Hist} {L1 L2 L3:HL} (h:St w0 w H) (hrow:∀ w',St w0 w' H→Row w' 6 ov l.length (evsCs l)) (hho:HistOk w0 hh v1 v2 v3 L1 L2 L3) (hL3:∀ y∈L3,y∈H)
  (hlen:hh.events.length=l.length) {x:Mo.Acc} {i j:Nat} (hi:i < l.length) (hj:j < l.length) (hx:x.ev=i) (hth:x.th=l[i].th) (ht:0≤x.th∧x.th < 8) (hK:∀ w',St w0 w' H→K (.bool (before hh x j)) w') :
  CallL P 63 [.agg #[v1,v2,v3],ov,.int .i64 x.ev,.int .i64 j] w K:=by
 obtain ⟨sa,sc,hov⟩:=(hrow w h).form
 obtain ⟨ea,ec,hv3⟩:=hho.s3.form
 rw [hov,hx]
 refine f63_ok _ _ _ _ _ _ _ _ ?_
 rw [f63_eq]
 refine h.newC fun n4 w1 hn4 h1=>?_
 have hd:=h1.drew
 obtain ⟨a,c,hac,hcell⟩:=Row.cell (hrow _ (hd.tail hn4)) hi (j:=1) (by omega)
 rw [hov] at hac
 obtain ⟨hsa,-⟩:sa=some a∧sc=c:=by simpa using hac
 subst hsa
 have hr3:Row w1.drew 9 v3 hh.events.length (mades hh.events):=hho.s3.row fun y hy=>hd.has _ _ (.tail _ (hL3 y hy))
 obtain ⟨t,hte,ht8⟩:∃ t:Nat,x.th=t∧t < 8:=⟨x.th.toNat,by omega,by omega⟩
 obtain ⟨e1,k1,he1,hc1⟩:=Row.cell hr3 (i:=j) (j:=1+t) (by omega) (by omega)
 obtain ⟨e2,k2,he2,hc2⟩:=Row.cell hr3 (i:=i) (j:=0) (by omega) (by omega)
 rw [hv3] at he1 he2
 obtain ⟨hea,-⟩:ea=some e1∧ec=k1:=by simpa using he1
 subst hea
 obtain ⟨hea2,-⟩:e1=e2∧ec=k2:=by simpa using he2
 subst hea2
 have hj':j < hh.events.length:=by omega
 have hi':i < hh.events.length:=by omega
 have c3:w1.drew.cell? ((Addr.mk n4 0 none).add 2)=some (.slice (some e1) hh.events.length ec):=by rw [add_lit',hd.cell (k:=0) rfl,← hv3]; rfl
 refine ⟨by omega,by omega,some e1,_,ec,c3,by omega,by omega,l[i].th,?_,?_⟩
 ·rw [Int.toNat_natCast,hcell,evs_cell' l hi (by omega)]; rfl
 rw [← hth]
 refine ⟨ht.1,by have:=ht.2; simpa using this,hh.events[j].last.getD t 0,?_,some e1,_,ec,c3,by omega,by omega,hh.events[i].first,?_,?_⟩
 ·rw [hte,Int.toNat_natCast,Int.toNat_natCast,Nat.mul_one,add_add',hc1,mades_cell hho.each hj' (by omega)]
  have:=hho.each _ (List.getElem_mem hj')
  simp [madeCs,Nat.add_comm 1 t,this,ht8]
 ·have e0:∀ a:Addr,a.add 0=a:=fun a=>by simp [Addr.add]
  rw [e0] at hc2
  rw [Int.toNat_natCast,hc2,mades_cell hho.each hi' (by omega)]
  rfl
 ·have hb:before hh x j=decide (hh.events[j].last.getD t 0≥hh.events[i].first):=by
   unfold before at0
   rw [hx,hte,Int.toNat_natCast,Int.toNat_natCast]
   have g1:hh.events.getD j ⟨0,[]⟩=hh.events[j]:=by rw [List.getD_eq_getElem?_getD,List.getElem?_eq_getElem hj']; rfl
   have g2:hh.events.getD i ⟨0,[]⟩=hh.events[i]:=by rw [List.getD_eq_getElem?_getD,List.getElem?_eq_getElem hi']; rfl
   rw [g1,g2]
  rw [← hb]
  exact hK _ (hd.tail hn4)
end Go.Fx.Tryz
namespace Go.Fx.Tryz
set_option maxRecDepth 100000
open Go Go.Fx Go.Proofs
noncomputable def c30:Code:=bodyOf Tryz.f30
noncomputable def rs30:List ResultVar:=Tryz.f30.results.toList
abbrev f30_kb (K:KT):Exit→YT:=bodyK P rs30 K
def f30 (a b c d:Int) (w:World) (K:KT):Prop:=CS P c30 none [8] [8] (f30_kb K) (env0 14 [(VI a),(VI b),(Value.int .u32 c),(VI d)]) w
theorem f30_eq (a b c d:Int) (w:World) (K:KT):f30 a b c d w K=(NewC (zcells P 45) 45 w (fun e h=>∃ f:Array Value,(∀ wq,(Instr.build 45 [(0,(Value.int .i64 a)),(1,(Value.int .i64 b)),(3,(Value.int .u32 c)),(5,(Value.int .i64 d))].toArray).run P wq=.ok (.agg f) wq)∧StA 6 (Addr.mk e 0 none) f h (fun g=>LdA 6 (Addr.mk e 0 none) g (fun i=>K (Value.agg i) g)))):=by kernel_rfl
theorem f30_ok (a b c d:Int) (w:World) (K:KT) (h:f30 a b c d w K):CallL P 30 [(Value.int .i64 a),(Value.int .i64 b),(Value.int .u32 c),(Value.int .i64 d)] w K:=okCS c30 Tryz.func30 (by kernel_rfl) (by kernel_rfl) h
noncomputable def c32:Code:=bodyOf Tryz.f32
noncomputable def rs32:List ResultVar:=Tryz.f32.results.toList
abbrev f32_kb (K:KT):Exit→YT:=bodyK P rs32 K
def f32 (a:OA) (b c:Nat) (d:OA) (e f:Nat) (w:World) (K:KT):Prop:=CS P c32 none [4] [4] (f32_kb K) (env0 26 [(VS a b c),(VS d e f)]) w
def f32_s0 (a:OA) (b c:Nat) (d:OA) (f g:Nat) (h:Bool) (w:World) (K:KT):Prop:=SG P (cA c32 7) none [4] [4] (f32_kb K) (Env.mk 26 [(1,(VS a b c)),(0,(VS d f g)),(4,(VB h))] []) w
abbrev f32_k4 (K:KT):Exit→YT:=kseq P (cA c32 14) (cA c32 15) none [4] [4] (f32_kb K)
abbrev f32_k6 (K:KT):Exit→YT:=kblock 0 (f32_k4 K)
def f32_lp1 (K:KT) (Y1:YT) (e:Env) (w:World):Prop:=Join (fun e w=>CS P (cA c32 116) none [13,1,0,4,12] [4] (kloop [13,1,0,4,12] Y1 (f32_k6 K)) e w) e w
abbrev f32_kl1 (K:KT) (Y1:YT):Exit→YT:=kloop [13,1,0,4,12] Y1 (f32_k6 K)
def f32_lb1 (a:Int) (b:OA) (c d:Nat) (f:OA) (g h:Nat) (i:Bool) (j:Int) (w:World) (K:KT) (Y1:YT):Prop:=SG P (cA c32 116) none [13,1,0,4,12] [4] (f32_kl1 K Y1) (Env.mk 26 [(13,(VI a)),(1,(VS b c d)),(0,(VS f g h)),(4,(VB i)),(12,(VI j))] []) w
def f32_s2 (a:OA) (b c:Nat) (d:OA) (f g:Nat) (h i:Int) (j:Bool) (w:World) (K:KT) (Y1:YT):Prop:=SG P (cA c32 467) none [13,1,0,4,12] [4] (f32_kl1 K Y1) (Env.mk 26 [(1,(VS a b c)),(0,(VS d f g)),(12,(VI h)),(13,(VI i)),(4,(VB j))] []) w
def f32_s3 (a:OA) (b c:Nat) (d:OA) (f g:Nat) (h:Bool) (i j:Int) (w:World) (K:KT) (Y1:YT):Prop:=SG P (cA c32 935) none [13,1,0,4,12] [4] (f32_kl1 K Y1) (Env.mk 26 [(1,(VS a b c)),(0,(VS d f g)),(4,(VB h)),(12,(VI i)),(13,(VI j))] []) w
theorem f32_s3_eq (a:OA) (b c:Nat) (d:OA) (e f:Nat) (g:Bool) (h i:Int) (w:World) (K:KT) (Y1:YT):f32_s3 a b c d e f g h i w K Y1=(Y1 (Env.mk 26 [(13,(Value.int .i64 (IntKind.wrap .i64 ((i:Int)+1)))),(1,(Value.slice a b c)),(0,(Value.slice d e f)),(4,(Value.bool g)),(12,(Value.int .i64 h))] []) w):=by kernel_rfl
theorem f32_s2_eq (b:OA) (c f:Nat) (d:OA) (e g:Nat) (h a:Int) (i:Bool) (w:World) (K:KT) (Y1:YT):f32_s2 b c f d e g h a i w K Y1=(optS d (fun m=>0≤(a:Int)∧(a:Int) < (e:Nat)∧optS b (fun n=>0≤(a:Int)∧(a:Int) < (c:Nat)∧LdA 3 (m.add (Int.toNat a * 3)) w.drew (fun j=>LdA 3 (n.add (Int.toNat a * 3)) w.drew (fun k=>∃ l:Bool,(∀ wq,(do eqGuard .neq 88 (.tmp 19) (.tmp 23) (Value.agg j) (Value.agg k); binOp .neq 88 (Value.agg j) (Value.agg k):Sem Value).run P wq=.ok (.bool l) wq)∧BIf l (K (Value.bool false) w.drew) (f32_s3 b c f d e g i h a w.drew K Y1)))))):=by kernel_rfl
def f32_s4 (w:World) (K:KT):Prop:=SG P (cA c32 15) none [4] [4] (f32_kb K) (Env.mk 26 [] []) w
theorem f32_s4_eq (w:World) (K:KT):f32_s4 w K=(K (Value.bool true) w):=by kernel_rfl
theorem f32_lb1_eq (a:Int) (c:OA) (d e:Nat) (f:OA) (g h:Nat) (i:Bool) (b:Int) (w:World) (K:KT) (Y1:YT):f32_lb1 a c d e f g h i b w K Y1=(BIf (decide ((a:Int) < b)) (f32_s2 c d e f g h b a i w K Y1) (f32_s4 w K)):=by kernel_rfl
theorem f32_s0_eq (d:OA) (e f:Nat) (a:OA) (b c:Nat) (g:Bool) (w:World) (K:KT):f32_s0 d e f a b c g w K=(∃ h:Int,(∀ wq,Ext w wq→(Builtin.len_ #[84] 3 [(Value.slice a b c)].toArray).run P wq=.ok (.int .i64 h) wq)∧LoopE (f32_lp1 K) (Env.mk 26 [(13,(Value.int .i64 0)),(1,(Value.slice d e f)),(0,(Value.slice a b c)),(4,(Value.bool g)),(12,(Value.int .i64 h))] []) w):=by kernel_rfl
theorem f32_eq (a:OA) (b c:Nat) (d:OA) (e f:Nat) (w:World) (K:KT):f32 a b c d e f w K=(∃ g:Int,(∀ wq,Ext w wq→(Builtin.len_ #[84] 3 [(Value.slice a b c)].toArray).run P wq=.ok (.int .i64 g) wq)∧∃ h:Int,(∀ wq,Ext w wq→(Builtin.len_ #[84] 3 [(Value.slice d e f)].toArray).run P wq=.ok (.int .i64 h) wq)∧BIf ((g:Int) != h) (K (Value.bool false) w) (f32_s0 d e f a b c false w K)):=by kernel_rfl
theorem f32_ok (a:OA) (b c:Nat) (d:OA) (e f:Nat) (w:World) (K:KT) (h:f32 a b c d e f w K):CallL P 32 [(Value.slice a b c),(Value.slice d e f)] w K:=okCS c32 Tryz.func32 (by kernel_rfl) (by kernel_rfl) h
noncomputable def c33:Code:=bodyOf Tryz.f33
noncomputable def rs33:List ResultVar:=Tryz.f33.results.toList
abbrev f33_kb (K:KT):Exit→YT:=bodyK P rs33 K
def f33 (a:OA) (b c:Nat) (w:World) (K:KT):Prop:=CS P c33 none [2] [2] (f33_kb K) (env0 8 [(VS a b c)]) w
def f33_s0 (a:OA) (b c:Nat) (w:World) (K:KT):Prop:=SG P (cA c33 7) none [2] [2] (f33_kb K) (Env.mk 8 [(0,(VS a b c))] []) w
theorem f33_s0_eq (a:OA) (b c:Nat) (w:World) (K:KT):f33_s0 a b c w K=(∃ (d:OA) (e f:Nat),∃ g:World,(Instr.buildSlice 22 0 ([]:List (Nat × Value)).toArray).run P w=.ok (.slice d e f) g∧∃ (h:OA) (i j:Nat),∃ k:World,(Builtin.append_ #[22,22] 22 [(Value.slice d e f),(Value.slice a b c)].toArray).run P g=.ok (.slice h i j) k∧K (Value.slice h i j) k):=by kernel_rfl
theorem f33_eq (a:OA) (b c:Nat) (w:World) (K:KT):f33 a b c w K=(BIf a.isNone (K (Value.slice none 0 0) w) (f33_s0 a b c w K)):=by kernel_rfl
theorem f33_ok (a:OA) (b c:Nat) (w:World) (K:KT) (h:f33 a b c w K):CallL P 33 [(Value.slice a b c)] w K:=okCS c33 Tryz.func33 (by kernel_rfl) (by kernel_rfl) h
end Go.Fx.Tryz
namespace Go.Fx.Tryz
open Go Go.Fx Go.Fx.Mo
open Go.Proofs
variable {w0 w:World} {H:HL} {K:KT}
set_option maxRecDepth 20000
abbrev evV (e:Ev):Value:=.agg (Evcs e).toArray
theorem build35 (k t a n:Int) (wq:World):(Instr.build 45 [(0,(Value.int .i64 k)),(1,(Value.int .i64 t)),(3,(Value.int .u32 a)),(5,(Value.int .i64 n))].toArray).run P wq=.ok (evV (ev k t a n)) wq:=by kernel_rfl
theorem ev_ok (h:St w0 w H) (k t a n:Int) (hK:∀ w',St w0 w' H→K (evV (ev k t a n)) w'):CallL P 30 [.int .i64 k,.int .i64 t,.int .u32 a,.int .i64 n] w K:=by
 refine f30_ok _ _ _ _ _ _ ?_
 obtain ⟨ze,hze,hzel⟩:=z35
 rw [f30_eq,hze]
 refine h.newC fun n4 w1 hn4 h1=>⟨_,build35 k t a n,?_⟩
 refine h1.stA (k:=0) rfl (by simp [Evcs_len]) (by simp [hzel]) (Evcs_one _) fun w2 h2=>?_
 have h2:St w0 w2 ((n4,Cs (splice ze 0 (Evcs (ev k t a n))) 45)::H):=h2
 rw [splice_whole (by rw [Evcs_len,hzel])] at h2
 refine h2.ldA (k:=0) (i:=0) rfl (by simp [Evcs_len]) ?_
 exact hK w2 (h2.tail hn4)
theorem evsCs_len (l:List Ev):(evsCs l).length=l.length * 6:=by
 induction l with
 | nil=>rfl
 | cons x r ih=>
  have e:evsCs (x::r)=Evcs x++evsCs r:=rfl
  rw [e,List.length_append,ih,Evcs_len,List.length_cons]
  omega
theorem evs_row {l:List Ev} {n:Nat} (hn:(n,Cs (evsCs l) 45)∈H):∀ w',St w0 w' H→Row w' 6 (.slice (some (Addr.mk n 0 none)) l.length l.length) l.length (evsCs l):=fun w' h'=>
 ⟨evsCs_len l,.inr ⟨_,_,rfl,fun i _=>by rw [add_lit',cell_of (h'.has _ _ hn),Nat.zero_add]⟩⟩
theorem evs_flat (l:List Ev):(((l.map evV).map fun (v:Value)=>v.cells.toList).flatten.toArray).toList=evsCs l:=by
 simp only [List.toList_toArray,List.map_map,evsCs]
 congr 1
theorem evs_sizes (l:List Ev):sizesAre 6 (l.map evV):=by
 induction l with
 | nil=>trivial
 | cons x r ih=>exact ⟨rfl,ih⟩
theorem lay_evs (l:List Ev) (h:St w0 w H) {K:Nat→World→Prop} (hK:∀ n w',w0.heap.size≤n→St w0 w' ((n,Cs (evsCs l) 45)::H)→K n w') :
  sizesAre 6 (l.map evV)∧NewC (((l.map evV).map fun (v:Value)=>v.cells.toList).flatten.toArray) 45 w K:=by
 refine ⟨evs_sizes l,h.newC fun n w' hn h'=>hK n w' hn ?_⟩
 rw [evs_flat] at h'
 exact h'
theorem first_at (hsort:SortOk w0 66) {l:List Ev} {out:List Mo.Race} (hr:races l=.inl out) (hl:l.length < 1000) (h:St w0 w H) {n:Nat} (hn:(n,Cs (evsCs l) 45)∈H)
  (hK:∀ w' a c Lo,SlO 3 88 (.slice a out.length c) out.length (triplesCs out) Lo→New w0 Lo→St w0 w' (Lo++H)→K (.tuple [.slice a out.length c,.bool true].toArray) w') :
  CallL P 31 [.slice (some (Addr.mk n 0 none)) l.length l.length] w K:=by
 refine firsts_ok hsort h (evs_row hn) (by omega) (fun x hx=>by rw [hr] at hx; cases hx) fun out' hx hlen w' rv Lo hS hN h'=>?_
 rw [hr] at hx
 cases hx
 obtain ⟨a,c,hrv⟩:=hS.form
 subst hrv
 exact hK w' a c Lo hS hN h'
theorem run_len_81 {p:Option Addr} {l c:Nat} (wq:World):(Builtin.len_ #[84] 3 [Value.slice p l c].toArray).run P wq=.ok (.int .i64 l) wq:=run_len_slice p l c Tryz.underlying84 3
theorem eqA (a b c:Int) (wq:World) (d:Nat) (h3:∀ d x,(Op.equalIn (d+1) 3 (.int .i64 x) (.int .i64 x)).run P wq=.ok true wq):(Op.equalIn (d+2) 88 (.agg #[I64 a,I64 b,I64 c]) (.agg #[I64 a,I64 b,I64 c])).run P wq=.ok true wq:=by
 have p0:(part 3 #[I64 a,I64 b,I64 c] 0).run P wq=.ok (I64 a) wq:=by kernel_rfl
 have p1:(part 3 #[I64 a,I64 b,I64 c] 1).run P wq=.ok (I64 b) wq:=by kernel_rfl
 have p2:(part 3 #[I64 a,I64 b,I64 c] 2).run P wq=.ok (I64 c) wq:=by kernel_rfl
 rw [Op.equalIn]
 simp [run_underlying Tryz.underlying88,Tryz.sizeOf3,List.range',h3,p0,p1,p2]
theorem eq85 (a b c:Int) (wq:World) (s t:Nat):(do eqGuard .neq 88 (.tmp s) (.tmp t) (.agg #[I64 a,I64 b,I64 c]) (.agg #[I64 a,I64 b,I64 c]); binOp .neq 88 (.agg #[I64 a,I64 b,I64 c]) (.agg #[I64 a,I64 b,I64 c]):Sem Value).run P wq=.ok (.bool false) wq:=by
 have h3:∀ d x,(Op.equalIn (d+1) 3 (.int .i64 x) (.int .i64 x)).run P wq=.ok true wq:=fun d x=>by simp [Op.equalIn,run_underlying Tryz.underlying3]
 have hm:∃ d,Op.maxDepth=d+2:=⟨_,rfl⟩
 obtain ⟨d,hd⟩:=hm
 have he:(Op.equal 88 (.agg #[I64 a,I64 b,I64 c]) (.agg #[I64 a,I64 b,I64 c])).run P wq=.ok true wq:=by
  unfold Op.equal
  rw [hd]
  exact eqA a b c wq d h3
 simp [eqGuard,binOp,he,Tryz.eqGuardType88]
theorem triples_at {l:List Mo.Race} {i:Nat} (hi:i < l.length):((triplesCs l).drop (i * 3)).take 3=(triple l[i]).map I64:=flat_slice (f:=fun r=>(triple r).map I64) (fun x _=>by simp [triple]) hi
theorem same3_ok {l:List Mo.Race} {av bv:Value} (h:St w0 w H) (ha:∀ w',St w0 w' H→Row w' 3 av l.length (triplesCs l)) (hb:∀ w',St w0 w' H→Row w' 3 bv l.length (triplesCs l)) (hl63:l.length < 9223372036854775807)
  (hK:∀ w',St w0 w' H→K (.bool true) w'):CallL P 32 [av,bv] w K:=by
 obtain ⟨a1,a2,hav⟩:=(ha w h).form
 obtain ⟨b1,b2,hbv⟩:=(hb w h).form
 rw [hav,hbv]
 refine f32_ok _ _ _ _ _ _ _ _ ?_
 rw [f32_eq]
 refine ⟨l.length,fun wq _=>run_len_81 wq,l.length,fun wq _=>run_len_81 wq,?_⟩
 rw [show ((l.length:Int) != (l.length:Int))=false by simp,BIf_false,f32_s0_eq]
 refine ⟨l.length,fun wq _=>run_len_81 wq,?_⟩
 refine ⟨fun m ee w=>∃ (i:Nat),i≤l.length∧m=l.length - i∧ee=Env.mk 26 [(13,(Value.int .i64 i)),(1,(Value.slice b1 l.length b2)),(0,(Value.slice a1 l.length a2)),(4,(Value.bool false)),(12,(Value.int .i64 l.length))] []∧St w0 w H,
  ⟨l.length,0,by omega,rfl,rfl,h⟩,?_⟩
 rintro m ee w ⟨i,hi,rfl,rfl,hw⟩
 show f32_lb1 ..
 rw [f32_lb1_eq,BIf_iff]
 constructor
 ·intro hlt
  have hlt:i < l.length:=by simpa using hlt
  rw [f32_s2_eq]
  have hd:=hw.drew
  obtain ⟨a,c,hac,hld⟩:=(ha _ hd).ldA hlt
  rw [hav] at hac
  obtain ⟨hsa,-⟩:a1=some a∧a2=c:=by simpa using hac
  subst hsa
  obtain ⟨b,c',hbc,hldb⟩:=(hb _ hd).ldA hlt
  rw [hbv] at hbc
  obtain ⟨hsb,-⟩:b1=some b∧b2=c':=by simpa using hbc
  subst hsb
  refine ⟨by omega,by omega,by omega,by omega,hld _ (hldb _ ?_)⟩
  rw [triples_at hlt]
  refine ⟨_,fun wq=>eq85 _ _ _ wq _ _,?_⟩
  rw [BIf_false,f32_s3_eq]
  refine ⟨l.length - (i+1),by omega,i+1,by omega,rfl,?_,hd⟩
  rw [wrap_i64 (by omega) (by omega)]; rfl
 ·intro hge
  rw [f32_s4_eq]
  exact hK w hw
theorem clone_ok {l:List Ev} (h:St w0 w H) {n:Nat} (hn:(n,Cs (evsCs l) 45)∈H) (hl:l.length < 1000) (hK:∀ w' v L,SlO 6 45 v l.length (evsCs l) L→New w0 L→St w0 w' (L++H)→K v w'):CallL P 33 [.slice (some (Addr.mk n 0 none)) l.length l.length] w K:=by
 refine f33_ok _ _ _ _ _ ?_
 rw [f33_eq,Option.isNone_some,BIf_false,f33_s0_eq]
 have bs:∀ w:World,(Instr.buildSlice 22 0 ([]:List (Nat × Value)).toArray).run P w=.ok (.slice (some ⟨w.heap.size,0,none⟩) 0 0) (w.alloc (.cells #[] 45 (0,0))):=fun w=>by kernel_rfl
 refine ⟨_,_,_,_,bs w,?_⟩
 have h3:=h.alloc (.cells #[] 45 (0,0))
 have hn3:=h.le
 generalize w.heap.size=m at h3 hn3
 have h3:St w0 (w.alloc (.cells #[] 45 (0,0))) ([]++([(m,Cs [] 45)]++H)):=h3
 have hS0:SlO 6 45 (.slice (some ⟨m,0,none⟩) 0 0) 0 [] [(m,Cs [] 45)]:=⟨rfl,.inr ⟨m,0,[],rfl,rfl,by omega,by simp [maxLen],rfl,rfl⟩⟩
 have hSn:SlO 6 45 (.slice (some (Addr.mk n 0 none)) l.length l.length) l.length (evsCs l) [(n,Cs (evsCs l) 45)]:=⟨evsCs_len l,.inr ⟨n,l.length,evsCs l,rfl,rfl,by omega,by simp [maxLen]; omega,evsCs_len l,by rw [← evsCs_len l]; exact List.take_length⟩⟩
 have hone:∀ u∈evsCs l,u.oneCell'=true:=by
  intro u hu
  obtain ⟨x,hx,hu⟩:=List.mem_flatten.1 hu
  obtain ⟨r,_,rfl⟩:=List.mem_map.1 hx
  exact Evcs_one r u (by simpa using hu)
 obtain ⟨v',w',L',hr,hS,hs,hN⟩:=St.appendN (P:=P) 22 22 45 Tryz.t45 (.agg #[I64 0,I64 0,.int .u32 0,.int .u32 0,.int .u32 0,I64 0]) 6 40 Tryz.underlying22 (by kernel_rfl) rfl rfl rfl rfl (by omega)
  (A:=[]) (L:=[(m,Cs [] 45)]) (H:=H) (M:=[(n,Cs (evsCs l) 45)]) h3 hS0 (by simpa [New] using hn3) hSn (fun y hy=>by simp at hy; subst hy; exact h3.has _ _ (by simp [hn])) hone (by simp [maxLen]; omega) (by omega)
 obtain ⟨a,c,hv⟩:=hS.form
 subst hv
 refine ⟨a,_,c,w',hr,hK w' _ L' (by simpa using hS) hN hs⟩
end Go.Fx.Tryz
namespace Go.Proofs
open Go.Shelf
set_option maxRecDepth 100000
def Tryz.sortR_ren:Go.Shelf.Ren:=⟨fun | 6=>65 | 15=>89 | 14=>88 | 28=>110 | 29=>111 | 20=>102 | 21=>103 | 22=>104 | 23=>105 | 24=>106 | 25=>107 | 26=>108 | 27=>109 | 46=>126 | 47=>127 | 48=>128 | 49=>129 | 50=>130 | 57=>134 | n=>n,fun | 22=>39 | 24=>108 | 25=>156 | 3=>3 | 39=>178 | 0=>0 | 53=>43 | 55=>174 | 4=>4 | 46=>187 | 45=>186 | 50=>191 | 5=>5 | 9=>9 | 66=>205 | 70=>161 | 76=>213 | 77=>46 | n=>n,fun | n=>n⟩
theorem Tryz.sortR:Go.Proofs.SlLaysF0.n6 Tryz.prog Tryz.sortR_ren:={
 mixed:=by kernel_rfl,
 f6:=⟨Tryz.f65.name,by decide,Tryz.func65.trans (congrArg some (by kernel_rfl))⟩,
 f14:=⟨Tryz.f88.name,by decide,Tryz.func88.trans (congrArg some (by kernel_rfl))⟩,
 f15:=Tryz.func89.trans (congrArg some (by kernel_rfl)),
 f20:=⟨Tryz.f102.name,by decide,Tryz.func102.trans (congrArg some (by kernel_rfl))⟩,
 f21:=⟨Tryz.f103.name,by decide,Tryz.func103.trans (congrArg some (by kernel_rfl))⟩,
 f22:=⟨Tryz.f104.name,by decide,Tryz.func104.trans (congrArg some (by kernel_rfl))⟩,
 f23:=⟨Tryz.f105.name,by decide,Tryz.func105.trans (congrArg some (by kernel_rfl))⟩,
 f24:=⟨Tryz.f106.name,by decide,Tryz.func106.trans (congrArg some (by kernel_rfl))⟩,
 f25:=⟨Tryz.f107.name,by decide,Tryz.func107.trans (congrArg some (by kernel_rfl))⟩,
 f26:=⟨Tryz.f108.name,by decide,Tryz.func108.trans (congrArg some (by kernel_rfl))⟩,
 f27:=⟨Tryz.f109.name,by decide,Tryz.func109.trans (congrArg some (by kernel_rfl))⟩,
 f28:=Tryz.func110.trans (congrArg some (by kernel_rfl)),
 f29:=Tryz.func111.trans (congrArg some (by kernel_rfl)),
 f46:=⟨Tryz.f126.name,by decide,Tryz.func126.trans (congrArg some (by kernel_rfl))⟩,
 f47:=Tryz.func127.trans (congrArg some (by kernel_rfl)),
 f48:=Tryz.func128.trans (congrArg some (by kernel_rfl)),
 f49:=⟨Tryz.f129.name,by decide,Tryz.func129.trans (congrArg some (by kernel_rfl))⟩,
 f50:=⟨Tryz.f130.name,by decide,Tryz.func130.trans (congrArg some (by kernel_rfl))⟩,
 f57:=⟨Tryz.f134.name,by decide,Tryz.func134.trans (congrArg some (by kernel_rfl))⟩,
 t0:=Tryz.underlying0,
 a0:=Tryz.isAgg0,
 z0:=Tryz.sizeOf0,
 v0:=Tryz.zeroValue0,
 t3:=Tryz.underlying3,
 a3:=Tryz.isAgg3,
 z3:=Tryz.sizeOf3,
 v3:=Tryz.zeroValue3,
 t4:=Tryz.underlying4,
 a4:=Tryz.isAgg4,
 z4:=Tryz.sizeOf4,
 v4:=Tryz.zeroValue4,
 t5:=Tryz.underlying5,
 a5:=Tryz.isAgg5,
 z5:=Tryz.sizeOf5,
 v5:=Tryz.zeroValue5,
 t9:=Tryz.underlying9,
 a9:=Tryz.isAgg9,
 z9:=Tryz.sizeOf9,
 v9:=Tryz.zeroValue9,
 t22:=Tryz.underlying39,
 a22:=Tryz.isAgg39,
 z22:=Tryz.sizeOf39,
 v22:=Tryz.zeroValue39,
 t25:=Tryz.underlying156,
 a25:=Tryz.isAgg156,
 z25:=Tryz.sizeOf156,
 v25:=Tryz.zeroValue156,
 t39:=Tryz.underlying178,
 a39:=Tryz.isAgg178,
 z39:=Tryz.sizeOf178,
 v39:=Tryz.zeroValue178,
 t45:=Tryz.underlying186,
 a45:=Tryz.isAgg186,
 z45:=Tryz.sizeOf186,
 v45:=Tryz.zeroValue186,
 t46:=Tryz.underlying187,
 a46:=Tryz.isAgg187,
 z46:=Tryz.sizeOf187,
 v46:=Tryz.zeroValue187,
 t50:=Tryz.underlying191,
 a50:=Tryz.isAgg191,
 z50:=Tryz.sizeOf191,
 v50:=Tryz.zeroValue191,
 t53:=Tryz.underlying43,
 a53:=Tryz.isAgg43,
 z53:=Tryz.sizeOf43,
 v53:=Tryz.zeroValue43,
 t55:=Tryz.underlying174,
 a55:=Tryz.isAgg174,
 z55:=Tryz.sizeOf174,
 v55:=Tryz.zeroValue174,
 t66:=Tryz.underlying205,
 a66:=Tryz.isAgg205,
 z66:=Tryz.sizeOf205,
 v66:=Tryz.zeroValue205,
 t70:=Tryz.underlying161,
 a70:=Tryz.isAgg161,
 z70:=Tryz.sizeOf161,
 v70:=Tryz.zeroValue161,
 t76:=Tryz.underlying213,
 a76:=Tryz.isAgg213,
 z76:=Tryz.sizeOf213,
 v76:=Tryz.zeroValue213,
 t77:=Tryz.underlying46,
 a77:=Tryz.isAgg46,
 z77:=Tryz.sizeOf46,
 v77:=Tryz.zeroValue46 }
end Go.Proofs
namespace Go.Fx
open Go Go.Sort Go.Proofs
variable {w0 w:World} {H:HL}
theorem St.grow (h:St w0 w H) (os:Array Obj):St w0 (Go.Sort.grow w os) H:=by
 have hg:∀ b,b < w.heap.size→(Go.Sort.grow w os).heap[b]?=w.heap[b]?:=fun b hb=>by
  show (w.heap++os)[b]?=_
  rw [Array.getElem?_append_left hb]
 refine ⟨⟨h.kept.os,h.kept.tape,h.kept.output⟩,?_,fun b o hb=>?_,h.nd,fun b hb hn=>?_⟩
 ·show w0.heap.size≤(w.heap++os).size
  rw [Array.size_append]
  have:=h.le
  omega
 ·rw [hg b (h.lt hb)]; exact h.has b o hb
 ·rw [hg b (Nat.lt_of_lt_of_le hb h.le)]; exact h.old b hb hn
theorem flat_get {α:Type} {f:α→List Value} {n:Nat} (hn:0 < n):∀ {l:List α},(∀ x∈l,(f x).length=n)→∀ t:Nat,((l.map f).flatten)[t]?=(l[t / n]?).bind fun x=>(f x)[t % n]?
 | [],_,t=>by simp
 | x::r,h,t=>by
  have hx:=h x (.head _)
  rw [List.map_cons,List.flatten_cons]
  by_cases ht:t < n
  ·rw [List.getElem?_append_left (by omega),Nat.div_eq_of_lt ht,Nat.mod_eq_of_lt ht]
   rfl
  ·rw [List.getElem?_append_right (by omega),flat_get hn (fun y hy=>h y (.tail _ hy)),hx]
   have e1:t / n=(t - n) / n+1:=by rw [← Nat.add_div_right _ hn]; congr 1; omega
   have e2:t % n=(t - n) % n:=by rw [← Nat.add_mod_right (t - n)]; congr 1; omega
   rw [e1,e2,List.getElem?_cons_succ]
theorem mapBlock_put {w:World} {b:Nat} {cs:List Value} {t:TypeId} (h:w.heap[b]?=some (Cs cs t)) (f:Array Value→Array Value):mapBlock w b f=w.putObj b (Cs (f cs.toArray).toList t):=by
 unfold mapBlock World.putObj
 congr 1
 apply Array.ext_getElem?
 intro c
 rw [Array.getElem?_modify,Array.getElem?_setIfInBounds]
 obtain ⟨hlt,he⟩:=Array.getElem?_eq_some_iff.1 h
 by_cases hbc:b=c
 ·subst hbc
  simp only [if_true,hlt]
  rw [Array.getElem?_eq_getElem hlt,he]
  simp [onCells,Cs]
 ·simp [hbc]
namespace Tryz
open Go.Fx.Mo
set_option maxRecDepth 20000
theorem flat_races (d:Array Mo.Race):(flatK Racecs 11 d).toList=racesCs d.toList:=by
 apply List.ext_getElem?
 intro t
 have hl:(flatK Racecs 11 d).size=d.size * 11:=size_flatK ..
 by_cases ht:t < d.size * 11
 ·have h1:t / 11 < d.size:=by omega
  have e1:(flatK Racecs 11 d).toList[t]?=some (flatK Racecs 11 d)[t]!:=by
   rw [Array.getElem?_toList,Array.getElem?_eq_getElem (by omega),getElem!_pos _ t (by omega)]
  rw [e1,get_flatK _ _ _ _ ht]
  unfold racesCs
  rw [flat_get (by omega) (fun x _=>Racecs_len x)]
  rw [Array.getElem?_toList,Array.getElem?_eq_getElem h1,Option.bind_some,getElem!_pos d _ h1]
  have h2:t % 11 < (Racecs d[t / 11]).length:=by rw [Racecs_len]; omega
  rw [List.getElem?_eq_getElem h2,getElem!_pos (Racecs d[t / 11]) _ h2]
 ·rw [List.getElem?_eq_none (by rw [Array.length_toList,hl]; omega),List.getElem?_eq_none]
  have:(racesCs d.toList).length=d.size * 11:=by
   have key:∀ l:List Mo.Race,(racesCs l).length=l.length * 11:=by
    intro l
    induction l with
    | nil=>rfl
    | cons x r ih=>
     have e:racesCs (x::r)=Racecs x++racesCs r:=rfl
     rw [e,List.length_append,ih,Racecs_len,List.length_cons]
     omega
   rw [key,Array.length_toList]
  omega
theorem ltR (a b:Mo.Race):ltOf cfR a b=decide (a.second.ev < b.second.ev∨a.second.ev=b.second.ev∧a.byte < b.byte):=by
 unfold ltOf cfR orI cmpI
 by_cases h1:a.second.ev < b.second.ev
 ·simp [h1]
 ·by_cases h2:a.second.ev > b.second.ev
  ·have:¬ a.second.ev=b.second.ev:=by omega
   simp [h1,h2,this]
  ·have he:a.second.ev=b.second.ev:=by omega
   by_cases h3:a.byte < b.byte
   ·simp [he,h3]
   ·by_cases h4:b.byte < a.byte <;> simp [he,h3,h4]
theorem swoR:SWO (ltOf cfR) where
 irrefl x:=by rw [ltR]; simp
 trans x y z h1 h2:=by rw [ltR] at *; simp at *; omega
 ntrans x y z h1 h2:=by rw [ltR] at *; simp at *; omega
theorem cmpLays {g:Nat} (hg:∀ (a b:Mo.Race) {w:World} {K:KT},(∀ w',(∃ q os,w'=Go.Sort.grow (w.drewN q) os)→K (.int .i64 (cfR a b)) w')→CallL P g [.agg (Racecs a).toArray,.agg (Racecs b).toArray] w K)
  (blk off size:Nat) (w:World):CmpLays P g #[] Racecs 11 cfR blk off size w:=by
 intro m os dk _ x y
 have h:=hg x y (w:=sortWorldK Racecs 11 w blk off m dk os) (K:=fun v w'=>v=.int .i64 (cfR x y)∧∃ q os',w'=Go.Sort.grow ((sortWorldK Racecs 11 w blk off m dk os).drewN q) os') (fun w' hw=>⟨rfl,hw⟩)
 unfold CallL CallC at h
 refine Calls.mono h fun e w' he=>?_
 unfold retK at he
 split at he
 ·exact ⟨by rw [he.1],he.2⟩
 ·exact he.elim
theorem aggR (w:World):(isAgg 108).run P w=.ok true w:=Tryz.isAgg108 w
theorem sizeR (w:World):(Go.sizeOf 108).run P w=.ok 11 w:=Tryz.sizeOf108 w
theorem CallL_of {g:Nat} {args:List Value} {K:KT} {Q:Ending→World→Prop} (h:Calls P g args.toArray w Q) (hK:∀ e w',Q e w'→∃ v,e=.returned v∧K v w'):CallL P g args w K:=by
 unfold CallL CallC
 refine Calls.mono h fun e w' he=>?_
 obtain ⟨v,rfl,hv⟩:=hK e w' he
 exact hv
theorem sort_g {g:Nat} (eg:∀ args w,(callFunc g args).run P w=.ok (.enter g args) w) (hg:∀ (a b:Mo.Race) {w:World} {K:KT},(∀ w',(∃ q os,w'=Go.Sort.grow (w.drewN q) os)→K (.int .i64 (cfR a b)) w')→CallL P g [.agg (Racecs a).toArray,.agg (Racecs b).toArray] w K):SortOk w0 g:=by
 intro w H K out ov Lo h hLo hnd hlen hK
 rcases hLo.2 with ⟨rfl,hn,rfl⟩ | ⟨blk,cap,cur,rfl,rfl,hnc,hcm,hcl,htk⟩
 ·have hout:out=[]:=List.length_eq_zero_iff.1 hn
  subst hout
  refine CallL_of (AnyF.slices_SortFunc_none (P:=P) { Tryz.sortR with } none 0 (.func (.func g) #[] #[]) w) ?_
  rintro e w' ⟨rfl,rfl⟩
  exact ⟨_,rfl,hK w' [] (by simpa using hLo) (fun hN=>hN) h⟩
 ·have hb:w.heap[blk]?=some (Cs cur 108):=h.has _ _ (by simp)
  have hrow:racesCs out=cur.take (out.length * 11):=htk.symm
  have hxl:(racesCs out).length=out.length * 11:=hLo.1
  have hH:HoldsK Racecs 11 w blk 0 out.toArray:=by
   intro j hj
   rw [size_flatK] at hj
   have hj:j < out.length * 11:=by simpa using hj
   have e:(flatK Racecs 11 out.toArray)[j]! = (racesCs out)[j]!:=by
    have hf:=flat_races out.toArray
    have hs:j < (flatK Racecs 11 out.toArray).size:=by rw [size_flatK]; simpa using hj
    have hf:(flatK Racecs 11 out.toArray).toList=racesCs out:=hf
    rw [getElem!_pos _ j hs,← hf,getElem!_pos _ j (by simpa using hs)]
    rfl
   refine ⟨?_,?_⟩
   ·rw [Nat.zero_add,cell_of hb]
    simp only [id]
    rw [e,getElem!_pos (racesCs out) j (by omega)]
    have e2:(racesCs out)[j]?=cur[j]?:=by rw [hrow,List.getElem?_take,if_pos hj]
    rw [← e2,List.getElem?_eq_getElem (by omega)]
   ·rw [Nat.zero_add]; exact frozen_of hb
  have hcon:=AnyQ.slices_SortFunc (P:=P) { Tryz.sortR with } 11 aggR sizeR Racecs Racecs_len (fun x v hv=>Racecs_one x v hv) cfR swoR g #[] blk 0 cap out.toArray w eg (cmpLays hg blk 0 out.toArray.size w) hH (Array.getElem?_eq_some_iff.1 hb).1 (by simp; omega)
  have hsz:out.toArray.size=out.length:=by simp
  rw [hsz] at hcon
  refine CallL_of hcon ?_
  rintro e w' ⟨rfl,d',n,os,⟨hds,_,hperm⟩,hsort,rfl⟩
  refine ⟨_,rfl,?_⟩
  have e1:d'.extract 0 out.length=d':=by rw [← hsz,← hds]; exact Array.extract_size
  have e0:out.toArray.extract 0 out.length=out.toArray:=by rw [← hsz]; exact Array.extract_size
  rw [e1,e0] at hperm
  have hds':d'.size=out.length:=by rw [hds,hsz]
  have hpw:d'.toList.Pairwise fun a b=>raceLe a b=true:=by
   rw [List.pairwise_iff_getElem]
   intro i j hi hj hij
   have hi':i < d'.size:=by simpa using hi
   have hj':j < d'.size:=by simpa using hj
   have hlt:=hsort i j (Nat.zero_le _) hij (by omega)
   rw [ltR,getElem!_pos d' i hi',getElem!_pos d' j hj'] at hlt
   have hlt:=of_decide_eq_false hlt
   rw [raceLe_iff]
   simp only [Array.getElem_toList]
   omega
  have hsorted:=sort_is hnd (by simpa using hperm) hpw
  have hs1:St w0 (Go.Sort.ahead w n) ([(blk,Cs cur 108)]++H):=⟨⟨h.kept.os,h.kept.tape,h.kept.output⟩,h.le,h.has,h.nd,h.old⟩
  have hb1:(Go.Sort.ahead w n).heap[blk]?=some (Cs cur 108):=hb
  have hw':sortWorldK Racecs 11 w blk 0 n d' os=Go.Sort.grow ((Go.Sort.ahead w n).putObj blk (Cs (putCells id 0 (flatK Racecs 11 d') cur.toArray).toList 108)) os:=by
   unfold sortWorldK putRowK putRow
   rw [mapBlock_put hb1]
  rw [hw']
  have hs2:=(hs1.put (k:=0) rfl (Cs (putCells id 0 (flatK Racecs 11 d') cur.toArray).toList 108)).grow os
  refine hK _ [(blk,Cs (putCells id 0 (flatK Racecs 11 d') cur.toArray).toList 108)] ?_ (fun hN=>by simpa [New] using hN) hs2
  have hfl:(flatK Racecs 11 d').size=out.length * 11:=by rw [size_flatK,hds']
  have hml:out.length=(out.mergeSort raceLe).length:=by rw [List.length_mergeSort]
  refine ⟨?_,.inr ⟨blk,cap,_,rfl,rfl,hnc,hcm,?_,?_⟩⟩
  ·rw [← hsorted,← flat_races d',Array.length_toList,hfl]
  ·simp [putCells,hcl]
  ·rw [← hsorted,← flat_races d']
   apply List.ext_getElem?
   intro t
   rw [List.getElem?_take]
   have hle:out.length * 11≤cap * 11:=Nat.mul_le_mul_right _ hnc
   by_cases ht:t < out.length * 11
   ·rw [if_pos ht]
    have htc:t < cur.length:=by omega
    have e:(putCells id 0 (flatK Racecs 11 d') cur.toArray).toList[t]?=some (flatK Racecs 11 d')[t]!:=by
     simp [putCells,htc,hfl,ht]
    rw [e,Array.getElem?_toList,Array.getElem?_eq_getElem (by omega),getElem!_pos _ t (by omega)]
   ·rw [if_neg ht,List.getElem?_eq_none (by rw [Array.length_toList,hfl]; omega)]
theorem sort48:SortOk w0 66:=sort_g (enters_of Tryz.func66 (by kernel_rfl) rfl) fun a b {_ _} h=>cmp48 a b h
end Tryz
end Go.Fx
namespace Go.Fx.Tryz
set_option maxRecDepth 100000
open Go Go.Fx Go.Proofs
noncomputable def c5:Code:=bodyOf Tryz.f5
noncomputable def rs5:List ResultVar:=Tryz.f5.results.toList
abbrev f5_kb (K:KT):Exit→YT:=bodyK P rs5 K
def f5 (w:World) (K:KT):Prop:=CS P c5 none [0] [0] (f5_kb K) (env0 168 []) w
abbrev f5_k4 (K:KT):Exit→YT:=kseq P (cA c5 62) (cA c5 63) none [0] [0] (f5_kb K)
def f5_s0 (a:Bool) (b c d:Addr) (w:World) (K:KT):Prop:=SG P (cA c5 125) none [3,1,2] [0] (f5_k4 K) (Env.mk 168 [(42,(VB a)),(3,(VP (some b))),(1,(VP (some c))),(2,(VP (some d)))] []) w
def f5_s1 (a b c:Addr) (w:World) (K:KT):Prop:=SG P (cA c5 63) none [0] [0] (f5_kb K) (Env.mk 168 [(3,(VP (some a))),(1,(VP (some b))),(2,(VP (some c)))] []) w
def f5_s2 (a b c:Addr) (d:OA) (f g:Nat) (h:Bool) (w:World) (K:KT):Prop:=SG P (cA c5 127) none [0] [0] (f5_kb K) (Env.mk 168 [(3,(VP (some a))),(1,(VP (some b))),(2,(VP (some c))),(6,(VS d f g)),(5,(VB h))] []) w
abbrev f5_k8 (K:KT):Exit→YT:=kseq P (cA c5 254) (cA c5 255) none [0] [0] (f5_kb K)
def f5_s3 (a:Bool) (b c d:Addr) (w:World) (K:KT):Prop:=SG P (cA c5 509) none [3,1,2] [0] (f5_k8 K) (Env.mk 168 [(60,(VB a)),(3,(VP (some b))),(1,(VP (some c))),(2,(VP (some d)))] []) w
def f5_s4 (a b c:Addr) (w:World) (K:KT):Prop:=SG P (cA c5 255) none [0] [0] (f5_kb K) (Env.mk 168 [(3,(VP (some a))),(1,(VP (some b))),(2,(VP (some c)))] []) w
def f5_s5 (a b:Addr) (c:OA) (d f:Nat) (w:World) (K:KT):Prop:=SG P (cA c5 511) none [0] [0] (f5_kb K) (Env.mk 168 [(3,(VP (some a))),(1,(VP (some b))),(7,(VS c d f))] []) w
abbrev f5_k16 (K:KT):Exit→YT:=kseq P (cA c5 16382) (cA c5 16383) none [0] [0] (f5_kb K)
def f5_s6 (a:Bool) (b c:Addr) (w:World) (K:KT):Prop:=SG P (cA c5 32765) none [3,1] [0] (f5_k16 K) (Env.mk 168 [(98,(VB a)),(3,(VP (some b))),(1,(VP (some c)))] []) w
def f5_s7 (a b:Addr) (w:World) (K:KT):Prop:=SG P (cA c5 16383) none [0] [0] (f5_kb K) (Env.mk 168 [(3,(VP (some a))),(1,(VP (some b)))] []) w
abbrev f5_k22 (K:KT):Exit→YT:=kseq P (cA c5 262142) (cA c5 262143) none [0] [0] (f5_kb K)
def f5_s8 (a:Bool) (b c d f:Addr) (w:World) (K:KT):Prop:=SG P (cA c5 524285) none [3,12,11,1] [0] (f5_k22 K) (Env.mk 168 [(139,(VB a)),(3,(VP (some b))),(12,(VP (some c))),(11,(VP (some d))),(1,(VP (some f)))] []) w
def f5_s9 (a b c d:Addr) (w:World) (K:KT):Prop:=SG P (cA c5 262143) none [0] [0] (f5_kb K) (Env.mk 168 [(3,(VP (some a))),(12,(VP (some b))),(11,(VP (some c))),(1,(VP (some d)))] []) w
def f5_s10 (a:Bool) (w:World) (K:KT):Prop:=SG P (cA c5 4194303) none [0] [0] (f5_kb K) (Env.mk 168 [(0,(VB a))] []) w
theorem f5_s10_eq (a:Bool) (w:World) (K:KT):f5_s10 a w K=(K (Value.bool a) w):=by kernel_rfl
theorem f5_s9_eq (c d e f:Addr) (w:World) (K:KT):f5_s9 c d e f w K=(CallL P 30 [(Value.int .i64 3),(Value.int .i64 0),(Value.int .u32 4100),(Value.int .i64 4)] w (fun z a0=>∃ g:Array Value,z=(.agg g)∧CallL P 30 [(Value.int .i64 2),(Value.int .i64 1),(Value.int .u32 4100),(Value.int .i64 4)] a0 (fun b0 c0=>∃ h:Array Value,b0=(.agg h)∧NewC (zcells P 45) 45 c0 (fun i d0=>NewC (zcells P 45) 45 d0 (fun j e0=>StA 6 (Addr.mk i 0 none) g e0 (fun f0=>StA 6 (Addr.mk j 0 none) h f0 (fun a=>LdA 6 f a (fun k=>LdA 6 (Addr.mk i 0 none) a (fun l=>LdA 6 e a (fun m=>LdA 6 d a (fun n=>LdA 6 (Addr.mk j 0 none) a (fun o=>sizesAre 6 [(Value.agg k),(Value.agg l),(Value.agg m),(Value.agg n),(Value.agg o)]∧NewC (([(Value.agg k),(Value.agg l),(Value.agg m),(Value.agg n),(Value.agg o)].map fun (v:Value)=>v.cells.toList).flatten.toArray) 45 a (fun g0 h0=>CallL P 31 [(Value.slice (some (Addr.mk g0 0 none)) 5 5)] h0 (fun i0 p=>∃ (q:OA) (r s:Nat),∃ t:Bool,i0=(.tuple [(Value.slice q r s),(Value.bool t)].toArray)∧LdA 6 c p (fun u=>sizesAre 6 [(Value.agg u)]∧NewC (([(Value.agg u)].map fun (v:Value)=>v.cells.toList).flatten.toArray) 45 p (fun j0 l0=>CallL P 34 [(Value.slice (some (Addr.mk j0 0 none)) 1 1)] l0 (fun m0 b=>∃ (n0:OA) (o0 p0:Nat),∃ x:Int,m0=(.tuple [(Value.slice n0 o0 p0),(Value.int .i64 x)].toArray)∧BIf t (∃ y:Int,(∀ wq,Ext b wq→(Builtin.len_ #[84] 3 [(Value.slice q r s)].toArray).run P wq=.ok (.int .i64 y) wq)∧BIf ((y:Int) == 0) (f5_s10 ((x:Int) == 300) b K) (f5_s10 false b K)) (f5_s10 false b K)))))))))))))))))):=by kernel_rfl
theorem f5_s8_eq (a:Bool) (b c d e:Addr) (w:World) (K:KT):f5_s8 a b c d e w K=(BIf a (K (Value.bool false) w) (f5_s9 b c d e w K)):=by kernel_rfl
theorem f5_s7_eq (d a:Addr) (w:World) (K:KT):f5_s7 d a w K=(CallL P 30 [(Value.int .i64 4),(Value.int .i64 0),(Value.int .u32 4096),(Value.int .i64 4)] w (fun e0 f0=>∃ k:Array Value,e0=(.agg k)∧CallL P 30 [(Value.int .i64 4),(Value.int .i64 1),(Value.int .u32 4096),(Value.int .i64 4)] f0 (fun g0 h0=>∃ l:Array Value,g0=(.agg l)∧NewC (zcells P 45) 45 h0 (fun b i0=>NewC (zcells P 45) 45 i0 (fun e j0=>StA 6 (Addr.mk b 0 none) k j0 (fun l0=>StA 6 (Addr.mk e 0 none) l l0 (fun f=>LdA 6 a f (fun m=>LdA 6 (Addr.mk b 0 none) f (fun n=>LdA 6 (Addr.mk e 0 none) f (fun o=>sizesAre 6 [(Value.agg m),(Value.agg n),(Value.agg o)]∧NewC (([(Value.agg m),(Value.agg n),(Value.agg o)].map fun (v:Value)=>v.cells.toList).flatten.toArray) 45 f (fun m0 n0=>CallL P 31 [(Value.slice (some (Addr.mk m0 0 none)) 3 3)] n0 (fun o0 g=>∃ (p:OA) (q r:Nat),∃ s:Bool,o0=(.tuple [(Value.slice p q r),(Value.bool s)].toArray)∧LdA 6 a g (fun t=>LdA 6 (Addr.mk b 0 none) g (fun u=>LdA 6 d g (fun x=>sizesAre 6 [(Value.agg t),(Value.agg u),(Value.agg x)]∧NewC (([(Value.agg t),(Value.agg u),(Value.agg x)].map fun (v:Value)=>v.cells.toList).flatten.toArray) 45 g (fun p0 q0=>CallL P 31 [(Value.slice (some (Addr.mk p0 0 none)) 3 3)] q0 (fun r0 c=>∃ (h:OA) (i y:Nat),∃ z:Bool,r0=(.tuple [(Value.slice h i y),(Value.bool z)].toArray)∧BIf (!s) (f5_s8 true d (Addr.mk e 0 none) (Addr.mk b 0 none) a c K) (BIf (!z) (f5_s8 true d (Addr.mk e 0 none) (Addr.mk b 0 none) a c K) (∃ a0:Int,(∀ wq,Ext c wq→(Builtin.len_ #[84] 3 [(Value.slice p q r)].toArray).run P wq=.ok (.int .i64 a0) wq)∧BIf ((a0:Int) != 0) (f5_s8 true d (Addr.mk e 0 none) (Addr.mk b 0 none) a c K) (∃ b0:Int,(∀ wq,Ext c wq→(Builtin.len_ #[84] 3 [(Value.slice h i y)].toArray).run P wq=.ok (.int .i64 b0) wq)∧BIf ((b0:Int) != 4) (f5_s8 true d (Addr.mk e 0 none) (Addr.mk b 0 none) a c K) (optS h (fun s0=>0≤(0:Int)∧(0:Int) < (i:Nat)∧LdA 3 (s0.add (Int.toNat 0 * 3)) c (fun c0=>∃ j:Array Value,(∀ wq,(Instr.build 88 [(0,(Value.int .i64 4096)),(1,(Value.int .i64 1)),(2,(Value.int .i64 2))].toArray).run P wq=.ok (.agg j) wq)∧∃ d0:Bool,(∀ wq,(do eqGuard .neq 88 (.tmp 136) (.tmp 137) (Value.agg c0) (Value.agg j); binOp .neq 88 (Value.agg c0) (Value.agg j):Sem Value).run P wq=.ok (.bool d0) wq)∧f5_s8 d0 d (Addr.mk e 0 none) (Addr.mk b 0 none) a c K))))))))))))))))))))))):=by kernel_rfl
theorem f5_s6_eq (a:Bool) (b c:Addr) (w:World) (K:KT):f5_s6 a b c w K=(BIf a (K (Value.bool false) w) (f5_s7 b c w K)):=by kernel_rfl
theorem f5_s5_eq (b c:Addr) (d:OA) (e f:Nat) (w:World) (K:KT):f5_s5 b c d e f w K=(CallL P 31 [(Value.slice d e f)] w (fun t u=>∃ (i:OA) (j k:Nat),∃ l:Bool,t=(.tuple [(Value.slice i j k),(Value.bool l)].toArray)∧CallL P 33 [(Value.slice d e f)] u (fun v x=>∃ (g:OA) (h m:Nat),v=(.slice g h m)∧optS g (fun y=>0≤(4:Int)∧(4:Int) < (h:Nat)∧St1 ((y.add (Int.toNat 4 * 6)).add 3) (Value.int .u32 6) x (fun z=>CallL P 31 [(Value.slice g h m)] z (fun a0 a=>∃ (n:OA) (o p:Nat),∃ q:Bool,a0=(.tuple [(Value.slice n o p),(Value.bool q)].toArray)∧BIf (!l) (f5_s6 true b c a K) (BIf (!q) (f5_s6 true b c a K) (∃ r:Int,(∀ wq,Ext a wq→(Builtin.len_ #[84] 3 [(Value.slice i j k)].toArray).run P wq=.ok (.int .i64 r) wq)∧BIf ((r:Int) != 0) (f5_s6 true b c a K) (∃ s:Int,(∀ wq,Ext a wq→(Builtin.len_ #[84] 3 [(Value.slice n o p)].toArray).run P wq=.ok (.int .i64 s) wq)∧f5_s6 ((s:Int) != 4) b c a K))))))))):=by kernel_rfl
abbrev f5_e (k t a n:Int) (w:World) (F:Array Value→(World→Prop)):Prop:=CallL P 30 [(Value.int .i64 k),(Value.int .i64 t),(Value.int .u32 a),(Value.int .i64 n)] w (fun r v=>∃ c:Array Value,r=(.agg c)∧F c v)
abbrev f5_t4 (a b:Addr) (u1 u2 u3 u4 u5 u6:Array Value) (w:World) (K:KT):Prop:=sizesAre 6 [(Value.agg u1),(Value.agg u2),(Value.agg u3),(Value.agg u4),(Value.agg u5),(Value.agg u6)]∧NewC (([(Value.agg u1),(Value.agg u2),(Value.agg u3),(Value.agg u4),(Value.agg u5),(Value.agg u6)].map fun (v:Value)=>v.cells.toList).flatten.toArray) 45 w (fun n v=>f5_s5 a b (some (Addr.mk n 0 none)) 6 6 v K)
theorem f5_s4_eq (a b c:Addr) (w:World) (K:KT):f5_s4 a b c w K=((LdA 6 b w.drew (fun g=>(f5_e 14 0 5 0 w.drew (fun k q=>(LdA 6 c q (fun r0=>(f5_e 15 0 5 0 q (fun u1 s0=>(f5_e 14 1 5 0 s0 (fun V2 v1=>LdA 6 a v1 (fun W2=>f5_t4 a b g k r0 u1 V2 W2 v1 K)))∧(LdA 6 a s0 (fun X2=>f5_e 14 1 5 0 s0 (fun Y2 Z2=>f5_t4 a b g k r0 u1 Y2 X2 Z2 K)))))∧(LdA 6 a q (fun a3=>f5_e 15 0 5 0 q (fun b3 c3=>f5_e 14 1 5 0 c3 (fun d3 e3=>f5_t4 a b g k r0 b3 d3 a3 e3 K))))))∧(f5_e 15 0 5 0 q (fun a0 r=>(LdA 6 c r (fun x1=>(f5_e 14 1 5 0 r (fun f3 y1=>LdA 6 a y1 (fun g3=>f5_t4 a b g k x1 a0 f3 g3 y1 K)))∧(LdA 6 a r (fun h3=>f5_e 14 1 5 0 r (fun i3 j3=>f5_t4 a b g k x1 a0 i3 h3 j3 K)))))∧(f5_e 14 1 5 0 r (fun l3 t0=>LdA 6 c t0 (fun m3=>LdA 6 a t0 (fun n3=>f5_t4 a b g k m3 a0 l3 n3 t0 K))))∧(LdA 6 a r (fun z1=>(LdA 6 c r (fun o3=>f5_e 14 1 5 0 r (fun p3 q3=>f5_t4 a b g k o3 a0 p3 z1 q3 K)))∧(f5_e 14 1 5 0 r (fun r3 A1=>LdA 6 c A1 (fun s3=>f5_t4 a b g k s3 a0 r3 z1 A1 K)))))))∧(LdA 6 a q (fun u0=>(LdA 6 c q (fun t3=>f5_e 15 0 5 0 q (fun u3 v3=>f5_e 14 1 5 0 v3 (fun x3 y3=>f5_t4 a b g k t3 u3 x3 u0 y3 K))))∧(f5_e 15 0 5 0 q (fun B1 v0=>(LdA 6 c v0 (fun z3=>f5_e 14 1 5 0 v0 (fun A3 B3=>f5_t4 a b g k z3 B1 A3 u0 B3 K)))∧(f5_e 14 1 5 0 v0 (fun C3 C1=>LdA 6 c C1 (fun D3=>f5_t4 a b g k D3 B1 C3 u0 C1 K)))))))))∧(LdA 6 c w.drew (fun j0=>(f5_e 14 0 5 0 w.drew (fun x0 y0=>(f5_e 15 0 5 0 y0 (fun D1 z0=>(f5_e 14 1 5 0 z0 (fun E3 E1=>LdA 6 a E1 (fun F3=>f5_t4 a b g x0 j0 D1 E3 F3 E1 K)))∧(LdA 6 a z0 (fun G3=>f5_e 14 1 5 0 z0 (fun H3 I3=>f5_t4 a b g x0 j0 D1 H3 G3 I3 K)))))∧(LdA 6 a y0 (fun J3=>f5_e 15 0 5 0 y0 (fun L3 M3=>f5_e 14 1 5 0 M3 (fun N3 O3=>f5_t4 a b g x0 j0 L3 N3 J3 O3 K))))))∧(LdA 6 a w.drew (fun Q3=>f5_e 14 0 5 0 w.drew (fun R3 S3=>f5_e 15 0 5 0 S3 (fun T3 U3=>f5_e 14 1 5 0 U3 (fun V3 W3=>f5_t4 a b g R3 j0 T3 V3 Q3 W3 K)))))))∧(LdA 6 a w.drew (fun l0=>(f5_e 14 0 5 0 w.drew (fun A0 B0=>(LdA 6 c B0 (fun X3=>f5_e 15 0 5 0 B0 (fun Y3 Z3=>f5_e 14 1 5 0 Z3 (fun a4 b4=>f5_t4 a b g A0 X3 Y3 a4 l0 b4 K))))∧(f5_e 15 0 5 0 B0 (fun F1 C0=>(LdA 6 c C0 (fun c4=>f5_e 14 1 5 0 C0 (fun d4 e4=>f5_t4 a b g A0 c4 F1 d4 l0 e4 K)))∧(f5_e 14 1 5 0 C0 (fun f4 G1=>LdA 6 c G1 (fun g4=>f5_t4 a b g A0 g4 F1 f4 l0 G1 K)))))))∧(LdA 6 c w.drew (fun h4=>f5_e 14 0 5 0 w.drew (fun i4 j4=>f5_e 15 0 5 0 j4 (fun l4 m4=>f5_e 14 1 5 0 m4 (fun n4 o4=>f5_t4 a b g i4 h4 l4 n4 l0 o4 K)))))))))∧(f5_e 14 0 5 0 w.drew (fun d e=>(LdA 6 b e (fun l=>(LdA 6 c e (fun D0=>(f5_e 15 0 5 0 e (fun H1 E0=>(f5_e 14 1 5 0 E0 (fun p4 I1=>LdA 6 a I1 (fun q4=>f5_t4 a b l d D0 H1 p4 q4 I1 K)))∧(LdA 6 a E0 (fun r4=>f5_e 14 1 5 0 E0 (fun s4 t4=>f5_t4 a b l d D0 H1 s4 r4 t4 K)))))∧(LdA 6 a e (fun u4=>f5_e 15 0 5 0 e (fun v4 x4=>f5_e 14 1 5 0 x4 (fun y4 z4=>f5_t4 a b l d D0 v4 y4 u4 z4 K))))))∧(f5_e 15 0 5 0 e (fun b0 s=>(LdA 6 c s (fun J1=>(f5_e 14 1 5 0 s (fun A4 L1=>LdA 6 a L1 (fun B4=>f5_t4 a b l d J1 b0 A4 B4 L1 K)))∧(LdA 6 a s (fun C4=>f5_e 14 1 5 0 s (fun D4 E4=>f5_t4 a b l d J1 b0 D4 C4 E4 K)))))∧(f5_e 14 1 5 0 s (fun F4 F0=>LdA 6 c F0 (fun G4=>LdA 6 a F0 (fun H4=>f5_t4 a b l d G4 b0 F4 H4 F0 K))))∧(LdA 6 a s (fun M1=>(LdA 6 c s (fun I4=>f5_e 14 1 5 0 s (fun J4 L4=>f5_t4 a b l d I4 b0 J4 M1 L4 K)))∧(f5_e 14 1 5 0 s (fun M4 N1=>LdA 6 c N1 (fun N4=>f5_t4 a b l d N4 b0 M4 M1 N1 K)))))))∧(LdA 6 a e (fun G0=>(LdA 6 c e (fun O4=>f5_e 15 0 5 0 e (fun Q4 R4=>f5_e 14 1 5 0 R4 (fun S4 T4=>f5_t4 a b l d O4 Q4 S4 G0 T4 K))))∧(f5_e 15 0 5 0 e (fun O1 H0=>(LdA 6 c H0 (fun U4=>f5_e 14 1 5 0 H0 (fun V4 W4=>f5_t4 a b l d U4 O1 V4 G0 W4 K)))∧(f5_e 14 1 5 0 H0 (fun X4 Q1=>LdA 6 c Q1 (fun Y4=>f5_t4 a b l d Y4 O1 X4 G0 Q1 K)))))))))∧(LdA 6 c e (fun m=>(LdA 6 b e (fun I0=>(f5_e 15 0 5 0 e (fun R1 J0=>(f5_e 14 1 5 0 J0 (fun Z4 S1=>LdA 6 a S1 (fun a5=>f5_t4 a b I0 d m R1 Z4 a5 S1 K)))∧(LdA 6 a J0 (fun b5=>f5_e 14 1 5 0 J0 (fun c5 d5=>f5_t4 a b I0 d m R1 c5 b5 d5 K)))))∧(LdA 6 a e (fun e5=>f5_e 15 0 5 0 e (fun f5 g5=>f5_e 14 1 5 0 g5 (fun h5 i5=>f5_t4 a b I0 d m f5 h5 e5 i5 K))))))∧(f5_e 15 0 5 0 e (fun c0 t=>(LdA 6 b t (fun T1=>(f5_e 14 1 5 0 t (fun j5 U1=>LdA 6 a U1 (fun l5=>f5_t4 a b T1 d m c0 j5 l5 U1 K)))∧(LdA 6 a t (fun m5=>f5_e 14 1 5 0 t (fun n5 o5=>f5_t4 a b T1 d m c0 n5 m5 o5 K)))))∧(f5_e 14 1 5 0 t (fun p5 L0=>LdA 6 b L0 (fun q5=>LdA 6 a L0 (fun r5=>f5_t4 a b q5 d m c0 p5 r5 L0 K))))∧(LdA 6 a t (fun V1=>(LdA 6 b t (fun s5=>f5_e 14 1 5 0 t (fun t5 u5=>f5_t4 a b s5 d m c0 t5 V1 u5 K)))∧(f5_e 14 1 5 0 t (fun v5 W1=>LdA 6 b W1 (fun x5=>f5_t4 a b x5 d m c0 v5 V1 W1 K)))))))∧(LdA 6 a e (fun M0=>(LdA 6 b e (fun y5=>f5_e 15 0 5 0 e (fun z5 A5=>f5_e 14 1 5 0 A5 (fun B5 C5=>f5_t4 a b y5 d m z5 B5 M0 C5 K))))∧(f5_e 15 0 5 0 e (fun X1 N0=>(LdA 6 b N0 (fun D5=>f5_e 14 1 5 0 N0 (fun E5 F5=>f5_t4 a b D5 d m X1 E5 M0 F5 K)))∧(f5_e 14 1 5 0 N0 (fun G5 Y1=>LdA 6 b Y1 (fun H5=>f5_t4 a b H5 d m X1 G5 M0 Y1 K)))))))))∧(f5_e 15 0 5 0 e (fun j f=>(LdA 6 b f (fun d0=>(LdA 6 c f (fun Z1=>(f5_e 14 1 5 0 f (fun I5 a2=>LdA 6 a a2 (fun J5=>f5_t4 a b d0 d Z1 j I5 J5 a2 K)))∧(LdA 6 a f (fun L5=>f5_e 14 1 5 0 f (fun M5 N5=>f5_t4 a b d0 d Z1 j M5 L5 N5 K)))))∧(f5_e 14 1 5 0 f (fun O5 O0=>LdA 6 c O0 (fun Q5=>LdA 6 a O0 (fun R5=>f5_t4 a b d0 d Q5 j O5 R5 O0 K))))∧(LdA 6 a f (fun b2=>(LdA 6 c f (fun S5=>f5_e 14 1 5 0 f (fun T5 U5=>f5_t4 a b d0 d S5 j T5 b2 U5 K)))∧(f5_e 14 1 5 0 f (fun V5 c2=>LdA 6 c c2 (fun W5=>f5_t4 a b d0 d W5 j V5 b2 c2 K)))))))∧(LdA 6 c f (fun e0=>(LdA 6 b f (fun d2=>(f5_e 14 1 5 0 f (fun X5 e2=>LdA 6 a e2 (fun Y5=>f5_t4 a b d2 d e0 j X5 Y5 e2 K)))∧(LdA 6 a f (fun Z5=>f5_e 14 1 5 0 f (fun a6 b6=>f5_t4 a b d2 d e0 j a6 Z5 b6 K)))))∧(f5_e 14 1 5 0 f (fun c6 Q0=>LdA 6 b Q0 (fun d6=>LdA 6 a Q0 (fun e6=>f5_t4 a b d6 d e0 j c6 e6 Q0 K))))∧(LdA 6 a f (fun f2=>(LdA 6 b f (fun f6=>f5_e 14 1 5 0 f (fun g6 h6=>f5_t4 a b f6 d e0 j g6 f2 h6 K)))∧(f5_e 14 1 5 0 f (fun i6 g2=>LdA 6 b g2 (fun j6=>f5_t4 a b j6 d e0 j i6 f2 g2 K)))))))∧(f5_e 14 1 5 0 f (fun l6 m0=>LdA 6 b m0 (fun m6=>LdA 6 c m0 (fun n6=>LdA 6 a m0 (fun o6=>f5_t4 a b m6 d n6 j l6 o6 m0 K)))))∧(LdA 6 a f (fun f0=>(LdA 6 b f (fun h2=>(LdA 6 c f (fun p6=>f5_e 14 1 5 0 f (fun q6 r6=>f5_t4 a b h2 d p6 j q6 f0 r6 K)))∧(f5_e 14 1 5 0 f (fun s6 i2=>LdA 6 c i2 (fun t6=>f5_t4 a b h2 d t6 j s6 f0 i2 K)))))∧(LdA 6 c f (fun j2=>(LdA 6 b f (fun u6=>f5_e 14 1 5 0 f (fun v6 x6=>f5_t4 a b u6 d j2 j v6 f0 x6 K)))∧(f5_e 14 1 5 0 f (fun y6 l2=>LdA 6 b l2 (fun z6=>f5_t4 a b z6 d j2 j y6 f0 l2 K)))))∧(f5_e 14 1 5 0 f (fun A6 R0=>LdA 6 b R0 (fun B6=>LdA 6 c R0 (fun C6=>f5_t4 a b B6 d C6 j A6 f0 R0 K))))))))∧(LdA 6 a e (fun n=>(LdA 6 b e (fun S0=>(LdA 6 c e (fun D6=>f5_e 15 0 5 0 e (fun E6 F6=>f5_e 14 1 5 0 F6 (fun G6 H6=>f5_t4 a b S0 d D6 E6 G6 n H6 K))))∧(f5_e 15 0 5 0 e (fun m2 T0=>(LdA 6 c T0 (fun I6=>f5_e 14 1 5 0 T0 (fun J6 L6=>f5_t4 a b S0 d I6 m2 J6 n L6 K)))∧(f5_e 14 1 5 0 T0 (fun M6 n2=>LdA 6 c n2 (fun N6=>f5_t4 a b S0 d N6 m2 M6 n n2 K)))))))∧(LdA 6 c e (fun U0=>(LdA 6 b e (fun O6=>f5_e 15 0 5 0 e (fun Q6 R6=>f5_e 14 1 5 0 R6 (fun S6 T6=>f5_t4 a b O6 d U0 Q6 S6 n T6 K))))∧(f5_e 15 0 5 0 e (fun o2 V0=>(LdA 6 b V0 (fun U6=>f5_e 14 1 5 0 V0 (fun V6 W6=>f5_t4 a b U6 d U0 o2 V6 n W6 K)))∧(f5_e 14 1 5 0 V0 (fun X6 p2=>LdA 6 b p2 (fun Y6=>f5_t4 a b Y6 d U0 o2 X6 n p2 K)))))))∧(f5_e 15 0 5 0 e (fun g0 u=>(LdA 6 b u (fun q2=>(LdA 6 c u (fun Z6=>f5_e 14 1 5 0 u (fun a7 b7=>f5_t4 a b q2 d Z6 g0 a7 n b7 K)))∧(f5_e 14 1 5 0 u (fun c7 r2=>LdA 6 c r2 (fun d7=>f5_t4 a b q2 d d7 g0 c7 n r2 K)))))∧(LdA 6 c u (fun s2=>(LdA 6 b u (fun e7=>f5_e 14 1 5 0 u (fun f7 g7=>f5_t4 a b e7 d s2 g0 f7 n g7 K)))∧(f5_e 14 1 5 0 u (fun h7 t2=>LdA 6 b t2 (fun i7=>f5_t4 a b i7 d s2 g0 h7 n t2 K)))))∧(f5_e 14 1 5 0 u (fun j7 W0=>LdA 6 b W0 (fun l7=>LdA 6 c W0 (fun m7=>f5_t4 a b l7 d m7 g0 j7 n W0 K))))))))))∧(LdA 6 c w.drew (fun h=>(LdA 6 b w.drew (fun n0=>(f5_e 14 0 5 0 w.drew (fun X0 Y0=>(f5_e 15 0 5 0 Y0 (fun u2 Z0=>(f5_e 14 1 5 0 Z0 (fun n7 v2=>LdA 6 a v2 (fun o7=>f5_t4 a b n0 X0 h u2 n7 o7 v2 K)))∧(LdA 6 a Z0 (fun p7=>f5_e 14 1 5 0 Z0 (fun q7 r7=>f5_t4 a b n0 X0 h u2 q7 p7 r7 K)))))∧(LdA 6 a Y0 (fun s7=>f5_e 15 0 5 0 Y0 (fun t7 u7=>f5_e 14 1 5 0 u7 (fun v7 x7=>f5_t4 a b n0 X0 h t7 v7 s7 x7 K))))))∧(LdA 6 a w.drew (fun y7=>f5_e 14 0 5 0 w.drew (fun z7 A7=>f5_e 15 0 5 0 A7 (fun B7 C7=>f5_e 14 1 5 0 C7 (fun D7 E7=>f5_t4 a b n0 z7 h B7 D7 y7 E7 K)))))))∧(f5_e 14 0 5 0 w.drew (fun o v=>(LdA 6 b v (fun a1=>(f5_e 15 0 5 0 v (fun x2 b1=>(f5_e 14 1 5 0 b1 (fun F7 y2=>LdA 6 a y2 (fun G7=>f5_t4 a b a1 o h x2 F7 G7 y2 K)))∧(LdA 6 a b1 (fun H7=>f5_e 14 1 5 0 b1 (fun I7 J7=>f5_t4 a b a1 o h x2 I7 H7 J7 K)))))∧(LdA 6 a v (fun L7=>f5_e 15 0 5 0 v (fun M7 N7=>f5_e 14 1 5 0 N7 (fun O7 Q7=>f5_t4 a b a1 o h M7 O7 L7 Q7 K))))))∧(f5_e 15 0 5 0 v (fun h0 x=>(LdA 6 b x (fun z2=>(f5_e 14 1 5 0 x (fun R7 A2=>LdA 6 a A2 (fun S7=>f5_t4 a b z2 o h h0 R7 S7 A2 K)))∧(LdA 6 a x (fun T7=>f5_e 14 1 5 0 x (fun U7 V7=>f5_t4 a b z2 o h h0 U7 T7 V7 K)))))∧(f5_e 14 1 5 0 x (fun W7 c1=>LdA 6 b c1 (fun X7=>LdA 6 a c1 (fun Y7=>f5_t4 a b X7 o h h0 W7 Y7 c1 K))))∧(LdA 6 a x (fun B2=>(LdA 6 b x (fun Z7=>f5_e 14 1 5 0 x (fun a8 b8=>f5_t4 a b Z7 o h h0 a8 B2 b8 K)))∧(f5_e 14 1 5 0 x (fun c8 C2=>LdA 6 b C2 (fun d8=>f5_t4 a b d8 o h h0 c8 B2 C2 K)))))))∧(LdA 6 a v (fun d1=>(LdA 6 b v (fun e8=>f5_e 15 0 5 0 v (fun f8 g8=>f5_e 14 1 5 0 g8 (fun h8 i8=>f5_t4 a b e8 o h f8 h8 d1 i8 K))))∧(f5_e 15 0 5 0 v (fun D2 e1=>(LdA 6 b e1 (fun j8=>f5_e 14 1 5 0 e1 (fun l8 m8=>f5_t4 a b j8 o h D2 l8 d1 m8 K)))∧(f5_e 14 1 5 0 e1 (fun n8 E2=>LdA 6 b E2 (fun o8=>f5_t4 a b o8 o h D2 n8 d1 E2 K)))))))))∧(LdA 6 a w.drew (fun o0=>(LdA 6 b w.drew (fun p8=>f5_e 14 0 5 0 w.drew (fun q8 r8=>f5_e 15 0 5 0 r8 (fun s8 t8=>f5_e 14 1 5 0 t8 (fun u8 v8=>f5_t4 a b p8 q8 h s8 u8 o0 v8 K)))))∧(f5_e 14 0 5 0 w.drew (fun f1 g1=>(LdA 6 b g1 (fun x8=>f5_e 15 0 5 0 g1 (fun y8 z8=>f5_e 14 1 5 0 z8 (fun A8 B8=>f5_t4 a b x8 f1 h y8 A8 o0 B8 K))))∧(f5_e 15 0 5 0 g1 (fun F2 h1=>(LdA 6 b h1 (fun C8=>f5_e 14 1 5 0 h1 (fun D8 E8=>f5_t4 a b C8 f1 h F2 D8 o0 E8 K)))∧(f5_e 14 1 5 0 h1 (fun F8 G2=>LdA 6 b G2 (fun G8=>f5_t4 a b G8 f1 h F2 F8 o0 G2 K)))))))))))∧(LdA 6 a w.drew (fun i=>(LdA 6 b w.drew (fun p0=>(f5_e 14 0 5 0 w.drew (fun i1 j1=>(LdA 6 c j1 (fun H8=>f5_e 15 0 5 0 j1 (fun I8 J8=>f5_e 14 1 5 0 J8 (fun L8 M8=>f5_t4 a b p0 i1 H8 I8 L8 i M8 K))))∧(f5_e 15 0 5 0 j1 (fun H2 l1=>(LdA 6 c l1 (fun N8=>f5_e 14 1 5 0 l1 (fun O8 Q8=>f5_t4 a b p0 i1 N8 H2 O8 i Q8 K)))∧(f5_e 14 1 5 0 l1 (fun R8 I2=>LdA 6 c I2 (fun S8=>f5_t4 a b p0 i1 S8 H2 R8 i I2 K)))))))∧(LdA 6 c w.drew (fun T8=>f5_e 14 0 5 0 w.drew (fun U8 V8=>f5_e 15 0 5 0 V8 (fun W8 X8=>f5_e 14 1 5 0 X8 (fun Y8 Z8=>f5_t4 a b p0 U8 T8 W8 Y8 i Z8 K)))))))∧(f5_e 14 0 5 0 w.drew (fun p y=>(LdA 6 b y (fun m1=>(LdA 6 c y (fun a9=>f5_e 15 0 5 0 y (fun b9 c9=>f5_e 14 1 5 0 c9 (fun d9 e9=>f5_t4 a b m1 p a9 b9 d9 i e9 K))))∧(f5_e 15 0 5 0 y (fun J2 n1=>(LdA 6 c n1 (fun f9=>f5_e 14 1 5 0 n1 (fun g9 h9=>f5_t4 a b m1 p f9 J2 g9 i h9 K)))∧(f5_e 14 1 5 0 n1 (fun i9 L2=>LdA 6 c L2 (fun j9=>f5_t4 a b m1 p j9 J2 i9 i L2 K)))))))∧(LdA 6 c y (fun o1=>(LdA 6 b y (fun l9=>f5_e 15 0 5 0 y (fun m9 n9=>f5_e 14 1 5 0 n9 (fun o9 p9=>f5_t4 a b l9 p o1 m9 o9 i p9 K))))∧(f5_e 15 0 5 0 y (fun M2 p1=>(LdA 6 b p1 (fun q9=>f5_e 14 1 5 0 p1 (fun r9 s9=>f5_t4 a b q9 p o1 M2 r9 i s9 K)))∧(f5_e 14 1 5 0 p1 (fun t9 N2=>LdA 6 b N2 (fun u9=>f5_t4 a b u9 p o1 M2 t9 i N2 K)))))))∧(f5_e 15 0 5 0 y (fun i0 z=>(LdA 6 b z (fun O2=>(LdA 6 c z (fun v9=>f5_e 14 1 5 0 z (fun x9 y9=>f5_t4 a b O2 p v9 i0 x9 i y9 K)))∧(f5_e 14 1 5 0 z (fun z9 Q2=>LdA 6 c Q2 (fun A9=>f5_t4 a b O2 p A9 i0 z9 i Q2 K)))))∧(LdA 6 c z (fun R2=>(LdA 6 b z (fun B9=>f5_e 14 1 5 0 z (fun C9 D9=>f5_t4 a b B9 p R2 i0 C9 i D9 K)))∧(f5_e 14 1 5 0 z (fun E9 S2=>LdA 6 b S2 (fun F9=>f5_t4 a b F9 p R2 i0 E9 i S2 K)))))∧(f5_e 14 1 5 0 z (fun G9 q1=>LdA 6 b q1 (fun H9=>LdA 6 c q1 (fun I9=>f5_t4 a b H9 p I9 i0 G9 i q1 K))))))))∧(LdA 6 c w.drew (fun q0=>(LdA 6 b w.drew (fun J9=>f5_e 14 0 5 0 w.drew (fun L9 M9=>f5_e 15 0 5 0 M9 (fun N9 O9=>f5_e 14 1 5 0 O9 (fun Q9 R9=>f5_t4 a b J9 L9 q0 N9 Q9 i R9 K)))))∧(f5_e 14 0 5 0 w.drew (fun r1 s1=>(LdA 6 b s1 (fun S9=>f5_e 15 0 5 0 s1 (fun T9 U9=>f5_e 14 1 5 0 U9 (fun V9 W9=>f5_t4 a b S9 r1 q0 T9 V9 i W9 K))))∧(f5_e 15 0 5 0 s1 (fun T2 t1=>(LdA 6 b t1 (fun X9=>f5_e 14 1 5 0 t1 (fun Y9 Z9=>f5_t4 a b X9 r1 q0 T2 Y9 i Z9 K)))∧(f5_e 14 1 5 0 t1 (fun a00 U2=>LdA 6 b U2 (fun b00=>f5_t4 a b b00 r1 q0 T2 a00 i U2 K)))))))))))):=by kernel_rfl
theorem f5_s3_eq (a:Bool) (b c d:Addr) (w:World) (K:KT):f5_s3 a b c d w K=(BIf a (K (Value.bool false) w) (f5_s4 b c d w K)):=by kernel_rfl
theorem f5_s2_eq (a b c:Addr) (d:OA) (e f:Nat) (g:Bool) (w:World) (K:KT):f5_s2 a b c d e f g w K=(BIf (!g) (f5_s3 true a b c w K) (∃ h:Int,(∀ wq,Ext w wq→(Builtin.len_ #[84] 3 [(Value.slice d e f)].toArray).run P wq=.ok (.int .i64 h) wq)∧f5_s3 ((h:Int) != 0) a b c w K)):=by kernel_rfl
theorem f5_s0_eq (a:Bool) (b c d:Addr) (w:World) (K:KT):f5_s0 a b c d w K=(BIf a (K (Value.bool false) w) (f5_s1 b c d w K)):=by kernel_rfl
theorem f5_eq (w:World) (K:KT):f5 w K=(CallL P 30 [(Value.int .i64 11),(Value.int .i64 0),(Value.int .u32 0),(Value.int .i64 1)] w (fun u x=>∃ i:Array Value,u=(.agg i)∧NewC (zcells P 45) 45 x (fun a y=>StA 6 (Addr.mk a 0 none) i y (fun z=>CallL P 30 [(Value.int .i64 3),(Value.int .i64 0),(Value.int .u32 4096),(Value.int .i64 4)] z (fun a0 b0=>∃ j:Array Value,a0=(.agg j)∧CallL P 30 [(Value.int .i64 2),(Value.int .i64 1),(Value.int .u32 4096),(Value.int .i64 4)] b0 (fun c0 d0=>∃ k:Array Value,c0=(.agg k)∧NewC (zcells P 45) 45 d0 (fun b e0=>NewC (zcells P 45) 45 e0 (fun c f0=>StA 6 (Addr.mk b 0 none) j f0 (fun g0=>StA 6 (Addr.mk c 0 none) k g0 (fun d=>LdA 6 (Addr.mk a 0 none) d (fun l=>LdA 6 (Addr.mk b 0 none) d (fun m=>LdA 6 (Addr.mk c 0 none) d (fun n=>sizesAre 6 [(Value.agg l),(Value.agg m),(Value.agg n)]∧NewC (([(Value.agg l),(Value.agg m),(Value.agg n)].map fun (v:Value)=>v.cells.toList).flatten.toArray) 45 d (fun h0 i0=>CallL P 31 [(Value.slice (some (Addr.mk h0 0 none)) 3 3)] i0 (fun j0 o=>∃ (p:OA) (q r:Nat),∃ s:Bool,j0=(.tuple [(Value.slice p q r),(Value.bool s)].toArray)∧BIf (!s) (f5_s0 true (Addr.mk c 0 none) (Addr.mk a 0 none) (Addr.mk b 0 none) o K) (∃ e:Array Value,(∀ wq,(Instr.build 88 [(0,(Value.int .i64 4096)),(1,(Value.int .i64 1)),(2,(Value.int .i64 2))].toArray).run P wq=.ok (.agg e) wq)∧∃ f:Array Value,(∀ wq,(Instr.build 88 [(0,(Value.int .i64 4097)),(1,(Value.int .i64 1)),(2,(Value.int .i64 2))].toArray).run P wq=.ok (.agg f) wq)∧∃ g:Array Value,(∀ wq,(Instr.build 88 [(0,(Value.int .i64 4098)),(1,(Value.int .i64 1)),(2,(Value.int .i64 2))].toArray).run P wq=.ok (.agg g) wq)∧∃ h:Array Value,(∀ wq,(Instr.build 88 [(0,(Value.int .i64 4099)),(1,(Value.int .i64 1)),(2,(Value.int .i64 2))].toArray).run P wq=.ok (.agg h) wq)∧sizesAre 3 [(Value.agg e),(Value.agg f),(Value.agg g),(Value.agg h)]∧NewC (([(Value.agg e),(Value.agg f),(Value.agg g),(Value.agg h)].map fun (v:Value)=>v.cells.toList).flatten.toArray) 88 o (fun l0 m0=>CallL P 32 [(Value.slice p q r),(Value.slice (some (Addr.mk l0 0 none)) 4 4)] m0 (fun n0 o0=>∃ t:Bool,n0=(.bool t)∧f5_s0 (!t) (Addr.mk c 0 none) (Addr.mk a 0 none) (Addr.mk b 0 none) o0 K)))))))))))))))))):=by kernel_rfl
theorem f5_ok (w:World) (K:KT) (h:f5 w K):CallL P 5 [] w K:=okCS c5 Tryz.func5 (by kernel_rfl) (by kernel_rfl) h
abbrev f5_t1 (a b c:Addr) (u1 u2 u3 u4 u5 u6:Array Value) (w:World) (K:KT):Prop:=sizesAre 6 [(Value.agg u1),(Value.agg u2),(Value.agg u3),(Value.agg u4),(Value.agg u5),(Value.agg u6)]∧NewC (([(Value.agg u1),(Value.agg u2),(Value.agg u3),(Value.agg u4),(Value.agg u5),(Value.agg u6)].map fun (v:Value)=>v.cells.toList).flatten.toArray) 45 w (fun n v=>CallL P 31 [(Value.slice (some (Addr.mk n 0 none)) 6 6)] v (fun r y=>∃ (d:OA) (e f:Nat),∃ g:Bool,r=(.tuple [(Value.slice d e f),(Value.bool g)].toArray)∧f5_s2 a b c d e f g y K))
theorem f5_s1_eq (b c a:Addr) (w:World) (K:KT):f5_s1 b c a w K=((LdA 6 a w.drew (fun f=>(LdA 6 c w.drew (fun v=>(LdA 6 b w.drew (fun s1=>(f5_e 12 1 0 0 w.drew (fun f3 t1=>(f5_e 13 0 0 1 t1 (fun f7 g3=>LdA 6 a g3 (fun g7=>f5_t1 b c a f v s1 f3 f7 g7 g3 K)))∧(LdA 6 a t1 (fun h7=>f5_e 13 0 0 1 t1 (fun i7 j7=>f5_t1 b c a f v s1 f3 i7 h7 j7 K)))))∧(LdA 6 a w.drew (fun l7=>f5_e 12 1 0 0 w.drew (fun m7 n7=>f5_e 13 0 0 1 n7 (fun o7 p7=>f5_t1 b c a f v s1 m7 o7 l7 p7 K))))))∧(f5_e 12 1 0 0 w.drew (fun v0 i0=>(LdA 6 b i0 (fun h3=>(f5_e 13 0 0 1 i0 (fun q7 i3=>LdA 6 a i3 (fun r7=>f5_t1 b c a f v h3 v0 q7 r7 i3 K)))∧(LdA 6 a i0 (fun s7=>f5_e 13 0 0 1 i0 (fun t7 u7=>f5_t1 b c a f v h3 v0 t7 s7 u7 K)))))∧(f5_e 13 0 0 1 i0 (fun v7 u1=>LdA 6 b u1 (fun x7=>LdA 6 a u1 (fun y7=>f5_t1 b c a f v x7 v0 v7 y7 u1 K))))∧(LdA 6 a i0 (fun j3=>(LdA 6 b i0 (fun z7=>f5_e 13 0 0 1 i0 (fun A7 B7=>f5_t1 b c a f v z7 v0 A7 j3 B7 K)))∧(f5_e 13 0 0 1 i0 (fun C7 l3=>LdA 6 b l3 (fun D7=>f5_t1 b c a f v D7 v0 C7 j3 l3 K)))))))∧(LdA 6 a w.drew (fun v1=>(LdA 6 b w.drew (fun E7=>f5_e 12 1 0 0 w.drew (fun F7 G7=>f5_e 13 0 0 1 G7 (fun H7 I7=>f5_t1 b c a f v E7 F7 H7 v1 I7 K))))∧(f5_e 12 1 0 0 w.drew (fun m3 x1=>(LdA 6 b x1 (fun J7=>f5_e 13 0 0 1 x1 (fun L7 M7=>f5_t1 b c a f v J7 m3 L7 v1 M7 K)))∧(f5_e 13 0 0 1 x1 (fun N7 n3=>LdA 6 b n3 (fun O7=>f5_t1 b c a f v O7 m3 N7 v1 n3 K)))))))))∧(LdA 6 b w.drew (fun x=>(LdA 6 c w.drew (fun y1=>(f5_e 12 1 0 0 w.drew (fun o3 z1=>(f5_e 13 0 0 1 z1 (fun Q7 p3=>LdA 6 a p3 (fun R7=>f5_t1 b c a f y1 x o3 Q7 R7 p3 K)))∧(LdA 6 a z1 (fun S7=>f5_e 13 0 0 1 z1 (fun T7 U7=>f5_t1 b c a f y1 x o3 T7 S7 U7 K)))))∧(LdA 6 a w.drew (fun V7=>f5_e 12 1 0 0 w.drew (fun W7 X7=>f5_e 13 0 0 1 X7 (fun Y7 Z7=>f5_t1 b c a f y1 x W7 Y7 V7 Z7 K))))))∧(f5_e 12 1 0 0 w.drew (fun x0 j0=>(LdA 6 c j0 (fun q3=>(f5_e 13 0 0 1 j0 (fun a8 r3=>LdA 6 a r3 (fun b8=>f5_t1 b c a f q3 x x0 a8 b8 r3 K)))∧(LdA 6 a j0 (fun c8=>f5_e 13 0 0 1 j0 (fun d8 e8=>f5_t1 b c a f q3 x x0 d8 c8 e8 K)))))∧(f5_e 13 0 0 1 j0 (fun f8 A1=>LdA 6 c A1 (fun g8=>LdA 6 a A1 (fun h8=>f5_t1 b c a f g8 x x0 f8 h8 A1 K))))∧(LdA 6 a j0 (fun s3=>(LdA 6 c j0 (fun i8=>f5_e 13 0 0 1 j0 (fun j8 l8=>f5_t1 b c a f i8 x x0 j8 s3 l8 K)))∧(f5_e 13 0 0 1 j0 (fun m8 t3=>LdA 6 c t3 (fun n8=>f5_t1 b c a f n8 x x0 m8 s3 t3 K)))))))∧(LdA 6 a w.drew (fun B1=>(LdA 6 c w.drew (fun o8=>f5_e 12 1 0 0 w.drew (fun p8 q8=>f5_e 13 0 0 1 q8 (fun r8 s8=>f5_t1 b c a f o8 x p8 r8 B1 s8 K))))∧(f5_e 12 1 0 0 w.drew (fun u3 C1=>(LdA 6 c C1 (fun t8=>f5_e 13 0 0 1 C1 (fun u8 v8=>f5_t1 b c a f t8 x u3 u8 B1 v8 K)))∧(f5_e 13 0 0 1 C1 (fun x8 v3=>LdA 6 c v3 (fun y8=>f5_t1 b c a f y8 x u3 x8 B1 v3 K)))))))))∧(f5_e 12 1 0 0 w.drew (fun n j=>(LdA 6 c j (fun y0=>(LdA 6 b j (fun x3=>(f5_e 13 0 0 1 j (fun z8 y3=>LdA 6 a y3 (fun A8=>f5_t1 b c a f y0 x3 n z8 A8 y3 K)))∧(LdA 6 a j (fun B8=>f5_e 13 0 0 1 j (fun C8 D8=>f5_t1 b c a f y0 x3 n C8 B8 D8 K)))))∧(f5_e 13 0 0 1 j (fun E8 D1=>LdA 6 b D1 (fun F8=>LdA 6 a D1 (fun G8=>f5_t1 b c a f y0 F8 n E8 G8 D1 K))))∧(LdA 6 a j (fun z3=>(LdA 6 b j (fun H8=>f5_e 13 0 0 1 j (fun I8 J8=>f5_t1 b c a f y0 H8 n I8 z3 J8 K)))∧(f5_e 13 0 0 1 j (fun L8 A3=>LdA 6 b A3 (fun M8=>f5_t1 b c a f y0 M8 n L8 z3 A3 K)))))))∧(LdA 6 b j (fun z0=>(LdA 6 c j (fun B3=>(f5_e 13 0 0 1 j (fun N8 C3=>LdA 6 a C3 (fun O8=>f5_t1 b c a f B3 z0 n N8 O8 C3 K)))∧(LdA 6 a j (fun Q8=>f5_e 13 0 0 1 j (fun R8 S8=>f5_t1 b c a f B3 z0 n R8 Q8 S8 K)))))∧(f5_e 13 0 0 1 j (fun T8 E1=>LdA 6 c E1 (fun U8=>LdA 6 a E1 (fun V8=>f5_t1 b c a f U8 z0 n T8 V8 E1 K))))∧(LdA 6 a j (fun D3=>(LdA 6 c j (fun W8=>f5_e 13 0 0 1 j (fun X8 Y8=>f5_t1 b c a f W8 z0 n X8 D3 Y8 K)))∧(f5_e 13 0 0 1 j (fun Z8 E3=>LdA 6 c E3 (fun a9=>f5_t1 b c a f a9 z0 n Z8 D3 E3 K)))))))∧(f5_e 13 0 0 1 j (fun b9 j1=>LdA 6 c j1 (fun c9=>LdA 6 b j1 (fun d9=>LdA 6 a j1 (fun e9=>f5_t1 b c a f c9 d9 n b9 e9 j1 K)))))∧(LdA 6 a j (fun A0=>(LdA 6 c j (fun F3=>(LdA 6 b j (fun f9=>f5_e 13 0 0 1 j (fun g9 h9=>f5_t1 b c a f F3 f9 n g9 A0 h9 K)))∧(f5_e 13 0 0 1 j (fun i9 G3=>LdA 6 b G3 (fun j9=>f5_t1 b c a f F3 j9 n i9 A0 G3 K)))))∧(LdA 6 b j (fun H3=>(LdA 6 c j (fun l9=>f5_e 13 0 0 1 j (fun m9 n9=>f5_t1 b c a f l9 H3 n m9 A0 n9 K)))∧(f5_e 13 0 0 1 j (fun o9 I3=>LdA 6 c I3 (fun p9=>f5_t1 b c a f p9 H3 n o9 A0 I3 K)))))∧(f5_e 13 0 0 1 j (fun q9 F1=>LdA 6 c F1 (fun r9=>LdA 6 b F1 (fun s9=>f5_t1 b c a f r9 s9 n q9 A0 F1 K))))))))∧(LdA 6 a w.drew (fun y=>(LdA 6 c w.drew (fun G1=>(LdA 6 b w.drew (fun t9=>f5_e 12 1 0 0 w.drew (fun u9 v9=>f5_e 13 0 0 1 v9 (fun x9 y9=>f5_t1 b c a f G1 t9 u9 x9 y y9 K))))∧(f5_e 12 1 0 0 w.drew (fun J3 H1=>(LdA 6 b H1 (fun z9=>f5_e 13 0 0 1 H1 (fun A9 B9=>f5_t1 b c a f G1 z9 J3 A9 y B9 K)))∧(f5_e 13 0 0 1 H1 (fun C9 L3=>LdA 6 b L3 (fun D9=>f5_t1 b c a f G1 D9 J3 C9 y L3 K)))))))∧(LdA 6 b w.drew (fun I1=>(LdA 6 c w.drew (fun E9=>f5_e 12 1 0 0 w.drew (fun F9 G9=>f5_e 13 0 0 1 G9 (fun H9 I9=>f5_t1 b c a f E9 I1 F9 H9 y I9 K))))∧(f5_e 12 1 0 0 w.drew (fun M3 J1=>(LdA 6 c J1 (fun J9=>f5_e 13 0 0 1 J1 (fun L9 M9=>f5_t1 b c a f J9 I1 M3 L9 y M9 K)))∧(f5_e 13 0 0 1 J1 (fun N9 N3=>LdA 6 c N3 (fun O9=>f5_t1 b c a f O9 I1 M3 N9 y N3 K)))))))∧(f5_e 12 1 0 0 w.drew (fun B0 l0=>(LdA 6 c l0 (fun O3=>(LdA 6 b l0 (fun Q9=>f5_e 13 0 0 1 l0 (fun R9 S9=>f5_t1 b c a f O3 Q9 B0 R9 y S9 K)))∧(f5_e 13 0 0 1 l0 (fun T9 Q3=>LdA 6 b Q3 (fun U9=>f5_t1 b c a f O3 U9 B0 T9 y Q3 K)))))∧(LdA 6 b l0 (fun R3=>(LdA 6 c l0 (fun V9=>f5_e 13 0 0 1 l0 (fun W9 X9=>f5_t1 b c a f V9 R3 B0 W9 y X9 K)))∧(f5_e 13 0 0 1 l0 (fun Y9 S3=>LdA 6 c S3 (fun Z9=>f5_t1 b c a f Z9 R3 B0 Y9 y S3 K)))))∧(f5_e 13 0 0 1 l0 (fun a00 L1=>LdA 6 c L1 (fun b00=>LdA 6 b L1 (fun c00=>f5_t1 b c a f b00 c00 B0 a00 y L1 K))))))))))∧(LdA 6 c w.drew (fun g=>(LdA 6 a w.drew (fun z=>(LdA 6 b w.drew (fun M1=>(f5_e 12 1 0 0 w.drew (fun T3 N1=>(f5_e 13 0 0 1 N1 (fun d00 U3=>LdA 6 a U3 (fun e00=>f5_t1 b c a z g M1 T3 d00 e00 U3 K)))∧(LdA 6 a N1 (fun f00=>f5_e 13 0 0 1 N1 (fun g00 h00=>f5_t1 b c a z g M1 T3 g00 f00 h00 K)))))∧(LdA 6 a w.drew (fun i00=>f5_e 12 1 0 0 w.drew (fun j00 l00=>f5_e 13 0 0 1 l00 (fun m00 n00=>f5_t1 b c a z g M1 j00 m00 i00 n00 K))))))∧(f5_e 12 1 0 0 w.drew (fun C0 m0=>(LdA 6 b m0 (fun V3=>(f5_e 13 0 0 1 m0 (fun o00 W3=>LdA 6 a W3 (fun p00=>f5_t1 b c a z g V3 C0 o00 p00 W3 K)))∧(LdA 6 a m0 (fun q00=>f5_e 13 0 0 1 m0 (fun r00 s00=>f5_t1 b c a z g V3 C0 r00 q00 s00 K)))))∧(f5_e 13 0 0 1 m0 (fun t00 O1=>LdA 6 b O1 (fun u00=>LdA 6 a O1 (fun v00=>f5_t1 b c a z g u00 C0 t00 v00 O1 K))))∧(LdA 6 a m0 (fun X3=>(LdA 6 b m0 (fun x00=>f5_e 13 0 0 1 m0 (fun y00 z00=>f5_t1 b c a z g x00 C0 y00 X3 z00 K)))∧(f5_e 13 0 0 1 m0 (fun A00 Y3=>LdA 6 b Y3 (fun B00=>f5_t1 b c a z g B00 C0 A00 X3 Y3 K)))))))∧(LdA 6 a w.drew (fun Q1=>(LdA 6 b w.drew (fun C00=>f5_e 12 1 0 0 w.drew (fun D00 E00=>f5_e 13 0 0 1 E00 (fun F00 G00=>f5_t1 b c a z g C00 D00 F00 Q1 G00 K))))∧(f5_e 12 1 0 0 w.drew (fun Z3 R1=>(LdA 6 b R1 (fun H00=>f5_e 13 0 0 1 R1 (fun I00 J00=>f5_t1 b c a z g H00 Z3 I00 Q1 J00 K)))∧(f5_e 13 0 0 1 R1 (fun L00 a4=>LdA 6 b a4 (fun M00=>f5_t1 b c a z g M00 Z3 L00 Q1 a4 K)))))))))∧(LdA 6 b w.drew (fun a0=>(LdA 6 a w.drew (fun S1=>(f5_e 12 1 0 0 w.drew (fun b4 T1=>(f5_e 13 0 0 1 T1 (fun N00 c4=>LdA 6 a c4 (fun O00=>f5_t1 b c a S1 g a0 b4 N00 O00 c4 K)))∧(LdA 6 a T1 (fun Q00=>f5_e 13 0 0 1 T1 (fun R00 S00=>f5_t1 b c a S1 g a0 b4 R00 Q00 S00 K)))))∧(LdA 6 a w.drew (fun T00=>f5_e 12 1 0 0 w.drew (fun U00 V00=>f5_e 13 0 0 1 V00 (fun W00 X00=>f5_t1 b c a S1 g a0 U00 W00 T00 X00 K))))))∧(f5_e 12 1 0 0 w.drew (fun D0 n0=>(LdA 6 a n0 (fun d4=>(f5_e 13 0 0 1 n0 (fun Y00 e4=>LdA 6 a e4 (fun Z00=>f5_t1 b c a d4 g a0 D0 Y00 Z00 e4 K)))∧(LdA 6 a n0 (fun a01=>f5_e 13 0 0 1 n0 (fun b01 c01=>f5_t1 b c a d4 g a0 D0 b01 a01 c01 K)))))∧(f5_e 13 0 0 1 n0 (fun d01 U1=>LdA 6 a U1 (fun e01=>LdA 6 a U1 (fun f01=>f5_t1 b c a e01 g a0 D0 d01 f01 U1 K))))∧(LdA 6 a n0 (fun f4=>(LdA 6 a n0 (fun g01=>f5_e 13 0 0 1 n0 (fun h01 i01=>f5_t1 b c a g01 g a0 D0 h01 f4 i01 K)))∧(f5_e 13 0 0 1 n0 (fun j01 g4=>LdA 6 a g4 (fun l01=>f5_t1 b c a l01 g a0 D0 j01 f4 g4 K)))))))∧(LdA 6 a w.drew (fun V1=>(LdA 6 a w.drew (fun m01=>f5_e 12 1 0 0 w.drew (fun n01 o01=>f5_e 13 0 0 1 o01 (fun p01 q01=>f5_t1 b c a m01 g a0 n01 p01 V1 q01 K))))∧(f5_e 12 1 0 0 w.drew (fun h4 W1=>(LdA 6 a W1 (fun r01=>f5_e 13 0 0 1 W1 (fun s01 t01=>f5_t1 b c a r01 g a0 h4 s01 V1 t01 K)))∧(f5_e 13 0 0 1 W1 (fun u01 i4=>LdA 6 a i4 (fun v01=>f5_t1 b c a v01 g a0 h4 u01 V1 i4 K)))))))))∧(f5_e 12 1 0 0 w.drew (fun o k=>(LdA 6 a k (fun E0=>(LdA 6 b k (fun j4=>(f5_e 13 0 0 1 k (fun x01 l4=>LdA 6 a l4 (fun y01=>f5_t1 b c a E0 g j4 o x01 y01 l4 K)))∧(LdA 6 a k (fun z01=>f5_e 13 0 0 1 k (fun A01 B01=>f5_t1 b c a E0 g j4 o A01 z01 B01 K)))))∧(f5_e 13 0 0 1 k (fun C01 X1=>LdA 6 b X1 (fun D01=>LdA 6 a X1 (fun E01=>f5_t1 b c a E0 g D01 o C01 E01 X1 K))))∧(LdA 6 a k (fun m4=>(LdA 6 b k (fun F01=>f5_e 13 0 0 1 k (fun G01 H01=>f5_t1 b c a E0 g F01 o G01 m4 H01 K)))∧(f5_e 13 0 0 1 k (fun I01 n4=>LdA 6 b n4 (fun J01=>f5_t1 b c a E0 g J01 o I01 m4 n4 K)))))))∧(LdA 6 b k (fun F0=>(LdA 6 a k (fun o4=>(f5_e 13 0 0 1 k (fun L01 p4=>LdA 6 a p4 (fun M01=>f5_t1 b c a o4 g F0 o L01 M01 p4 K)))∧(LdA 6 a k (fun N01=>f5_e 13 0 0 1 k (fun O01 Q01=>f5_t1 b c a o4 g F0 o O01 N01 Q01 K)))))∧(f5_e 13 0 0 1 k (fun R01 Y1=>LdA 6 a Y1 (fun S01=>LdA 6 a Y1 (fun T01=>f5_t1 b c a S01 g F0 o R01 T01 Y1 K))))∧(LdA 6 a k (fun q4=>(LdA 6 a k (fun U01=>f5_e 13 0 0 1 k (fun V01 W01=>f5_t1 b c a U01 g F0 o V01 q4 W01 K)))∧(f5_e 13 0 0 1 k (fun X01 r4=>LdA 6 a r4 (fun Y01=>f5_t1 b c a Y01 g F0 o X01 q4 r4 K)))))))∧(f5_e 13 0 0 1 k (fun Z01 l1=>LdA 6 a l1 (fun a02=>LdA 6 b l1 (fun b02=>LdA 6 a l1 (fun c02=>f5_t1 b c a a02 g b02 o Z01 c02 l1 K)))))∧(LdA 6 a k (fun G0=>(LdA 6 a k (fun s4=>(LdA 6 b k (fun d02=>f5_e 13 0 0 1 k (fun e02 f02=>f5_t1 b c a s4 g d02 o e02 G0 f02 K)))∧(f5_e 13 0 0 1 k (fun g02 t4=>LdA 6 b t4 (fun h02=>f5_t1 b c a s4 g h02 o g02 G0 t4 K)))))∧(LdA 6 b k (fun u4=>(LdA 6 a k (fun i02=>f5_e 13 0 0 1 k (fun j02 l02=>f5_t1 b c a i02 g u4 o j02 G0 l02 K)))∧(f5_e 13 0 0 1 k (fun m02 v4=>LdA 6 a v4 (fun n02=>f5_t1 b c a n02 g u4 o m02 G0 v4 K)))))∧(f5_e 13 0 0 1 k (fun o02 Z1=>LdA 6 a Z1 (fun p02=>LdA 6 b Z1 (fun q02=>f5_t1 b c a p02 g q02 o o02 G0 Z1 K))))))))∧(LdA 6 a w.drew (fun b0=>(LdA 6 a w.drew (fun a2=>(LdA 6 b w.drew (fun r02=>f5_e 12 1 0 0 w.drew (fun s02 t02=>f5_e 13 0 0 1 t02 (fun u02 v02=>f5_t1 b c a a2 g r02 s02 u02 b0 v02 K))))∧(f5_e 12 1 0 0 w.drew (fun x4 b2=>(LdA 6 b b2 (fun x02=>f5_e 13 0 0 1 b2 (fun y02 z02=>f5_t1 b c a a2 g x02 x4 y02 b0 z02 K)))∧(f5_e 13 0 0 1 b2 (fun A02 y4=>LdA 6 b y4 (fun B02=>f5_t1 b c a a2 g B02 x4 A02 b0 y4 K)))))))∧(LdA 6 b w.drew (fun c2=>(LdA 6 a w.drew (fun C02=>f5_e 12 1 0 0 w.drew (fun D02 E02=>f5_e 13 0 0 1 E02 (fun F02 G02=>f5_t1 b c a C02 g c2 D02 F02 b0 G02 K))))∧(f5_e 12 1 0 0 w.drew (fun z4 d2=>(LdA 6 a d2 (fun H02=>f5_e 13 0 0 1 d2 (fun I02 J02=>f5_t1 b c a H02 g c2 z4 I02 b0 J02 K)))∧(f5_e 13 0 0 1 d2 (fun L02 A4=>LdA 6 a A4 (fun M02=>f5_t1 b c a M02 g c2 z4 L02 b0 A4 K)))))))∧(f5_e 12 1 0 0 w.drew (fun H0 o0=>(LdA 6 a o0 (fun B4=>(LdA 6 b o0 (fun N02=>f5_e 13 0 0 1 o0 (fun O02 Q02=>f5_t1 b c a B4 g N02 H0 O02 b0 Q02 K)))∧(f5_e 13 0 0 1 o0 (fun R02 C4=>LdA 6 b C4 (fun S02=>f5_t1 b c a B4 g S02 H0 R02 b0 C4 K)))))∧(LdA 6 b o0 (fun D4=>(LdA 6 a o0 (fun T02=>f5_e 13 0 0 1 o0 (fun U02 V02=>f5_t1 b c a T02 g D4 H0 U02 b0 V02 K)))∧(f5_e 13 0 0 1 o0 (fun W02 E4=>LdA 6 a E4 (fun X02=>f5_t1 b c a X02 g D4 H0 W02 b0 E4 K)))))∧(f5_e 13 0 0 1 o0 (fun Y02 e2=>LdA 6 a e2 (fun Z02=>LdA 6 b e2 (fun a03=>f5_t1 b c a Z02 g a03 H0 Y02 b0 e2 K))))))))))∧(LdA 6 b w.drew (fun h=>(LdA 6 a w.drew (fun c0=>(LdA 6 c w.drew (fun f2=>(f5_e 12 1 0 0 w.drew (fun F4 g2=>(f5_e 13 0 0 1 g2 (fun b03 G4=>LdA 6 a G4 (fun c03=>f5_t1 b c a c0 f2 h F4 b03 c03 G4 K)))∧(LdA 6 a g2 (fun d03=>f5_e 13 0 0 1 g2 (fun e03 f03=>f5_t1 b c a c0 f2 h F4 e03 d03 f03 K)))))∧(LdA 6 a w.drew (fun g03=>f5_e 12 1 0 0 w.drew (fun h03 i03=>f5_e 13 0 0 1 i03 (fun j03 l03=>f5_t1 b c a c0 f2 h h03 j03 g03 l03 K))))))∧(f5_e 12 1 0 0 w.drew (fun I0 p0=>(LdA 6 c p0 (fun H4=>(f5_e 13 0 0 1 p0 (fun m03 I4=>LdA 6 a I4 (fun n03=>f5_t1 b c a c0 H4 h I0 m03 n03 I4 K)))∧(LdA 6 a p0 (fun o03=>f5_e 13 0 0 1 p0 (fun p03 q03=>f5_t1 b c a c0 H4 h I0 p03 o03 q03 K)))))∧(f5_e 13 0 0 1 p0 (fun r03 h2=>LdA 6 c h2 (fun s03=>LdA 6 a h2 (fun t03=>f5_t1 b c a c0 s03 h I0 r03 t03 h2 K))))∧(LdA 6 a p0 (fun J4=>(LdA 6 c p0 (fun u03=>f5_e 13 0 0 1 p0 (fun v03 x03=>f5_t1 b c a c0 u03 h I0 v03 J4 x03 K)))∧(f5_e 13 0 0 1 p0 (fun y03 L4=>LdA 6 c L4 (fun z03=>f5_t1 b c a c0 z03 h I0 y03 J4 L4 K)))))))∧(LdA 6 a w.drew (fun i2=>(LdA 6 c w.drew (fun A03=>f5_e 12 1 0 0 w.drew (fun B03 C03=>f5_e 13 0 0 1 C03 (fun D03 E03=>f5_t1 b c a c0 A03 h B03 D03 i2 E03 K))))∧(f5_e 12 1 0 0 w.drew (fun M4 j2=>(LdA 6 c j2 (fun F03=>f5_e 13 0 0 1 j2 (fun G03 H03=>f5_t1 b c a c0 F03 h M4 G03 i2 H03 K)))∧(f5_e 13 0 0 1 j2 (fun I03 N4=>LdA 6 c N4 (fun J03=>f5_t1 b c a c0 J03 h M4 I03 i2 N4 K)))))))))∧(LdA 6 c w.drew (fun d0=>(LdA 6 a w.drew (fun l2=>(f5_e 12 1 0 0 w.drew (fun O4 m2=>(f5_e 13 0 0 1 m2 (fun L03 Q4=>LdA 6 a Q4 (fun M03=>f5_t1 b c a l2 d0 h O4 L03 M03 Q4 K)))∧(LdA 6 a m2 (fun N03=>f5_e 13 0 0 1 m2 (fun O03 Q03=>f5_t1 b c a l2 d0 h O4 O03 N03 Q03 K)))))∧(LdA 6 a w.drew (fun R03=>f5_e 12 1 0 0 w.drew (fun S03 T03=>f5_e 13 0 0 1 T03 (fun U03 V03=>f5_t1 b c a l2 d0 h S03 U03 R03 V03 K))))))∧(f5_e 12 1 0 0 w.drew (fun J0 q0=>(LdA 6 a q0 (fun R4=>(f5_e 13 0 0 1 q0 (fun W03 S4=>LdA 6 a S4 (fun X03=>f5_t1 b c a R4 d0 h J0 W03 X03 S4 K)))∧(LdA 6 a q0 (fun Y03=>f5_e 13 0 0 1 q0 (fun Z03 a04=>f5_t1 b c a R4 d0 h J0 Z03 Y03 a04 K)))))∧(f5_e 13 0 0 1 q0 (fun b04 n2=>LdA 6 a n2 (fun c04=>LdA 6 a n2 (fun d04=>f5_t1 b c a c04 d0 h J0 b04 d04 n2 K))))∧(LdA 6 a q0 (fun T4=>(LdA 6 a q0 (fun e04=>f5_e 13 0 0 1 q0 (fun f04 g04=>f5_t1 b c a e04 d0 h J0 f04 T4 g04 K)))∧(f5_e 13 0 0 1 q0 (fun h04 U4=>LdA 6 a U4 (fun i04=>f5_t1 b c a i04 d0 h J0 h04 T4 U4 K)))))))∧(LdA 6 a w.drew (fun o2=>(LdA 6 a w.drew (fun j04=>f5_e 12 1 0 0 w.drew (fun l04 m04=>f5_e 13 0 0 1 m04 (fun n04 o04=>f5_t1 b c a j04 d0 h l04 n04 o2 o04 K))))∧(f5_e 12 1 0 0 w.drew (fun V4 p2=>(LdA 6 a p2 (fun p04=>f5_e 13 0 0 1 p2 (fun q04 r04=>f5_t1 b c a p04 d0 h V4 q04 o2 r04 K)))∧(f5_e 13 0 0 1 p2 (fun s04 W4=>LdA 6 a W4 (fun t04=>f5_t1 b c a t04 d0 h V4 s04 o2 W4 K)))))))))∧(f5_e 12 1 0 0 w.drew (fun p l=>(LdA 6 a l (fun L0=>(LdA 6 c l (fun X4=>(f5_e 13 0 0 1 l (fun u04 Y4=>LdA 6 a Y4 (fun v04=>f5_t1 b c a L0 X4 h p u04 v04 Y4 K)))∧(LdA 6 a l (fun x04=>f5_e 13 0 0 1 l (fun y04 z04=>f5_t1 b c a L0 X4 h p y04 x04 z04 K)))))∧(f5_e 13 0 0 1 l (fun A04 q2=>LdA 6 c q2 (fun B04=>LdA 6 a q2 (fun C04=>f5_t1 b c a L0 B04 h p A04 C04 q2 K))))∧(LdA 6 a l (fun Z4=>(LdA 6 c l (fun D04=>f5_e 13 0 0 1 l (fun E04 F04=>f5_t1 b c a L0 D04 h p E04 Z4 F04 K)))∧(f5_e 13 0 0 1 l (fun G04 a5=>LdA 6 c a5 (fun H04=>f5_t1 b c a L0 H04 h p G04 Z4 a5 K)))))))∧(LdA 6 c l (fun M0=>(LdA 6 a l (fun b5=>(f5_e 13 0 0 1 l (fun I04 c5=>LdA 6 a c5 (fun J04=>f5_t1 b c a b5 M0 h p I04 J04 c5 K)))∧(LdA 6 a l (fun L04=>f5_e 13 0 0 1 l (fun M04 N04=>f5_t1 b c a b5 M0 h p M04 L04 N04 K)))))∧(f5_e 13 0 0 1 l (fun O04 r2=>LdA 6 a r2 (fun Q04=>LdA 6 a r2 (fun R04=>f5_t1 b c a Q04 M0 h p O04 R04 r2 K))))∧(LdA 6 a l (fun d5=>(LdA 6 a l (fun S04=>f5_e 13 0 0 1 l (fun T04 U04=>f5_t1 b c a S04 M0 h p T04 d5 U04 K)))∧(f5_e 13 0 0 1 l (fun V04 e5=>LdA 6 a e5 (fun W04=>f5_t1 b c a W04 M0 h p V04 d5 e5 K)))))))∧(f5_e 13 0 0 1 l (fun X04 m1=>LdA 6 a m1 (fun Y04=>LdA 6 c m1 (fun Z04=>LdA 6 a m1 (fun a05=>f5_t1 b c a Y04 Z04 h p X04 a05 m1 K)))))∧(LdA 6 a l (fun N0=>(LdA 6 a l (fun f5=>(LdA 6 c l (fun b05=>f5_e 13 0 0 1 l (fun c05 d05=>f5_t1 b c a f5 b05 h p c05 N0 d05 K)))∧(f5_e 13 0 0 1 l (fun e05 g5=>LdA 6 c g5 (fun f05=>f5_t1 b c a f5 f05 h p e05 N0 g5 K)))))∧(LdA 6 c l (fun h5=>(LdA 6 a l (fun g05=>f5_e 13 0 0 1 l (fun h05 i05=>f5_t1 b c a g05 h5 h p h05 N0 i05 K)))∧(f5_e 13 0 0 1 l (fun j05 i5=>LdA 6 a i5 (fun l05=>f5_t1 b c a l05 h5 h p j05 N0 i5 K)))))∧(f5_e 13 0 0 1 l (fun m05 s2=>LdA 6 a s2 (fun n05=>LdA 6 c s2 (fun o05=>f5_t1 b c a n05 o05 h p m05 N0 s2 K))))))))∧(LdA 6 a w.drew (fun e0=>(LdA 6 a w.drew (fun t2=>(LdA 6 c w.drew (fun p05=>f5_e 12 1 0 0 w.drew (fun q05 r05=>f5_e 13 0 0 1 r05 (fun s05 t05=>f5_t1 b c a t2 p05 h q05 s05 e0 t05 K))))∧(f5_e 12 1 0 0 w.drew (fun j5 u2=>(LdA 6 c u2 (fun u05=>f5_e 13 0 0 1 u2 (fun v05 x05=>f5_t1 b c a t2 u05 h j5 v05 e0 x05 K)))∧(f5_e 13 0 0 1 u2 (fun y05 l5=>LdA 6 c l5 (fun z05=>f5_t1 b c a t2 z05 h j5 y05 e0 l5 K)))))))∧(LdA 6 c w.drew (fun v2=>(LdA 6 a w.drew (fun A05=>f5_e 12 1 0 0 w.drew (fun B05 C05=>f5_e 13 0 0 1 C05 (fun D05 E05=>f5_t1 b c a A05 v2 h B05 D05 e0 E05 K))))∧(f5_e 12 1 0 0 w.drew (fun m5 x2=>(LdA 6 a x2 (fun F05=>f5_e 13 0 0 1 x2 (fun G05 H05=>f5_t1 b c a F05 v2 h m5 G05 e0 H05 K)))∧(f5_e 13 0 0 1 x2 (fun I05 n5=>LdA 6 a n5 (fun J05=>f5_t1 b c a J05 v2 h m5 I05 e0 n5 K)))))))∧(f5_e 12 1 0 0 w.drew (fun O0 r0=>(LdA 6 a r0 (fun o5=>(LdA 6 c r0 (fun L05=>f5_e 13 0 0 1 r0 (fun M05 N05=>f5_t1 b c a o5 L05 h O0 M05 e0 N05 K)))∧(f5_e 13 0 0 1 r0 (fun O05 p5=>LdA 6 c p5 (fun Q05=>f5_t1 b c a o5 Q05 h O0 O05 e0 p5 K)))))∧(LdA 6 c r0 (fun q5=>(LdA 6 a r0 (fun R05=>f5_e 13 0 0 1 r0 (fun S05 T05=>f5_t1 b c a R05 q5 h O0 S05 e0 T05 K)))∧(f5_e 13 0 0 1 r0 (fun U05 r5=>LdA 6 a r5 (fun V05=>f5_t1 b c a V05 q5 h O0 U05 e0 r5 K)))))∧(f5_e 13 0 0 1 r0 (fun W05 y2=>LdA 6 a y2 (fun X05=>LdA 6 c y2 (fun Y05=>f5_t1 b c a X05 Y05 h O0 W05 e0 y2 K))))))))))∧(f5_e 12 1 0 0 w.drew (fun e d=>(LdA 6 a d (fun q=>(LdA 6 c d (fun Q0=>(LdA 6 b d (fun s5=>(f5_e 13 0 0 1 d (fun Z05 t5=>LdA 6 a t5 (fun a06=>f5_t1 b c a q Q0 s5 e Z05 a06 t5 K)))∧(LdA 6 a d (fun b06=>f5_e 13 0 0 1 d (fun c06 d06=>f5_t1 b c a q Q0 s5 e c06 b06 d06 K)))))∧(f5_e 13 0 0 1 d (fun e06 z2=>LdA 6 b z2 (fun f06=>LdA 6 a z2 (fun g06=>f5_t1 b c a q Q0 f06 e e06 g06 z2 K))))∧(LdA 6 a d (fun u5=>(LdA 6 b d (fun h06=>f5_e 13 0 0 1 d (fun i06 j06=>f5_t1 b c a q Q0 h06 e i06 u5 j06 K)))∧(f5_e 13 0 0 1 d (fun l06 v5=>LdA 6 b v5 (fun m06=>f5_t1 b c a q Q0 m06 e l06 u5 v5 K)))))))∧(LdA 6 b d (fun R0=>(LdA 6 c d (fun x5=>(f5_e 13 0 0 1 d (fun n06 y5=>LdA 6 a y5 (fun o06=>f5_t1 b c a q x5 R0 e n06 o06 y5 K)))∧(LdA 6 a d (fun p06=>f5_e 13 0 0 1 d (fun q06 r06=>f5_t1 b c a q x5 R0 e q06 p06 r06 K)))))∧(f5_e 13 0 0 1 d (fun s06 A2=>LdA 6 c A2 (fun t06=>LdA 6 a A2 (fun u06=>f5_t1 b c a q t06 R0 e s06 u06 A2 K))))∧(LdA 6 a d (fun z5=>(LdA 6 c d (fun v06=>f5_e 13 0 0 1 d (fun x06 y06=>f5_t1 b c a q v06 R0 e x06 z5 y06 K)))∧(f5_e 13 0 0 1 d (fun z06 A5=>LdA 6 c A5 (fun A06=>f5_t1 b c a q A06 R0 e z06 z5 A5 K)))))))∧(f5_e 13 0 0 1 d (fun B06 n1=>LdA 6 c n1 (fun C06=>LdA 6 b n1 (fun D06=>LdA 6 a n1 (fun E06=>f5_t1 b c a q C06 D06 e B06 E06 n1 K)))))∧(LdA 6 a d (fun S0=>(LdA 6 c d (fun B5=>(LdA 6 b d (fun F06=>f5_e 13 0 0 1 d (fun G06 H06=>f5_t1 b c a q B5 F06 e G06 S0 H06 K)))∧(f5_e 13 0 0 1 d (fun I06 C5=>LdA 6 b C5 (fun J06=>f5_t1 b c a q B5 J06 e I06 S0 C5 K)))))∧(LdA 6 b d (fun D5=>(LdA 6 c d (fun L06=>f5_e 13 0 0 1 d (fun M06 N06=>f5_t1 b c a q L06 D5 e M06 S0 N06 K)))∧(f5_e 13 0 0 1 d (fun O06 E5=>LdA 6 c E5 (fun Q06=>f5_t1 b c a q Q06 D5 e O06 S0 E5 K)))))∧(f5_e 13 0 0 1 d (fun R06 B2=>LdA 6 c B2 (fun S06=>LdA 6 b B2 (fun T06=>f5_t1 b c a q S06 T06 e R06 S0 B2 K))))))))∧(LdA 6 c d (fun r=>(LdA 6 a d (fun T0=>(LdA 6 b d (fun F5=>(f5_e 13 0 0 1 d (fun U06 G5=>LdA 6 a G5 (fun V06=>f5_t1 b c a T0 r F5 e U06 V06 G5 K)))∧(LdA 6 a d (fun W06=>f5_e 13 0 0 1 d (fun X06 Y06=>f5_t1 b c a T0 r F5 e X06 W06 Y06 K)))))∧(f5_e 13 0 0 1 d (fun Z06 C2=>LdA 6 b C2 (fun a07=>LdA 6 a C2 (fun b07=>f5_t1 b c a T0 r a07 e Z06 b07 C2 K))))∧(LdA 6 a d (fun H5=>(LdA 6 b d (fun c07=>f5_e 13 0 0 1 d (fun d07 e07=>f5_t1 b c a T0 r c07 e d07 H5 e07 K)))∧(f5_e 13 0 0 1 d (fun f07 I5=>LdA 6 b I5 (fun g07=>f5_t1 b c a T0 r g07 e f07 H5 I5 K)))))))∧(LdA 6 b d (fun U0=>(LdA 6 a d (fun J5=>(f5_e 13 0 0 1 d (fun h07 L5=>LdA 6 a L5 (fun i07=>f5_t1 b c a J5 r U0 e h07 i07 L5 K)))∧(LdA 6 a d (fun j07=>f5_e 13 0 0 1 d (fun l07 m07=>f5_t1 b c a J5 r U0 e l07 j07 m07 K)))))∧(f5_e 13 0 0 1 d (fun n07 D2=>LdA 6 a D2 (fun o07=>LdA 6 a D2 (fun p07=>f5_t1 b c a o07 r U0 e n07 p07 D2 K))))∧(LdA 6 a d (fun M5=>(LdA 6 a d (fun q07=>f5_e 13 0 0 1 d (fun r07 s07=>f5_t1 b c a q07 r U0 e r07 M5 s07 K)))∧(f5_e 13 0 0 1 d (fun t07 N5=>LdA 6 a N5 (fun u07=>f5_t1 b c a u07 r U0 e t07 M5 N5 K)))))))∧(f5_e 13 0 0 1 d (fun v07 o1=>LdA 6 a o1 (fun x07=>LdA 6 b o1 (fun y07=>LdA 6 a o1 (fun z07=>f5_t1 b c a x07 r y07 e v07 z07 o1 K)))))∧(LdA 6 a d (fun V0=>(LdA 6 a d (fun O5=>(LdA 6 b d (fun A07=>f5_e 13 0 0 1 d (fun B07 C07=>f5_t1 b c a O5 r A07 e B07 V0 C07 K)))∧(f5_e 13 0 0 1 d (fun D07 Q5=>LdA 6 b Q5 (fun E07=>f5_t1 b c a O5 r E07 e D07 V0 Q5 K)))))∧(LdA 6 b d (fun R5=>(LdA 6 a d (fun F07=>f5_e 13 0 0 1 d (fun G07 H07=>f5_t1 b c a F07 r R5 e G07 V0 H07 K)))∧(f5_e 13 0 0 1 d (fun I07 S5=>LdA 6 a S5 (fun J07=>f5_t1 b c a J07 r R5 e I07 V0 S5 K)))))∧(f5_e 13 0 0 1 d (fun L07 E2=>LdA 6 a E2 (fun M07=>LdA 6 b E2 (fun N07=>f5_t1 b c a M07 r N07 e L07 V0 E2 K))))))))∧(LdA 6 b d (fun s=>(LdA 6 a d (fun W0=>(LdA 6 c d (fun T5=>(f5_e 13 0 0 1 d (fun O07 U5=>LdA 6 a U5 (fun Q07=>f5_t1 b c a W0 T5 s e O07 Q07 U5 K)))∧(LdA 6 a d (fun R07=>f5_e 13 0 0 1 d (fun S07 T07=>f5_t1 b c a W0 T5 s e S07 R07 T07 K)))))∧(f5_e 13 0 0 1 d (fun U07 F2=>LdA 6 c F2 (fun V07=>LdA 6 a F2 (fun W07=>f5_t1 b c a W0 V07 s e U07 W07 F2 K))))∧(LdA 6 a d (fun V5=>(LdA 6 c d (fun X07=>f5_e 13 0 0 1 d (fun Y07 Z07=>f5_t1 b c a W0 X07 s e Y07 V5 Z07 K)))∧(f5_e 13 0 0 1 d (fun a08 W5=>LdA 6 c W5 (fun b08=>f5_t1 b c a W0 b08 s e a08 V5 W5 K)))))))∧(LdA 6 c d (fun X0=>(LdA 6 a d (fun X5=>(f5_e 13 0 0 1 d (fun c08 Y5=>LdA 6 a Y5 (fun d08=>f5_t1 b c a X5 X0 s e c08 d08 Y5 K)))∧(LdA 6 a d (fun e08=>f5_e 13 0 0 1 d (fun f08 g08=>f5_t1 b c a X5 X0 s e f08 e08 g08 K)))))∧(f5_e 13 0 0 1 d (fun h08 G2=>LdA 6 a G2 (fun i08=>LdA 6 a G2 (fun j08=>f5_t1 b c a i08 X0 s e h08 j08 G2 K))))∧(LdA 6 a d (fun Z5=>(LdA 6 a d (fun l08=>f5_e 13 0 0 1 d (fun m08 n08=>f5_t1 b c a l08 X0 s e m08 Z5 n08 K)))∧(f5_e 13 0 0 1 d (fun o08 a6=>LdA 6 a a6 (fun p08=>f5_t1 b c a p08 X0 s e o08 Z5 a6 K)))))))∧(f5_e 13 0 0 1 d (fun q08 p1=>LdA 6 a p1 (fun r08=>LdA 6 c p1 (fun s08=>LdA 6 a p1 (fun t08=>f5_t1 b c a r08 s08 s e q08 t08 p1 K)))))∧(LdA 6 a d (fun Y0=>(LdA 6 a d (fun b6=>(LdA 6 c d (fun u08=>f5_e 13 0 0 1 d (fun v08 x08=>f5_t1 b c a b6 u08 s e v08 Y0 x08 K)))∧(f5_e 13 0 0 1 d (fun y08 c6=>LdA 6 c c6 (fun z08=>f5_t1 b c a b6 z08 s e y08 Y0 c6 K)))))∧(LdA 6 c d (fun d6=>(LdA 6 a d (fun A08=>f5_e 13 0 0 1 d (fun B08 C08=>f5_t1 b c a A08 d6 s e B08 Y0 C08 K)))∧(f5_e 13 0 0 1 d (fun D08 e6=>LdA 6 a e6 (fun E08=>f5_t1 b c a E08 d6 s e D08 Y0 e6 K)))))∧(f5_e 13 0 0 1 d (fun F08 H2=>LdA 6 a H2 (fun G08=>LdA 6 c H2 (fun H08=>f5_t1 b c a G08 H08 s e F08 Y0 H2 K))))))))∧(f5_e 13 0 0 1 d (fun I08 Z0=>LdA 6 a Z0 (fun J08=>LdA 6 c Z0 (fun L08=>LdA 6 b Z0 (fun M08=>LdA 6 a Z0 (fun N08=>f5_t1 b c a J08 L08 M08 e I08 N08 Z0 K))))))∧(LdA 6 a d (fun t=>(LdA 6 a d (fun a1=>(LdA 6 c d (fun f6=>(LdA 6 b d (fun O08=>f5_e 13 0 0 1 d (fun Q08 R08=>f5_t1 b c a a1 f6 O08 e Q08 t R08 K)))∧(f5_e 13 0 0 1 d (fun S08 g6=>LdA 6 b g6 (fun T08=>f5_t1 b c a a1 f6 T08 e S08 t g6 K)))))∧(LdA 6 b d (fun h6=>(LdA 6 c d (fun U08=>f5_e 13 0 0 1 d (fun V08 W08=>f5_t1 b c a a1 U08 h6 e V08 t W08 K)))∧(f5_e 13 0 0 1 d (fun X08 i6=>LdA 6 c i6 (fun Y08=>f5_t1 b c a a1 Y08 h6 e X08 t i6 K)))))∧(f5_e 13 0 0 1 d (fun Z08 I2=>LdA 6 c I2 (fun a09=>LdA 6 b I2 (fun b09=>f5_t1 b c a a1 a09 b09 e Z08 t I2 K))))))∧(LdA 6 c d (fun b1=>(LdA 6 a d (fun j6=>(LdA 6 b d (fun c09=>f5_e 13 0 0 1 d (fun d09 e09=>f5_t1 b c a j6 b1 c09 e d09 t e09 K)))∧(f5_e 13 0 0 1 d (fun f09 l6=>LdA 6 b l6 (fun g09=>f5_t1 b c a j6 b1 g09 e f09 t l6 K)))))∧(LdA 6 b d (fun m6=>(LdA 6 a d (fun h09=>f5_e 13 0 0 1 d (fun i09 j09=>f5_t1 b c a h09 b1 m6 e i09 t j09 K)))∧(f5_e 13 0 0 1 d (fun l09 n6=>LdA 6 a n6 (fun m09=>f5_t1 b c a m09 b1 m6 e l09 t n6 K)))))∧(f5_e 13 0 0 1 d (fun n09 J2=>LdA 6 a J2 (fun o09=>LdA 6 b J2 (fun p09=>f5_t1 b c a o09 b1 p09 e n09 t J2 K))))))∧(LdA 6 b d (fun c1=>(LdA 6 a d (fun o6=>(LdA 6 c d (fun q09=>f5_e 13 0 0 1 d (fun r09 s09=>f5_t1 b c a o6 q09 c1 e r09 t s09 K)))∧(f5_e 13 0 0 1 d (fun t09 p6=>LdA 6 c p6 (fun u09=>f5_t1 b c a o6 u09 c1 e t09 t p6 K)))))∧(LdA 6 c d (fun q6=>(LdA 6 a d (fun v09=>f5_e 13 0 0 1 d (fun x09 y09=>f5_t1 b c a v09 q6 c1 e x09 t y09 K)))∧(f5_e 13 0 0 1 d (fun z09 r6=>LdA 6 a r6 (fun A09=>f5_t1 b c a A09 q6 c1 e z09 t r6 K)))))∧(f5_e 13 0 0 1 d (fun B09 L2=>LdA 6 a L2 (fun C09=>LdA 6 c L2 (fun D09=>f5_t1 b c a C09 D09 c1 e B09 t L2 K))))))∧(f5_e 13 0 0 1 d (fun E09 q1=>LdA 6 a q1 (fun F09=>LdA 6 c q1 (fun G09=>LdA 6 b q1 (fun H09=>f5_t1 b c a F09 G09 H09 e E09 t q1 K)))))))))∧(LdA 6 a w.drew (fun i=>(LdA 6 a w.drew (fun f0=>(LdA 6 c w.drew (fun M2=>(LdA 6 b w.drew (fun I09=>f5_e 12 1 0 0 w.drew (fun J09 L09=>f5_e 13 0 0 1 L09 (fun M09 N09=>f5_t1 b c a f0 M2 I09 J09 M09 i N09 K))))∧(f5_e 12 1 0 0 w.drew (fun s6 N2=>(LdA 6 b N2 (fun O09=>f5_e 13 0 0 1 N2 (fun Q09 R09=>f5_t1 b c a f0 M2 O09 s6 Q09 i R09 K)))∧(f5_e 13 0 0 1 N2 (fun S09 t6=>LdA 6 b t6 (fun T09=>f5_t1 b c a f0 M2 T09 s6 S09 i t6 K)))))))∧(LdA 6 b w.drew (fun O2=>(LdA 6 c w.drew (fun U09=>f5_e 12 1 0 0 w.drew (fun V09 W09=>f5_e 13 0 0 1 W09 (fun X09 Y09=>f5_t1 b c a f0 U09 O2 V09 X09 i Y09 K))))∧(f5_e 12 1 0 0 w.drew (fun u6 Q2=>(LdA 6 c Q2 (fun Z09=>f5_e 13 0 0 1 Q2 (fun a0a b0a=>f5_t1 b c a f0 Z09 O2 u6 a0a i b0a K)))∧(f5_e 13 0 0 1 Q2 (fun c0a v6=>LdA 6 c v6 (fun d0a=>f5_t1 b c a f0 d0a O2 u6 c0a i v6 K)))))))∧(f5_e 12 1 0 0 w.drew (fun d1 s0=>(LdA 6 c s0 (fun x6=>(LdA 6 b s0 (fun e0a=>f5_e 13 0 0 1 s0 (fun f0a g0a=>f5_t1 b c a f0 x6 e0a d1 f0a i g0a K)))∧(f5_e 13 0 0 1 s0 (fun h0a y6=>LdA 6 b y6 (fun i0a=>f5_t1 b c a f0 x6 i0a d1 h0a i y6 K)))))∧(LdA 6 b s0 (fun z6=>(LdA 6 c s0 (fun j0a=>f5_e 13 0 0 1 s0 (fun l0a m0a=>f5_t1 b c a f0 j0a z6 d1 l0a i m0a K)))∧(f5_e 13 0 0 1 s0 (fun n0a A6=>LdA 6 c A6 (fun o0a=>f5_t1 b c a f0 o0a z6 d1 n0a i A6 K)))))∧(f5_e 13 0 0 1 s0 (fun p0a R2=>LdA 6 c R2 (fun q0a=>LdA 6 b R2 (fun r0a=>f5_t1 b c a f0 q0a r0a d1 p0a i R2 K))))))))∧(LdA 6 c w.drew (fun g0=>(LdA 6 a w.drew (fun S2=>(LdA 6 b w.drew (fun s0a=>f5_e 12 1 0 0 w.drew (fun t0a u0a=>f5_e 13 0 0 1 u0a (fun v0a x0a=>f5_t1 b c a S2 g0 s0a t0a v0a i x0a K))))∧(f5_e 12 1 0 0 w.drew (fun B6 T2=>(LdA 6 b T2 (fun y0a=>f5_e 13 0 0 1 T2 (fun z0a A0a=>f5_t1 b c a S2 g0 y0a B6 z0a i A0a K)))∧(f5_e 13 0 0 1 T2 (fun B0a C6=>LdA 6 b C6 (fun C0a=>f5_t1 b c a S2 g0 C0a B6 B0a i C6 K)))))))∧(LdA 6 b w.drew (fun U2=>(LdA 6 a w.drew (fun D0a=>f5_e 12 1 0 0 w.drew (fun E0a F0a=>f5_e 13 0 0 1 F0a (fun G0a H0a=>f5_t1 b c a D0a g0 U2 E0a G0a i H0a K))))∧(f5_e 12 1 0 0 w.drew (fun D6 V2=>(LdA 6 a V2 (fun I0a=>f5_e 13 0 0 1 V2 (fun J0a L0a=>f5_t1 b c a I0a g0 U2 D6 J0a i L0a K)))∧(f5_e 13 0 0 1 V2 (fun M0a E6=>LdA 6 a E6 (fun N0a=>f5_t1 b c a N0a g0 U2 D6 M0a i E6 K)))))))∧(f5_e 12 1 0 0 w.drew (fun e1 t0=>(LdA 6 a t0 (fun F6=>(LdA 6 b t0 (fun O0a=>f5_e 13 0 0 1 t0 (fun Q0a R0a=>f5_t1 b c a F6 g0 O0a e1 Q0a i R0a K)))∧(f5_e 13 0 0 1 t0 (fun S0a G6=>LdA 6 b G6 (fun T0a=>f5_t1 b c a F6 g0 T0a e1 S0a i G6 K)))))∧(LdA 6 b t0 (fun H6=>(LdA 6 a t0 (fun U0a=>f5_e 13 0 0 1 t0 (fun V0a W0a=>f5_t1 b c a U0a g0 H6 e1 V0a i W0a K)))∧(f5_e 13 0 0 1 t0 (fun X0a I6=>LdA 6 a I6 (fun Y0a=>f5_t1 b c a Y0a g0 H6 e1 X0a i I6 K)))))∧(f5_e 13 0 0 1 t0 (fun Z0a W2=>LdA 6 a W2 (fun a0b=>LdA 6 b W2 (fun b0b=>f5_t1 b c a a0b g0 b0b e1 Z0a i W2 K))))))))∧(LdA 6 b w.drew (fun h0=>(LdA 6 a w.drew (fun X2=>(LdA 6 c w.drew (fun c0b=>f5_e 12 1 0 0 w.drew (fun d0b e0b=>f5_e 13 0 0 1 e0b (fun f0b g0b=>f5_t1 b c a X2 c0b h0 d0b f0b i g0b K))))∧(f5_e 12 1 0 0 w.drew (fun J6 Y2=>(LdA 6 c Y2 (fun h0b=>f5_e 13 0 0 1 Y2 (fun i0b j0b=>f5_t1 b c a X2 h0b h0 J6 i0b i j0b K)))∧(f5_e 13 0 0 1 Y2 (fun l0b L6=>LdA 6 c L6 (fun m0b=>f5_t1 b c a X2 m0b h0 J6 l0b i L6 K)))))))∧(LdA 6 c w.drew (fun Z2=>(LdA 6 a w.drew (fun n0b=>f5_e 12 1 0 0 w.drew (fun o0b p0b=>f5_e 13 0 0 1 p0b (fun q0b r0b=>f5_t1 b c a n0b Z2 h0 o0b q0b i r0b K))))∧(f5_e 12 1 0 0 w.drew (fun M6 a3=>(LdA 6 a a3 (fun s0b=>f5_e 13 0 0 1 a3 (fun t0b u0b=>f5_t1 b c a s0b Z2 h0 M6 t0b i u0b K)))∧(f5_e 13 0 0 1 a3 (fun v0b N6=>LdA 6 a N6 (fun x0b=>f5_t1 b c a x0b Z2 h0 M6 v0b i N6 K)))))))∧(f5_e 12 1 0 0 w.drew (fun f1 u0=>(LdA 6 a u0 (fun O6=>(LdA 6 c u0 (fun y0b=>f5_e 13 0 0 1 u0 (fun z0b A0b=>f5_t1 b c a O6 y0b h0 f1 z0b i A0b K)))∧(f5_e 13 0 0 1 u0 (fun B0b Q6=>LdA 6 c Q6 (fun C0b=>f5_t1 b c a O6 C0b h0 f1 B0b i Q6 K)))))∧(LdA 6 c u0 (fun R6=>(LdA 6 a u0 (fun D0b=>f5_e 13 0 0 1 u0 (fun E0b F0b=>f5_t1 b c a D0b R6 h0 f1 E0b i F0b K)))∧(f5_e 13 0 0 1 u0 (fun G0b S6=>LdA 6 a S6 (fun H0b=>f5_t1 b c a H0b R6 h0 f1 G0b i S6 K)))))∧(f5_e 13 0 0 1 u0 (fun I0b b3=>LdA 6 a b3 (fun J0b=>LdA 6 c b3 (fun L0b=>f5_t1 b c a J0b L0b h0 f1 I0b i b3 K))))))))∧(f5_e 12 1 0 0 w.drew (fun u m=>(LdA 6 a m (fun g1=>(LdA 6 c m (fun T6=>(LdA 6 b m (fun M0b=>f5_e 13 0 0 1 m (fun N0b O0b=>f5_t1 b c a g1 T6 M0b u N0b i O0b K)))∧(f5_e 13 0 0 1 m (fun Q0b U6=>LdA 6 b U6 (fun R0b=>f5_t1 b c a g1 T6 R0b u Q0b i U6 K)))))∧(LdA 6 b m (fun V6=>(LdA 6 c m (fun S0b=>f5_e 13 0 0 1 m (fun T0b U0b=>f5_t1 b c a g1 S0b V6 u T0b i U0b K)))∧(f5_e 13 0 0 1 m (fun V0b W6=>LdA 6 c W6 (fun W0b=>f5_t1 b c a g1 W0b V6 u V0b i W6 K)))))∧(f5_e 13 0 0 1 m (fun X0b c3=>LdA 6 c c3 (fun Y0b=>LdA 6 b c3 (fun Z0b=>f5_t1 b c a g1 Y0b Z0b u X0b i c3 K))))))∧(LdA 6 c m (fun h1=>(LdA 6 a m (fun X6=>(LdA 6 b m (fun a0c=>f5_e 13 0 0 1 m (fun b0c c0c=>f5_t1 b c a X6 h1 a0c u b0c i c0c K)))∧(f5_e 13 0 0 1 m (fun d0c Y6=>LdA 6 b Y6 (fun e0c=>f5_t1 b c a X6 h1 e0c u d0c i Y6 K)))))∧(LdA 6 b m (fun Z6=>(LdA 6 a m (fun f0c=>f5_e 13 0 0 1 m (fun g0c h0c=>f5_t1 b c a f0c h1 Z6 u g0c i h0c K)))∧(f5_e 13 0 0 1 m (fun i0c a7=>LdA 6 a a7 (fun j0c=>f5_t1 b c a j0c h1 Z6 u i0c i a7 K)))))∧(f5_e 13 0 0 1 m (fun l0c d3=>LdA 6 a d3 (fun m0c=>LdA 6 b d3 (fun n0c=>f5_t1 b c a m0c h1 n0c u l0c i d3 K))))))∧(LdA 6 b m (fun i1=>(LdA 6 a m (fun b7=>(LdA 6 c m (fun o0c=>f5_e 13 0 0 1 m (fun p0c q0c=>f5_t1 b c a b7 o0c i1 u p0c i q0c K)))∧(f5_e 13 0 0 1 m (fun r0c c7=>LdA 6 c c7 (fun s0c=>f5_t1 b c a b7 s0c i1 u r0c i c7 K)))))∧(LdA 6 c m (fun d7=>(LdA 6 a m (fun t0c=>f5_e 13 0 0 1 m (fun u0c v0c=>f5_t1 b c a t0c d7 i1 u u0c i v0c K)))∧(f5_e 13 0 0 1 m (fun x0c e7=>LdA 6 a e7 (fun y0c=>f5_t1 b c a y0c d7 i1 u x0c i e7 K)))))∧(f5_e 13 0 0 1 m (fun z0c e3=>LdA 6 a e3 (fun A0c=>LdA 6 c e3 (fun B0c=>f5_t1 b c a A0c B0c i1 u z0c i e3 K))))))∧(f5_e 13 0 0 1 m (fun C0c r1=>LdA 6 a r1 (fun D0c=>LdA 6 c r1 (fun E0c=>LdA 6 b r1 (fun F0c=>f5_t1 b c a D0c E0c F0c u C0c i r1 K)))))))))):=by kernel_rfl
end Go.Fx.Tryz
namespace Go.Fx.Tryz
open Go Go.Fx Go.Fx.Mo
open Go.Proofs
variable {w0 w:World} {H:HL} {K:KT}
set_option maxRecDepth 20000
abbrev saneH (n14 n3 n12:Nat) (H:HL):List (Nat × Obj):=(n14,Cs (Evcs evLoad) 45)::(n12,Cs (Evcs evStore) 45)::(n3,Cs (Evcs evSpawn) 45)::H
section
variable {n14 n3 n12:Nat}
theorem drop2 {n:Nat} {o:Obj} {Lo:HL} (h:St w0 w (Lo++((n,o)::H))) (hN:New w0 Lo) (hn:w0.heap.size≤n):St w0 w H:=(h.sub hN).tail hn
theorem sane_s9 {n109 n111:Nat} (h:St w0 w ((n111,Cs (Evcs evY) 45)::(n109,Cs (Evcs evX) 45)::saneH n14 n3 n12 H)) (hK:∀ w',St w0 w' ((n111,Cs (Evcs evY) 45)::(n109,Cs (Evcs evX) 45)::saneH n14 n3 n12 H)→K (.bool true) w') :
  f5_s9 (Addr.mk n14 0 none) (Addr.mk n111 0 none) (Addr.mk n109 0 none) (Addr.mk n3 0 none) w K:=by
 rw [f5_s9_eq]
 obtain ⟨ze,hze,hzel⟩:=z35
 rw [hze]
 refine ev_ok h 3 0 4100 4 fun w1 h1=>⟨_,rfl,?_⟩
 refine ev_ok h1 2 1 4100 4 fun w2 h2=>⟨_,rfl,?_⟩
 refine h2.newC fun n152 w3 hn152 h3=>h3.newC fun n154 w4 hn154 h4=>?_
 refine h4.stA (k:=1) rfl (by simp [Evcs_len]) (by simp [hzel]) (Evcs_one _) fun w5 h5=>h5.stA (k:=0) rfl (by simp [Evcs_len]) (by simp [hzel]) (Evcs_one _) fun w6 h6=>?_
 have h6:St w0 w6 ((n154,Cs (splice ze 0 (Evcs evLate)) 45)::(n152,Cs (splice ze 0 (Evcs evOther)) 45)::(n111,Cs (Evcs evY) 45)::(n109,Cs (Evcs evX) 45)::saneH n14 n3 n12 H):=h6
 rw [splice_whole (by rw [Evcs_len,hzel]),splice_whole (by rw [Evcs_len,hzel])] at h6
 refine h6.ldA (k:=6) (i:=0) rfl (by simp [Evcs_len]) (h6.ldA (k:=1) (i:=0) rfl (by simp [Evcs_len]) (h6.ldA (k:=3) (i:=0) rfl (by simp [Evcs_len]) (h6.ldA (k:=2) (i:=0) rfl (by simp [Evcs_len]) (h6.ldA (k:=0) (i:=0) rfl (by simp [Evcs_len]) ?_))))
 refine lay_evs ex7 h6 fun n166 w7 hn166 h7=>?_
 refine first_at sort48 races7 (by decide) h7 (n:=n166) (.head _) fun w8 a c Lo hS hN h8=>⟨a,_,c,true,rfl,?_⟩
 have h8:=drop2 h8 hN hn166
 refine h8.ldA (k:=4) (i:=0) rfl (by simp [Evcs_len]) ?_
 refine lay_evs [evLoad] h8 fun n175 w9 hn175 h9=>?_
 refine races_ok sort48 (l:=[evLoad]) h9 (evs_row (.head _)) (by decide) (fun x hx hx0 w10 h10=>⟨none,0,0,x,rfl,?_⟩) (fun out hx=>by rw [races8] at hx; cases hx)
 have hx:x=300:=by rw [races8] at hx; cases hx; rfl
 subst hx
 rw [BIf_true]
 refine ⟨0,fun wq _=>run_len_81 wq,?_⟩
 rw [show ((0:Int) == 0)=true by decide,BIf_true,f5_s10_eq]
 exact hK w10 (((h10.tail hn175).tail hn154).tail hn152)
theorem sane_s7 (h:St w0 w (saneH n14 n3 n12 H)) (hK:∀ w',St w0 w' (saneH n14 n3 n12 H)→K (.bool true) w'):f5_s7 (Addr.mk n14 0 none) (Addr.mk n3 0 none) w K:=by
 rw [f5_s7_eq]
 obtain ⟨ze,hze,hzel⟩:=z35
 rw [hze]
 refine ev_ok h 4 0 4096 4 fun w1 h1=>⟨_,rfl,?_⟩
 refine ev_ok h1 4 1 4096 4 fun w2 h2=>⟨_,rfl,?_⟩
 refine h2.newC fun n109 w3 hn109 h3=>h3.newC fun n111 w4 hn111 h4=>?_
 refine h4.stA (k:=1) rfl (by simp [Evcs_len]) (by simp [hzel]) (Evcs_one _) fun w5 h5=>h5.stA (k:=0) rfl (by simp [Evcs_len]) (by simp [hzel]) (Evcs_one _) fun w6 h6=>?_
 have h6:St w0 w6 ((n111,Cs (splice ze 0 (Evcs evY)) 45)::(n109,Cs (splice ze 0 (Evcs evX)) 45)::saneH n14 n3 n12 H):=h6
 rw [splice_whole (by rw [Evcs_len,hzel]),splice_whole (by rw [Evcs_len,hzel])] at h6
 refine h6.ldA (k:=4) (i:=0) rfl (by simp [Evcs_len]) (h6.ldA (k:=1) (i:=0) rfl (by simp [Evcs_len]) (h6.ldA (k:=0) (i:=0) rfl (by simp [Evcs_len]) ?_))
 refine lay_evs ex5 h6 fun n121 w7 hn121 h7=>?_
 refine first_at sort48 races5 (by decide) h7 (n:=n121) (.head _) fun w8 a c Lo hS hN h8=>⟨a,_,c,true,rfl,?_⟩
 have h8:=drop2 h8 hN hn121
 refine h8.ldA (k:=4) (i:=0) rfl (by simp [Evcs_len]) (h8.ldA (k:=1) (i:=0) rfl (by simp [Evcs_len]) (h8.ldA (k:=2) (i:=0) rfl (by simp [Evcs_len]) ?_))
 refine lay_evs ex6 h8 fun n132 w9 hn132 h9=>?_
 refine first_at sort48 races6 (by decide) h9 (n:=n132) (.head _) fun w10 a' c' Lo' hS' hN' h10=>⟨a',_,c',true,rfl,?_⟩
 rw [Bool.not_true,BIf_false,BIf_false]
 refine ⟨0,fun wq _=>run_len_81 wq,?_⟩
 rw [show ((0:Int) != 0)=false by decide,BIf_false]
 refine ⟨4,fun wq _=>run_len_81 wq,?_⟩
 rw [show ((4:Int) != 4)=false by decide,BIf_false]
 obtain ⟨g,cc,hg,hld⟩:=slO_ldA hS' (w:=w10) (i:=0) (fun y hy=>h10.has _ _ (by simp [hy])) (by decide)
 obtain ⟨hsa,-⟩:a'=some ⟨g,0,none⟩∧c'=cc:=by simpa using hg
 subst hsa
 refine ⟨by decide,by decide,hld _ ⟨_,build85 4096 1 2,false,fun wq=>?_,?_⟩⟩
 ·exact eq85 4096 1 2 wq 136 137
 ·rw [f5_s8_eq,BIf_false]
  exact sane_s9 (drop2 h10 hN' hn132) fun w' h'=>hK w' ((h'.tail hn111).tail hn109)
theorem ex3_set:(evsCs ex3).set 27 (.int .u32 6)=evsCs ex4:=by kernel_rfl
theorem sane_s5 {n81:Nat} (hn81:w0.heap.size≤n81) (h:St w0 w ((n81,Cs (evsCs ex3) 45)::saneH n14 n3 n12 H)) (hK:∀ w',St w0 w' (saneH n14 n3 n12 H)→K (.bool true) w'):f5_s5 (Addr.mk n14 0 none) (Addr.mk n3 0 none) (some (Addr.mk n81 0 none)) 6 6 w K:=by
 rw [f5_s5_eq]
 refine first_at sort48 races3 (by decide) h (n:=n81) (.head _) fun w8 a c Lo hS hN h8=>⟨a,_,c,true,rfl,?_⟩
 have h8:=h8.sub hN
 refine clone_ok (l:=ex3) h8 (n:=n81) (.head _) (by decide) fun w9 v L hv hvN h9=>?_
 rcases hv.2 with ⟨_,h0,_⟩ | ⟨g,cap,cur,hve,hL,hle,hcm,hcl,htk⟩
 ·cases h0
 ·subst hve
  subst hL
  refine ⟨some ⟨g,0,none⟩,6,cap,rfl,by decide,by decide,?_⟩
  show St1 (((Addr.mk g 0 none).add 24).add 3) _ _ _
  rw [add_lit',add_lit']
  have hle:6≤cap:=hle
  refine h9.st1 (k:=0) rfl (by rw [hcl]; omega) rfl fun w10 h10=>?_
  have h10:St w0 w10 ((g,Cs (cur.set 27 (.int .u32 6)) 45)::(n81,Cs (evsCs ex3) 45)::saneH n14 n3 n12 H):=h10
  have hcur:(cur.set 27 (.int .u32 6)).take 36=evsCs ex4:=by
   have e:cur.take 36=evsCs ex3:=htk
   rw [List.take_set,e]
   exact ex3_set
  have hrow:∀ w',St w0 w' ((g,Cs (cur.set 27 (.int .u32 6)) 45)::(n81,Cs (evsCs ex3) 45)::saneH n14 n3 n12 H)→Row w' 6 (.slice (some ⟨g,0,none⟩) 6 cap) 6 (evsCs ex4):=fun w' h'=>
   ⟨evsCs_len ex4,.inr ⟨_,_,rfl,fun i hi=>by
    have hi:i < 36:=hi
    rw [add_lit',h'.cell (k:=0) rfl,Nat.zero_add,← hcur,List.getElem?_take,if_pos hi]⟩⟩
  refine firsts_ok sort48 (l:=ex4) h10 hrow (by decide) (fun x hx=>by rw [races4] at hx; cases hx) fun out' hx hlen w11 rv Lo' hS' hN' h11=>?_
  rw [races4] at hx
  cases hx
  obtain ⟨a',c',hrv⟩:=hS'.form
  subst hrv
  refine ⟨a',_,c',true,rfl,?_⟩
  rw [Bool.not_true,BIf_false,BIf_false]
  refine ⟨0,fun wq _=>run_len_81 wq,?_⟩
  rw [show ((0:Int) != 0)=false by decide,BIf_false]
  refine ⟨4,fun wq _=>run_len_81 wq,?_⟩
  rw [show ((4:Int) != 4)=false by decide,f5_s6_eq,BIf_false]
  have hg:w0.heap.size≤g:=by simpa [New] using hvN
  exact sane_s7 (((h11.sub hN').tail hg).tail hn81) hK
theorem sane_s4 (h:St w0 w (saneH n14 n3 n12 H)) (hK:∀ w',St w0 w' (saneH n14 n3 n12 H)→K (.bool true) w'):f5_s4 (Addr.mk n14 0 none) (Addr.mk n3 0 none) (Addr.mk n12 0 none) w K:=by
 rw [f5_s4_eq]
 have hd:=h.drew
 have l14:∀ {w':World} {K':Array Value→Prop},St w0 w' (saneH n14 n3 n12 H)→K' (Evcs evLoad).toArray→LdA 6 (Addr.mk n14 0 none) w' K':=fun h' hk=>h'.ldA (k:=0) (i:=0) rfl (by simp [Evcs_len]) hk
 have l12:∀ {w':World} {K':Array Value→Prop},St w0 w' (saneH n14 n3 n12 H)→K' (Evcs evStore).toArray→LdA 6 (Addr.mk n12 0 none) w' K':=fun h' hk=>h'.ldA (k:=1) (i:=0) rfl (by simp [Evcs_len]) hk
 have l3:∀ {w':World} {K':Array Value→Prop},St w0 w' (saneH n14 n3 n12 H)→K' (Evcs evSpawn).toArray→LdA 6 (Addr.mk n3 0 none) w' K':=fun h' hk=>h'.ldA (k:=2) (i:=0) rfl (by simp [Evcs_len]) hk
 have fin:∀ {w':World},St w0 w' (saneH n14 n3 n12 H)→sizesAre 6 [evV evSpawn,evV (ev 14 0 5 0),evV evStore,evV (ev 15 0 5 0),evV (ev 14 1 5 0),evV evLoad]∧
   NewC (([evV evSpawn,evV (ev 14 0 5 0),evV evStore,evV (ev 15 0 5 0),evV (ev 14 1 5 0),evV evLoad].map fun (v:Value)=>v.cells.toList).flatten.toArray) 45 w' (fun n81 w79=>f5_s5 (Addr.mk n14 0 none) (Addr.mk n3 0 none) (some (Addr.mk n81 0 none)) 6 6 w79 K):=fun h'=>
  lay_evs ex3 h' fun n81 w79 hn81 h79=>sane_s5 hn81 h79 hK
 clear h
 repeat' first
  | exact fin (by assumption)
  | refine l14 (by assumption) ?_
  | refine l12 (by assumption) ?_
  | refine l3 (by assumption) ?_
  | refine ev_ok (by assumption) _ _ _ _ fun w' h'=>⟨_,rfl,?_⟩
  | refine ⟨?_,?_⟩
end
end Go.Fx.Tryz
namespace Go.Fx.Tryz
open Go Go.Fx Go.Fx.Mo
open Go.Proofs
variable {w0 w:World} {H:HL} {K:KT}
set_option maxRecDepth 20000
section
variable {n14 n3 n12:Nat}
set_option maxHeartbeats 4000000 in
theorem sane_s1 (h:St w0 w (saneH n14 n3 n12 H)) (hK:∀ w',St w0 w' (saneH n14 n3 n12 H)→K (.bool true) w'):f5_s1 (Addr.mk n14 0 none) (Addr.mk n3 0 none) (Addr.mk n12 0 none) w K:=by
 rw [f5_s1_eq]
 have hd:=h.drew
 have l14:∀ {w':World} {K':Array Value→Prop},St w0 w' (saneH n14 n3 n12 H)→K' (Evcs evLoad).toArray→LdA 6 (Addr.mk n14 0 none) w' K':=fun h' hk=>h'.ldA (k:=0) (i:=0) rfl (by simp [Evcs_len]) hk
 have l12:∀ {w':World} {K':Array Value→Prop},St w0 w' (saneH n14 n3 n12 H)→K' (Evcs evStore).toArray→LdA 6 (Addr.mk n12 0 none) w' K':=fun h' hk=>h'.ldA (k:=1) (i:=0) rfl (by simp [Evcs_len]) hk
 have l3:∀ {w':World} {K':Array Value→Prop},St w0 w' (saneH n14 n3 n12 H)→K' (Evcs evSpawn).toArray→LdA 6 (Addr.mk n3 0 none) w' K':=fun h' hk=>h'.ldA (k:=2) (i:=0) rfl (by simp [Evcs_len]) hk
 have fin:∀ {w':World},St w0 w' (saneH n14 n3 n12 H)→sizesAre 6 [evV evStore,evV evSpawn,evV evLoad,evV (ev 12 1 0 0),evV (ev 13 0 0 1),evV evStore]∧
   NewC (([evV evStore,evV evSpawn,evV evLoad,evV (ev 12 1 0 0),evV (ev 13 0 0 1),evV evStore].map fun (v:Value)=>v.cells.toList).flatten.toArray) 45 w' (fun n49 w47=>CallL P 31 [(Value.slice (some (Addr.mk n49 0 none)) 6 6)] w47 (fun r50 w51=>∃ (s52a:Option Addr) (s52l s52c:Nat),∃ b53:Bool,r50=(Value.tuple [(Value.slice s52a s52l s52c),(Value.bool b53)].toArray)∧f5_s2 (Addr.mk n14 0 none) (Addr.mk n3 0 none) (Addr.mk n12 0 none) s52a s52l s52c b53 w51 K)):=fun h'=>
  lay_evs ex2 h' fun n49 w47 hn49 h47=>first_at (l:=ex2) sort48 races2 (by decide) h47 (n:=n49) (.head _) fun w8 a c Lo hS hN h8=>⟨a,_,c,true,rfl,by
   rw [f5_s2_eq,Bool.not_true,BIf_false]
   refine ⟨0,fun wq _=>run_len_81 wq,?_⟩
   rw [show ((0:Int) != 0)=false by decide,f5_s3_eq,BIf_false]
   exact sane_s4 (drop2 h8 hN hn49) hK⟩
 clear h
 repeat' first
  | exact fin (by assumption)
  | refine l14 (by assumption) ?_
  | refine l12 (by assumption) ?_
  | refine l3 (by assumption) ?_
  | refine ev_ok (by assumption) _ _ _ _ fun w' h'=>⟨_,rfl,?_⟩
  | refine ⟨?_,?_⟩
theorem four_cs:triplesCs (four 1 2 (acc 0 true false) (acc 1 false false))=[I64 4096,I64 1,I64 2,I64 4097,I64 1,I64 2,I64 4098,I64 1,I64 2,I64 4099,I64 1,I64 2]:=by kernel_rfl
theorem sane_ok (h:St w0 w H) (hK:∀ w',St w0 w' H→K (.bool true) w'):CallL P 5 [] w K:=by
 refine f5_ok _ _ ?_
 obtain ⟨ze,hze,hzel⟩:=z35
 rw [f5_eq,hze]
 refine ev_ok h 11 0 0 1 fun w1 h1=>⟨_,rfl,?_⟩
 refine h1.newC fun n3 w2 hn3 h2=>h2.stA (k:=0) rfl (by simp [Evcs_len]) (by simp [hzel]) (Evcs_one _) fun w3 h3=>?_
 have h3:St w0 w3 ((n3,Cs (splice ze 0 (Evcs evSpawn)) 45)::H):=h3
 rw [splice_whole (by rw [Evcs_len,hzel])] at h3
 refine ev_ok h3 3 0 4096 4 fun w4 h4=>⟨_,rfl,?_⟩
 refine ev_ok h4 2 1 4096 4 fun w5 h5=>⟨_,rfl,?_⟩
 refine h5.newC fun n12 w6 hn12 h6=>h6.newC fun n14 w7 hn14 h7=>?_
 refine h7.stA (k:=1) rfl (by simp [Evcs_len]) (by simp [hzel]) (Evcs_one _) fun w8 h8=>h8.stA (k:=0) rfl (by simp [Evcs_len]) (by simp [hzel]) (Evcs_one _) fun w9 h9=>?_
 have h9:St w0 w9 ((n14,Cs (splice ze 0 (Evcs evLoad)) 45)::(n12,Cs (splice ze 0 (Evcs evStore)) 45)::(n3,Cs (Evcs evSpawn) 45)::H):=h9
 rw [splice_whole (by rw [Evcs_len,hzel]),splice_whole (by rw [Evcs_len,hzel])] at h9
 refine h9.ldA (k:=2) (i:=0) rfl (by simp [Evcs_len]) (h9.ldA (k:=1) (i:=0) rfl (by simp [Evcs_len]) (h9.ldA (k:=0) (i:=0) rfl (by simp [Evcs_len]) ?_))
 refine lay_evs ex1 h9 fun n24 w10 hn24 h10=>?_
 refine first_at (l:=ex1) sort48 races1 (by decide) h10 (n:=n24) (.head _) fun w11 a c Lo hS hN h11=>⟨a,_,c,true,rfl,?_⟩
 rw [Bool.not_true,BIf_false]
 refine ⟨_,build85 4096 1 2,_,build85 4097 1 2,_,build85 4098 1 2,_,build85 4099 1 2,⟨rfl,rfl,rfl,rfl,trivial⟩,?_⟩
 refine h11.newC fun n85 w12 hn85 h12=>?_
 have h12:St w0 w12 ((n85,Cs (triplesCs (four 1 2 (acc 0 true false) (acc 1 false false))) 88)::(Lo++((n24,Cs (evsCs ex1) 45)::saneH n14 n3 n12 H))):=by
  rw [four_cs]; exact h12
 refine same3_ok (l:=four 1 2 (acc 0 true false) (acc 1 false false)) h12 (fun w' h'=>hS.row fun y hy=>h'.has _ _ (by simp [hy])) (fun w' h'=>⟨by rw [four_cs]; rfl,.inr ⟨_,_,rfl,fun i _=>by rw [add_lit',h'.cell (k:=0) rfl,Nat.zero_add]⟩⟩) (by decide) fun w13 h13=>⟨true,rfl,?_⟩
 rw [f5_s0_eq,Bool.not_true,BIf_false]
 refine sane_s1 (drop2 (h13.tail hn85) hN hn24) fun w' h'=>hK w' (((h'.tail hn14).tail hn12).tail hn3)
end
end Go.Fx.Tryz
namespace Go.Fx.Tryz
set_option maxRecDepth 100000
open Go Go.Fx Go.Proofs
noncomputable def c50:Code:=bodyOf Tryz.f50
noncomputable def rs50:List ResultVar:=Tryz.f50.results.toList
abbrev f50_kb (K:KT):Exit→YT:=bodyK P rs50 K
def f50 (a:Array Value) (w:World) (K:KT):Prop:=CS P c50 none [2] [2] (f50_kb K) (env0 9 [(Value.agg a)]) w
def f50_s0 (a:Bool) (w:World) (K:KT):Prop:=SG P (cA c50 7) none [2] [2] (f50_kb K) (Env.mk 9 [(2,(VB a))] []) w
theorem f50_s0_eq (a:Bool) (w:World) (K:KT):f50_s0 a w K=(K (Value.bool a) w):=by kernel_rfl
theorem f50_eq (b:Array Value) (w:World) (K:KT):f50 b w K=(NewC b 45 w (fun c d=>LdA 6 (Addr.mk c 0 none) d (fun g=>CallL P 80 [(Value.agg g)] d (fun h a=>∃ e:Bool,h=(.bool e)∧BIf e (f50_s0 true a K) (LdA 6 (Addr.mk c 0 none) a (fun i=>CallL P 81 [(Value.agg i)] a (fun j k=>∃ f:Bool,j=(.bool f)∧f50_s0 f k K))))))):=by kernel_rfl
theorem f50_ok (a:Array Value) (w:World) (K:KT) (h:f50 a w K):CallL P 50 [(Value.agg a)] w K:=okCS c50 Tryz.func50 (by kernel_rfl) (by kernel_rfl) h
noncomputable def c81:Code:=bodyOf Tryz.f81
noncomputable def rs81:List ResultVar:=Tryz.f81.results.toList
abbrev f81_kb (K:KT):Exit→YT:=bodyK P rs81 K
def f81 (a:Array Value) (w:World) (K:KT):Prop:=CS P c81 none [2] [2] (f81_kb K) (env0 16 [(Value.agg a)]) w
def f81_s0 (a:Bool) (w:World) (K:KT):Prop:=SG P (cA c81 7) none [2] [2] (f81_kb K) (Env.mk 16 [(2,(VB a))] []) w
theorem f81_s0_eq (a:Bool) (w:World) (K:KT):f81_s0 a w K=(K (Value.bool a) w):=by kernel_rfl
theorem f81_eq (c:Array Value) (w:World) (K:KT):f81 c w K=(NewC c 45 w (fun b a=>∃ d:Int,a.cell? (Addr.mk b 0 none)=some (.int .i64 d)∧BIf ((d:Int) == 3) (f81_s0 true a K) (∃ e:Int,a.cell? (Addr.mk b 0 none)=some (.int .i64 e)∧BIf ((e:Int) == 22) (f81_s0 true a K) (∃ f:Int,a.cell? (Addr.mk b 0 none)=some (.int .i64 f)∧f81_s0 ((f:Int) == 4) a K)))):=by kernel_rfl
theorem f81_ok (a:Array Value) (w:World) (K:KT) (h:f81 a w K):CallL P 81 [(Value.agg a)] w K:=okCS c81 Tryz.func81 (by kernel_rfl) (by kernel_rfl) h
noncomputable def c80:Code:=bodyOf Tryz.f80
noncomputable def rs80:List ResultVar:=Tryz.f80.results.toList
abbrev f80_kb (K:KT):Exit→YT:=bodyK P rs80 K
def f80 (a:Array Value) (w:World) (K:KT):Prop:=CS P c80 none [2] [2] (f80_kb K) (env0 11 [(Value.agg a)]) w
def f80_s0 (a:Bool) (w:World) (K:KT):Prop:=SG P (cA c80 7) none [2] [2] (f80_kb K) (Env.mk 11 [(2,(VB a))] []) w
theorem f80_s0_eq (a:Bool) (w:World) (K:KT):f80_s0 a w K=(K (Value.bool a) w):=by kernel_rfl
theorem f80_eq (b:Array Value) (w:World) (K:KT):f80 b w K=(NewC b 45 w (fun c a=>∃ d:Int,a.cell? (Addr.mk c 0 none)=some (.int .i64 d)∧BIf ((d:Int) == 2) (f80_s0 true a K) (∃ e:Int,a.cell? (Addr.mk c 0 none)=some (.int .i64 e)∧f80_s0 ((e:Int) == 23) a K))):=by kernel_rfl
theorem f80_ok (a:Array Value) (w:World) (K:KT) (h:f80 a w K):CallL P 80 [(Value.agg a)] w K:=okCS c80 Tryz.func80 (by kernel_rfl) (by kernel_rfl) h
noncomputable def c61:Code:=bodyOf Tryz.f61
noncomputable def rs61:List ResultVar:=Tryz.f61.results.toList
abbrev f61_kb (K:KT):Exit→YT:=bodyK P rs61 K
def f61 (a:Array Value) (b:Int) (w:World) (K:KT):Prop:=CS P c61 none [4] [4] (f61_kb K) (env0 17 [(Value.agg a),(Value.int .u32 b)]) w
def f61_s0 (a:Bool) (w:World) (K:KT):Prop:=SG P (cA c61 7) none [4] [4] (f61_kb K) (Env.mk 17 [(4,(VB a))] []) w
theorem f61_s0_eq (a:Bool) (w:World) (K:KT):f61_s0 a w K=(K (Value.bool a) w):=by kernel_rfl
theorem f61_eq (c:Array Value) (d:Int) (w:World) (K:KT):f61 c d w K=(NewC c 45 w (fun b e=>LdA 6 (Addr.mk b 0 none) e (fun i=>CallL P 50 [(Value.agg i)] e (fun j a=>∃ f:Bool,j=(.bool f)∧BIf f (∃ g:Int,a.cell? ((Addr.mk b 0 none).add 3)=some (.int .u32 g)∧∃ h:Int,a.cell? ((Addr.mk b 0 none).add 5)=some (.int .i64 h)∧f61_s0 (decide (((IntKind.wrap .i64 (IntKind.wrap .u32 ((d:Int) - g))):Int) < h)) a K) (f61_s0 false a K))))):=by kernel_rfl
theorem f61_ok (a:Array Value) (b:Int) (w:World) (K:KT) (h:f61 a b w K):CallL P 61 [(Value.agg a),(Value.int .u32 b)] w K:=okCS c61 Tryz.func61 (by kernel_rfl) (by kernel_rfl) h
noncomputable def c62:Code:=bodyOf Tryz.f62
noncomputable def rs62:List ResultVar:=Tryz.f62.results.toList
abbrev f62_kb (K:KT):Exit→YT:=bodyK P rs62 K
def f62 (a:Array Value) (b:Int) (w:World) (K:KT):Prop:=CS P c62 none [4] [4] (f62_kb K) (env0 16 [(Value.agg a),(VI b)]) w
def f62_s0 (a:Addr) (w:World) (K:KT):Prop:=SG P (cA c62 7) none [4] [4] (f62_kb K) (Env.mk 16 [(4,(VP (some a)))] []) w
theorem f62_s0_eq (a:Addr) (w:World) (K:KT):f62_s0 a w K=(LdA 5 a w (fun b=>K (Value.agg b) w)):=by kernel_rfl
theorem f62_eq (s:Array Value) (d:Int) (w:World) (K:KT):f62 s d w K=(NewC s 45 w (fun c f1=>NewC (zcells P 97) 97 f1 (fun a b=>LdA 6 (Addr.mk c 0 none) b.drew (fun e=>(∃ f:Int,b.drew.cell? ((Addr.mk c 0 none).add 1)=some (.int .i64 f)∧(∃ j:Int,b.drew.cell? ((Addr.mk c 0 none).add 2)=some (.int .u32 j)∧(CallL P 81 [(Value.agg e)] b.drew (fun g1 t=>∃ u:Bool,g1=(.bool u)∧∃ v:Int,t.cell? (Addr.mk c 0 none)=some (.int .i64 v)∧∃ x:Array Value,(∀ wq,(Instr.build 97 [(0,(Value.int .i64 d)),(1,(Value.int .i64 f)),(2,(Value.int .u32 j)),(3,(Value.bool u)),(4,(Value.bool ((v:Int) == 4)))].toArray).run P wq=.ok (.agg x) wq)∧StA 5 (Addr.mk a 0 none) x t (fun h1=>f62_s0 (Addr.mk a 0 none) h1 K)))∧(∃ y:Int,b.drew.cell? (Addr.mk c 0 none)=some (.int .i64 y)∧CallL P 81 [(Value.agg e)] b.drew (fun i1 j1=>∃ z:Bool,i1=(.bool z)∧∃ a0:Array Value,(∀ wq,(Instr.build 97 [(0,(Value.int .i64 d)),(1,(Value.int .i64 f)),(2,(Value.int .u32 j)),(3,(Value.bool z)),(4,(Value.bool ((y:Int) == 4)))].toArray).run P wq=.ok (.agg a0) wq)∧StA 5 (Addr.mk a 0 none) a0 j1 (fun l1=>f62_s0 (Addr.mk a 0 none) l1 K))))∧(CallL P 81 [(Value.agg e)] b.drew (fun m1 k=>∃ b0:Bool,m1=(.bool b0)∧∃ c0:Int,k.cell? ((Addr.mk c 0 none).add 2)=some (.int .u32 c0)∧∃ d0:Int,k.cell? (Addr.mk c 0 none)=some (.int .i64 d0)∧∃ e0:Array Value,(∀ wq,(Instr.build 97 [(0,(Value.int .i64 d)),(1,(Value.int .i64 f)),(2,(Value.int .u32 c0)),(3,(Value.bool b0)),(4,(Value.bool ((d0:Int) == 4)))].toArray).run P wq=.ok (.agg e0) wq)∧StA 5 (Addr.mk a 0 none) e0 k (fun n1=>f62_s0 (Addr.mk a 0 none) n1 K)))∧(∃ l:Int,b.drew.cell? (Addr.mk c 0 none)=some (.int .i64 l)∧(∃ f0:Int,b.drew.cell? ((Addr.mk c 0 none).add 2)=some (.int .u32 f0)∧CallL P 81 [(Value.agg e)] b.drew (fun o1 p1=>∃ g0:Bool,o1=(.bool g0)∧∃ h0:Array Value,(∀ wq,(Instr.build 97 [(0,(Value.int .i64 d)),(1,(Value.int .i64 f)),(2,(Value.int .u32 f0)),(3,(Value.bool g0)),(4,(Value.bool ((l:Int) == 4)))].toArray).run P wq=.ok (.agg h0) wq)∧StA 5 (Addr.mk a 0 none) h0 p1 (fun q1=>f62_s0 (Addr.mk a 0 none) q1 K)))∧(CallL P 81 [(Value.agg e)] b.drew (fun r1 i0=>∃ j0:Bool,r1=(.bool j0)∧∃ l0:Int,i0.cell? ((Addr.mk c 0 none).add 2)=some (.int .u32 l0)∧∃ m0:Array Value,(∀ wq,(Instr.build 97 [(0,(Value.int .i64 d)),(1,(Value.int .i64 f)),(2,(Value.int .u32 l0)),(3,(Value.bool j0)),(4,(Value.bool ((l:Int) == 4)))].toArray).run P wq=.ok (.agg m0) wq)∧StA 5 (Addr.mk a 0 none) m0 i0 (fun s1=>f62_s0 (Addr.mk a 0 none) s1 K)))))∧(∃ g:Int,b.drew.cell? ((Addr.mk c 0 none).add 2)=some (.int .u32 g)∧(∃ m:Int,b.drew.cell? ((Addr.mk c 0 none).add 1)=some (.int .i64 m)∧(CallL P 81 [(Value.agg e)] b.drew (fun t1 n0=>∃ o0:Bool,t1=(.bool o0)∧∃ p0:Int,n0.cell? (Addr.mk c 0 none)=some (.int .i64 p0)∧∃ q0:Array Value,(∀ wq,(Instr.build 97 [(0,(Value.int .i64 d)),(1,(Value.int .i64 m)),(2,(Value.int .u32 g)),(3,(Value.bool o0)),(4,(Value.bool ((p0:Int) == 4)))].toArray).run P wq=.ok (.agg q0) wq)∧StA 5 (Addr.mk a 0 none) q0 n0 (fun u1=>f62_s0 (Addr.mk a 0 none) u1 K)))∧(∃ r0:Int,b.drew.cell? (Addr.mk c 0 none)=some (.int .i64 r0)∧CallL P 81 [(Value.agg e)] b.drew (fun v1 y1=>∃ s0:Bool,v1=(.bool s0)∧∃ t0:Array Value,(∀ wq,(Instr.build 97 [(0,(Value.int .i64 d)),(1,(Value.int .i64 m)),(2,(Value.int .u32 g)),(3,(Value.bool s0)),(4,(Value.bool ((r0:Int) == 4)))].toArray).run P wq=.ok (.agg t0) wq)∧StA 5 (Addr.mk a 0 none) t0 y1 (fun z1=>f62_s0 (Addr.mk a 0 none) z1 K))))∧(CallL P 81 [(Value.agg e)] b.drew (fun A1 n=>∃ u0:Bool,A1=(.bool u0)∧∃ v0:Int,n.cell? ((Addr.mk c 0 none).add 1)=some (.int .i64 v0)∧∃ x0:Int,n.cell? (Addr.mk c 0 none)=some (.int .i64 x0)∧∃ y0:Array Value,(∀ wq,(Instr.build 97 [(0,(Value.int .i64 d)),(1,(Value.int .i64 v0)),(2,(Value.int .u32 g)),(3,(Value.bool u0)),(4,(Value.bool ((x0:Int) == 4)))].toArray).run P wq=.ok (.agg y0) wq)∧StA 5 (Addr.mk a 0 none) y0 n (fun B1=>f62_s0 (Addr.mk a 0 none) B1 K)))∧(∃ o:Int,b.drew.cell? (Addr.mk c 0 none)=some (.int .i64 o)∧(∃ z0:Int,b.drew.cell? ((Addr.mk c 0 none).add 1)=some (.int .i64 z0)∧CallL P 81 [(Value.agg e)] b.drew (fun C1 D1=>∃ A0:Bool,C1=(.bool A0)∧∃ B0:Array Value,(∀ wq,(Instr.build 97 [(0,(Value.int .i64 d)),(1,(Value.int .i64 z0)),(2,(Value.int .u32 g)),(3,(Value.bool A0)),(4,(Value.bool ((o:Int) == 4)))].toArray).run P wq=.ok (.agg B0) wq)∧StA 5 (Addr.mk a 0 none) B0 D1 (fun E1=>f62_s0 (Addr.mk a 0 none) E1 K)))∧(CallL P 81 [(Value.agg e)] b.drew (fun F1 C0=>∃ D0:Bool,F1=(.bool D0)∧∃ E0:Int,C0.cell? ((Addr.mk c 0 none).add 1)=some (.int .i64 E0)∧∃ F0:Array Value,(∀ wq,(Instr.build 97 [(0,(Value.int .i64 d)),(1,(Value.int .i64 E0)),(2,(Value.int .u32 g)),(3,(Value.bool D0)),(4,(Value.bool ((o:Int) == 4)))].toArray).run P wq=.ok (.agg F0) wq)∧StA 5 (Addr.mk a 0 none) F0 C0 (fun G1=>f62_s0 (Addr.mk a 0 none) G1 K)))))∧(CallL P 81 [(Value.agg e)] b.drew (fun H1 i=>∃ G0:Bool,H1=(.bool G0)∧∃ H0:Int,i.cell? ((Addr.mk c 0 none).add 1)=some (.int .i64 H0)∧∃ I0:Int,i.cell? ((Addr.mk c 0 none).add 2)=some (.int .u32 I0)∧∃ J0:Int,i.cell? (Addr.mk c 0 none)=some (.int .i64 J0)∧∃ L0:Array Value,(∀ wq,(Instr.build 97 [(0,(Value.int .i64 d)),(1,(Value.int .i64 H0)),(2,(Value.int .u32 I0)),(3,(Value.bool G0)),(4,(Value.bool ((J0:Int) == 4)))].toArray).run P wq=.ok (.agg L0) wq)∧StA 5 (Addr.mk a 0 none) L0 i (fun I1=>f62_s0 (Addr.mk a 0 none) I1 K)))∧(∃ h:Int,b.drew.cell? (Addr.mk c 0 none)=some (.int .i64 h)∧(∃ p:Int,b.drew.cell? ((Addr.mk c 0 none).add 1)=some (.int .i64 p)∧(∃ M0:Int,b.drew.cell? ((Addr.mk c 0 none).add 2)=some (.int .u32 M0)∧CallL P 81 [(Value.agg e)] b.drew (fun J1 L1=>∃ N0:Bool,J1=(.bool N0)∧∃ O0:Array Value,(∀ wq,(Instr.build 97 [(0,(Value.int .i64 d)),(1,(Value.int .i64 p)),(2,(Value.int .u32 M0)),(3,(Value.bool N0)),(4,(Value.bool ((h:Int) == 4)))].toArray).run P wq=.ok (.agg O0) wq)∧StA 5 (Addr.mk a 0 none) O0 L1 (fun M1=>f62_s0 (Addr.mk a 0 none) M1 K)))∧(CallL P 81 [(Value.agg e)] b.drew (fun N1 Q0=>∃ R0:Bool,N1=(.bool R0)∧∃ S0:Int,Q0.cell? ((Addr.mk c 0 none).add 2)=some (.int .u32 S0)∧∃ T0:Array Value,(∀ wq,(Instr.build 97 [(0,(Value.int .i64 d)),(1,(Value.int .i64 p)),(2,(Value.int .u32 S0)),(3,(Value.bool R0)),(4,(Value.bool ((h:Int) == 4)))].toArray).run P wq=.ok (.agg T0) wq)∧StA 5 (Addr.mk a 0 none) T0 Q0 (fun O1=>f62_s0 (Addr.mk a 0 none) O1 K))))∧(∃ q:Int,b.drew.cell? ((Addr.mk c 0 none).add 2)=some (.int .u32 q)∧(∃ U0:Int,b.drew.cell? ((Addr.mk c 0 none).add 1)=some (.int .i64 U0)∧CallL P 81 [(Value.agg e)] b.drew (fun Q1 R1=>∃ V0:Bool,Q1=(.bool V0)∧∃ W0:Array Value,(∀ wq,(Instr.build 97 [(0,(Value.int .i64 d)),(1,(Value.int .i64 U0)),(2,(Value.int .u32 q)),(3,(Value.bool V0)),(4,(Value.bool ((h:Int) == 4)))].toArray).run P wq=.ok (.agg W0) wq)∧StA 5 (Addr.mk a 0 none) W0 R1 (fun S1=>f62_s0 (Addr.mk a 0 none) S1 K)))∧(CallL P 81 [(Value.agg e)] b.drew (fun T1 X0=>∃ Y0:Bool,T1=(.bool Y0)∧∃ Z0:Int,X0.cell? ((Addr.mk c 0 none).add 1)=some (.int .i64 Z0)∧∃ a1:Array Value,(∀ wq,(Instr.build 97 [(0,(Value.int .i64 d)),(1,(Value.int .i64 Z0)),(2,(Value.int .u32 q)),(3,(Value.bool Y0)),(4,(Value.bool ((h:Int) == 4)))].toArray).run P wq=.ok (.agg a1) wq)∧StA 5 (Addr.mk a 0 none) a1 X0 (fun U1=>f62_s0 (Addr.mk a 0 none) U1 K))))∧(CallL P 81 [(Value.agg e)] b.drew (fun V1 r=>∃ b1:Bool,V1=(.bool b1)∧∃ c1:Int,r.cell? ((Addr.mk c 0 none).add 1)=some (.int .i64 c1)∧∃ d1:Int,r.cell? ((Addr.mk c 0 none).add 2)=some (.int .u32 d1)∧∃ e1:Array Value,(∀ wq,(Instr.build 97 [(0,(Value.int .i64 d)),(1,(Value.int .i64 c1)),(2,(Value.int .u32 d1)),(3,(Value.bool b1)),(4,(Value.bool ((h:Int) == 4)))].toArray).run P wq=.ok (.agg e1) wq)∧StA 5 (Addr.mk a 0 none) e1 r (fun W1=>f62_s0 (Addr.mk a 0 none) W1 K)))))))):=by kernel_rfl
theorem f62_ok (a:Array Value) (b:Int) (w:World) (K:KT) (h:f62 a b w K):CallL P 62 [(Value.agg a),(Value.int .i64 b)] w K:=okCS c62 Tryz.func62 (by kernel_rfl) (by kernel_rfl) h
noncomputable def c57:Code:=bodyOf Tryz.f57
noncomputable def rs57:List ResultVar:=Tryz.f57.results.toList
abbrev f57_kb (K:KT):Exit→YT:=bodyK P rs57 K
def f57 (w:World) (K:KT):Prop:=CS P c57 none [0] [0] (f57_kb K) (env0 6 []) w
theorem f57_eq (w:World) (K:KT):f57 w K=(NewC (zcells P 64) 64 w (fun b f=>∃ c:Array Value,(∀ wq,(Instr.build 64 [].toArray).run P wq=.ok (.agg c) wq)∧NewC (zcells P 64) 64 f (fun a g=>StA 20 (Addr.mk a 0 none) c g (fun h=>0≤(0:Int)∧(0:Int) < (8:Nat)∧St1 (((Addr.mk a 0 none).add 3).add (Int.toNat 0 * 1)) (Value.bool true) h (fun d=>LdA 20 (Addr.mk a 0 none) d (fun i=>StA 20 (Addr.mk b 0 none) i d (fun e=>LdA 20 (Addr.mk b 0 none) e (fun j=>K (Value.agg j) e)))))))):=by kernel_rfl
theorem f57_ok (w:World) (K:KT) (h:f57 w K):CallL P 57 [] w K:=okCS c57 Tryz.func57 (by kernel_rfl) (by kernel_rfl) h
noncomputable def c100:Code:=bodyOf Tryz.f100
noncomputable def rs100:List ResultVar:=Tryz.f100.results.toList
abbrev f100_kb (K:KT):Exit→YT:=bodyK P rs100 K
def f100 (a:OA) (b c:Nat) (d:Array Value) (w:World) (K:KT):Prop:=CS P c100 none [4] [4] (f100_kb K) (env0 21 [(VS a b c),(Value.agg d)]) w
abbrev f100_k1 (K:KT):Exit→YT:=kseq P (cA c100 6) (cA c100 7) none [4] [4] (f100_kb K)
abbrev f100_k3 (K:KT):Exit→YT:=kblock 0 (f100_k1 K)
def f100_lp0 (K:KT) (Y0:YT) (e:Env) (w:World):Prop:=Join (fun e w=>CS P (cA c100 52) none [0,5,3,4] [4,0] (kloop [0,5,3,4] Y0 (f100_k3 K)) e w) e w
abbrev f100_kl0 (K:KT) (Y0:YT):Exit→YT:=kloop [0,5,3,4] Y0 (f100_k3 K)
def f100_lb0 (a:OA) (b c:Nat) (d:Int) (f:Addr) (g:Int) (w:World) (K:KT) (Y0:YT):Prop:=SG P (cA c100 52) none [0,5,3,4] [4,0] (f100_kl0 K Y0) (Env.mk 21 [(0,(VS a b c)),(5,(VI d)),(3,(VP (some f))),(4,(VI g))] []) w
def f100_s1 (a:OA) (b c:Nat) (d:Addr) (f g:Int) (w:World) (K:KT) (Y0:YT):Prop:=SG P (cA c100 105) none [0,5,3,4] [4,0] (f100_kl0 K Y0) (Env.mk 21 [(0,(VS a b c)),(3,(VP (some d))),(5,(VI f)),(4,(VI g))] []) w
def f100_s2 (a:OA) (b c:Nat) (d:Addr) (f g:Int) (w:World) (K:KT) (Y0:YT):Prop:=SG P (cA c100 211) none [0,5,3,4] [4,0] (f100_kl0 K Y0) (Env.mk 21 [(0,(VS a b c)),(3,(VP (some d))),(4,(VI f)),(5,(VI g))] []) w
theorem f100_s2_eq (a:OA) (b c:Nat) (d:Addr) (e f:Int) (w:World) (K:KT) (Y0:YT):f100_s2 a b c d e f w K Y0=(Y0 (Env.mk 21 [(0,(Value.slice a b c)),(5,(Value.int .i64 (IntKind.wrap .i64 ((f:Int)+1)))),(3,(Value.pointer (some d))),(4,(Value.int .i64 e))] []) w):=by kernel_rfl
theorem f100_s1_eq (b:OA) (c e:Nat) (d:Addr) (a f:Int) (w:World) (K:KT) (Y0:YT):f100_s1 b c e d a f w K Y0=(optS b (fun j=>0≤(a:Int)∧(a:Int) < (c:Nat)∧LdA 2 (j.add (Int.toNat a * 2)) w.drew (fun g=>LdA 2 d w.drew (fun h=>∃ i:Bool,(∀ wq,(do eqGuard .eql 170 (.tmp 15) (.tmp 16) (Value.agg g) (Value.agg h); binOp .eql 170 (Value.agg g) (Value.agg h):Sem Value).run P wq=.ok (.bool i) wq)∧BIf i (K (Value.int .i64 a) w.drew) (f100_s2 b c e d f a w.drew K Y0))))):=by kernel_rfl
def f100_s3 (a:OA) (b c:Nat) (w:World) (K:KT):Prop:=SG P (cA c100 7) none [4] [4] (f100_kb K) (Env.mk 21 [(0,(VS a b c))] []) w
theorem f100_s3_eq (a:OA) (b c:Nat) (w:World) (K:KT):f100_s3 a b c w K=(∃ d:Int,(∀ wq,Ext w wq→(Builtin.len_ #[62] 3 [(Value.slice a b c)].toArray).run P wq=.ok (.int .i64 d) wq)∧K (Value.int .i64 d) w):=by kernel_rfl
theorem f100_lb0_eq (a:OA) (b c:Nat) (d:Int) (e:Addr) (f:Int) (w:World) (K:KT) (Y0:YT):f100_lb0 a b c d e f w K Y0=(∃ g:Int,(∀ wq,Ext w wq→(Builtin.len_ #[62] 3 [(Value.slice a b c)].toArray).run P wq=.ok (.int .i64 g) wq)∧BIf (decide ((d:Int) < g)) (f100_s1 a b c e d f w K Y0) (f100_s3 a b c w K)):=by kernel_rfl
theorem f100_eq (a:OA) (b c:Nat) (d:Array Value) (w:World) (K:KT):f100 a b c d w K=(NewC d 170 w (fun e f=>LoopE (f100_lp0 K) (Env.mk 21 [(0,(Value.slice a b c)),(5,(Value.int .i64 0)),(3,(Value.pointer (some (Addr.mk e 0 none)))),(4,(Value.int .i64 0))] []) f)):=by kernel_rfl
theorem f100_ok (a:OA) (b c:Nat) (d:Array Value) (w:World) (K:KT) (h:f100 a b c d w K):CallL P 100 [(Value.slice a b c),(Value.agg d)] w K:=okCS c100 Tryz.func100 (by kernel_rfl) (by kernel_rfl) h
noncomputable def c101:Code:=bodyOf Tryz.f101
noncomputable def rs101:List ResultVar:=Tryz.f101.results.toList
abbrev f101_kb (K:KT):Exit→YT:=bodyK P rs101 K
def f101 (a b:Array Value) (w:World) (K:KT):Prop:=CS P c101 none [4] [4] (f101_kb K) (env0 73 [(Value.agg a),(Value.agg b)]) w
abbrev f101_k1 (K:KT):Exit→YT:=kseq P (cA c101 6) (cA c101 7) none [4] [4] (f101_kb K)
def f101_s0 (a:Bool) (b c:Addr) (w:World) (K:KT):Prop:=SG P (cA c101 13) none [3,2] [4] (f101_k1 K) (Env.mk 73 [(23,(VB a)),(3,(VP (some b))),(2,(VP (some c)))] []) w
def f101_s1 (a b:Addr) (w:World) (K:KT):Prop:=SG P (cA c101 7) none [4] [4] (f101_kb K) (Env.mk 73 [(3,(VP (some a))),(2,(VP (some b)))] []) w
abbrev f101_k4 (K:KT):Exit→YT:=kseq P (cA c101 14) (cA c101 15) none [4] [4] (f101_kb K)
def f101_s2 (a:Bool) (b c:Addr) (w:World) (K:KT):Prop:=SG P (cA c101 29) none [3,2] [4] (f101_k4 K) (Env.mk 73 [(45,(VB a)),(3,(VP (some b))),(2,(VP (some c)))] []) w
def f101_s3 (a b:Addr) (w:World) (K:KT):Prop:=SG P (cA c101 15) none [4] [4] (f101_kb K) (Env.mk 73 [(3,(VP (some a))),(2,(VP (some b)))] []) w
def f101_s4 (a b:Addr) (c:Bool) (w:World) (K:KT):Prop:=SG P (cA c101 31) none [4] [4] (f101_kb K) (Env.mk 73 [(3,(VP (some a))),(2,(VP (some b))),(5,(VB c))] []) w
def f101_s5 (a b:Addr) (c d:Bool) (w:World) (K:KT):Prop:=SG P (cA c101 63) none [4] [4] (f101_kb K) (Env.mk 73 [(3,(VP (some a))),(2,(VP (some b))),(6,(VB c)),(5,(VB d))] []) w
def f101_s6 (a:Bool) (w:World) (K:KT):Prop:=SG P (cA c101 127) none [4] [4] (f101_kb K) (Env.mk 73 [(4,(VB a))] []) w
theorem f101_s6_eq (a:Bool) (w:World) (K:KT):f101_s6 a w K=(K (Value.bool a) w):=by kernel_rfl
theorem f101_s5_eq (a b:Addr) (c d:Bool) (w:World) (K:KT):f101_s5 a b c d w K=(BIf d (BIf c (∃ e:Int,w.cell? (b.add 3)=some (.int .i64 e)∧∃ f:Int,w.cell? (a.add 3)=some (.int .i64 f)∧f101_s6 ((e:Int) == f) w K) (f101_s6 false w K)) (f101_s6 false w K)):=by kernel_rfl
theorem f101_s4_eq (a b:Addr) (c:Bool) (w:World) (K:KT):f101_s4 a b c w K=(∃ d:Int,w.cell? a=some (.int .i64 d)∧BIf ((d:Int) == 3) (f101_s5 a b true c w K) (∃ e:Int,w.cell? a=some (.int .i64 e)∧f101_s5 a b ((e:Int) == 4) c w K)):=by kernel_rfl
theorem f101_s3_eq (b a:Addr) (w:World) (K:KT):f101_s3 b a w K=(∃ c:Int,w.cell? a=some (.int .i64 c)∧BIf ((c:Int) == 2) (f101_s4 b a true w K) (∃ d:Int,w.cell? a=some (.int .i64 d)∧f101_s4 b a ((d:Int) == 4) w K)):=by kernel_rfl
theorem f101_s2_eq (a:Bool) (b c:Addr) (w:World) (K:KT):f101_s2 a b c w K=(BIf a (K (Value.bool true) w) (f101_s3 b c w K)):=by kernel_rfl
theorem f101_s1_eq (a b:Addr) (w:World) (K:KT):f101_s1 a b w K=(∃ c:Int,w.cell? a=some (.int .i64 c)∧BIf ((c:Int) == 6) (∃ d:Int,w.cell? (b.add 1)=some (.int .i64 d)∧∃ e:Int,w.cell? (a.add 2)=some (.int .i64 e)∧BIf ((d:Int) == e) (f101_s2 true a b w K) (∃ f:Int,w.cell? b=some (.int .i64 f)∧BIf ((f:Int) == 5) (∃ g:Int,w.cell? (b.add 2)=some (.int .i64 g)∧∃ h:Int,w.cell? (a.add 2)=some (.int .i64 h)∧f101_s2 ((g:Int) == h) a b w K) (f101_s2 false a b w K))) (f101_s2 false a b w K)):=by kernel_rfl
theorem f101_s0_eq (a:Bool) (b c:Addr) (w:World) (K:KT):f101_s0 a b c w K=(BIf a (K (Value.bool true) w) (f101_s1 b c w K)):=by kernel_rfl
theorem f101_eq (d e:Array Value) (w:World) (K:KT):f101 d e w K=(NewC d 72 w (fun b k=>NewC e 72 k (fun c a=>∃ f:Int,a.cell? ((Addr.mk b 0 none).add 1)=some (.int .i64 f)∧∃ g:Int,a.cell? ((Addr.mk c 0 none).add 1)=some (.int .i64 g)∧BIf ((f:Int) == g) (f101_s0 true (Addr.mk c 0 none) (Addr.mk b 0 none) a K) (∃ h:Int,a.cell? (Addr.mk b 0 none)=some (.int .i64 h)∧BIf ((h:Int) == 5) (∃ i:Int,a.cell? ((Addr.mk b 0 none).add 2)=some (.int .i64 i)∧∃ j:Int,a.cell? ((Addr.mk c 0 none).add 1)=some (.int .i64 j)∧f101_s0 ((i:Int) == j) (Addr.mk c 0 none) (Addr.mk b 0 none) a K) (f101_s0 false (Addr.mk c 0 none) (Addr.mk b 0 none) a K))))):=by kernel_rfl
theorem f101_ok (a b:Array Value) (w:World) (K:KT) (h:f101 a b w K):CallL P 101 [(Value.agg a),(Value.agg b)] w K:=okCS c101 Tryz.func101 (by kernel_rfl) (by kernel_rfl) h
end Go.Fx.Tryz
namespace Go.Fx.Mo
def ld (e:Ev):Bool:=e.kind == 2 || e.kind == 23
def sto (e:Ev):Bool:=e.kind == 3 || (e.kind == 22 || e.kind == 4)
def acs (e:Ev):Bool:=ld e || sto e
def has (e:Ev) (b:Int):Bool:=acs e && decide (w64 (w32 (b - e.a)) < e.n)
def accO (e:Ev) (i:Int):Acc:=⟨i,e.th,e.pc,sto e,e.kind == 4⟩
def direct (a b:Ord):Bool:=
 (a.th == b.th || (a.kind == 5 && a.other == b.th)) || ((b.kind == 6 && (a.th == b.other || (a.kind == 5 && a.other == b.other))) ||
  ((a.kind == 2 || a.kind == 4) && (b.kind == 3 || b.kind == 4) && a.obj == b.obj))
end Go.Fx.Mo
namespace Go.Fx.Tryz
open Go Go.Fx Go.Fx.Mo
open Go.Proofs
variable {w0 w:World} {H:HL} {K:KT}
set_option maxRecDepth 20000
theorem loads_ok (h:St w0 w H) (e:Ev) (hK:∀ w',St w0 w' H→K (.bool (ld e)) w'):CallL P 80 [.agg (Evcs e).toArray] w K:=by
 refine f80_ok _ _ _ ?_
 rw [f80_eq]
 refine h.newC fun n1 w1 hn1 h1=>⟨e.kind,by rw [h1.cell (k:=0) rfl]; rfl,?_⟩
 have hk:=hK w1 (h1.tail hn1)
 unfold ld at hk
 cases h2:(e.kind == 2)
 ·rw [BIf_false]
  refine ⟨e.kind,by rw [h1.cell (k:=0) rfl]; rfl,?_⟩
  rw [f80_s0_eq]
  simpa [h2] using hk
 ·rw [BIf_true,f80_s0_eq]
  simpa [h2] using hk
theorem stores_ok (h:St w0 w H) (e:Ev) (hK:∀ w',St w0 w' H→K (.bool (sto e)) w'):CallL P 81 [.agg (Evcs e).toArray] w K:=by
 refine f81_ok _ _ _ ?_
 rw [f81_eq]
 refine h.newC fun n1 w1 hn1 h1=>⟨e.kind,by rw [h1.cell (k:=0) rfl]; rfl,?_⟩
 have hk:=hK w1 (h1.tail hn1)
 unfold sto at hk
 cases h2:(e.kind == 3)
 ·rw [BIf_false]
  refine ⟨e.kind,by rw [h1.cell (k:=0) rfl]; rfl,?_⟩
  cases h3:(e.kind == 22)
  ·rw [BIf_false]
   refine ⟨e.kind,by rw [h1.cell (k:=0) rfl]; rfl,?_⟩
   rw [f81_s0_eq]
   simpa [h2,h3] using hk
  ·rw [BIf_true,f81_s0_eq]
   simpa [h2,h3] using hk
 ·rw [BIf_true,f81_s0_eq]
  simpa [h2] using hk
theorem acs_ok (h:St w0 w H) (e:Ev) (hK:∀ w',St w0 w' H→K (.bool (acs e)) w'):CallL P 50 [.agg (Evcs e).toArray] w K:=by
 refine f50_ok _ _ _ ?_
 rw [f50_eq]
 refine h.newC fun n1 w1 hn1 h1=>h1.ldA (k:=0) (i:=0) rfl (by simp [Evcs_len]) ?_
 refine loads_ok h1 e fun w2 h2=>⟨_,rfl,?_⟩
 have hk:∀ w',St w0 w' ((n1,Cs (Evcs e) 45)::H)→K (.bool (acs e)) w':=fun w' h'=>hK w' (h'.tail hn1)
 unfold acs at hk
 cases hl:ld e
 ·rw [BIf_false]
  refine h2.ldA (k:=0) (i:=0) rfl (by simp [Evcs_len]) ?_
  refine stores_ok h2 e fun w3 h3=>⟨_,rfl,?_⟩
  rw [f50_s0_eq]
  simpa [hl] using hk w3 h3
 ·rw [BIf_true,f50_s0_eq]
  simpa [hl] using hk w2 h2
theorem has_ok (h:St w0 w H) (e:Ev) (b:Int) (hK:∀ w',St w0 w' H→K (.bool (has e b)) w'):CallL P 61 [.agg (Evcs e).toArray,.int .u32 b] w K:=by
 refine f61_ok _ _ _ _ ?_
 rw [f61_eq]
 refine h.newC fun n1 w1 hn1 h1=>h1.ldA (k:=0) (i:=0) rfl (by simp [Evcs_len]) ?_
 refine acs_ok h1 e fun w2 h2=>⟨_,rfl,?_⟩
 have hk:=hK w2 (h2.tail hn1)
 unfold has at hk
 cases hl:acs e
 ·rw [BIf_false,f61_s0_eq]
  simpa [hl] using hk
 ·rw [BIf_true]
  refine ⟨e.a,by rw [add_lit',h2.cell (k:=0) rfl]; rfl,e.n,by rw [add_lit',h2.cell (k:=0) rfl]; rfl,?_⟩
  rw [f61_s0_eq]
  rw [hl,Bool.true_and] at hk
  exact hk
theorem acc_ok (h:St w0 w H) (e:Ev) (i:Int) (hK:∀ w',St w0 w' H→K (.agg (Acccs (accO e i)).toArray) w'):CallL P 62 [.agg (Evcs e).toArray,.int .i64 i] w K:=by
 refine f62_ok _ _ _ _ ?_
 rw [f62_eq,z45]
 refine h.newC fun n2 w3 hn2 h3=>h3.newC fun n4 w5 hn4 h5=>?_
 have hd:=h5.drew
 refine hd.ldA (k:=1) (i:=0) rfl (by simp [Evcs_len]) ?_
 let X:List (Nat × Obj):=(n4,Cs [I64 0,I64 0,.int .u32 0,.bool false,.bool false] 97)::(n2,Cs (Evcs e) 45)::H
 have hX:St w0 w5.drew X:=hd
 have rd:∀ {w':World} {j:Nat} {v:Value},St w0 w' X→(Evcs e)[j]?=some v→w'.cell? ((Addr.mk n2 0 none).add j)=some v:=fun h' hv=>by
  rw [add_lit',Nat.zero_add,h'.cell (k:=1) rfl]; exact hv
 have rd0:∀ {w':World} {v:Value},St w0 w' X→(Evcs e)[0]?=some v→w'.cell? (Addr.mk n2 0 none)=some v:=fun h' hv=>by
  rw [h'.cell (k:=1) rfl]; exact hv
 have call:∀ {w':World} {K':KT},St w0 w' X→(∀ w2,St w0 w2 X→K' (.bool (sto e)) w2)→CallL P 81 [.agg (Evcs e).toArray] w' K':=fun h' hk=>stores_ok h' e hk
 have fin:∀ {w':World},St w0 w' X→∃ cs:Array Value,(∀ wq,(Instr.build 97 [(0,(Value.int .i64 i)),(1,(Value.int .i64 e.th)),(2,(Value.int .u32 e.pc)),(3,(Value.bool (sto e))),(4,(Value.bool (e.kind == 4)))].toArray).run P wq=.ok (Value.agg cs) wq)∧StA 5 (Addr.mk n4 0 none) cs w' (fun w14=>f62_s0 (Addr.mk n4 0 none) w14 K):=by
  intro w' h'
  refine ⟨_,fun wq=>build45 _ _ _ _ _ wq,?_⟩
  refine St.stA (H:=X) h' (k:=0) rfl rfl (by simp) (Acccs_one _) fun w14 h14=>?_
  have h14:St w0 w14 ((n4,Cs (Acccs (accO e i)) 97)::(n2,Cs (Evcs e) 45)::H):=h14
  rw [f62_s0_eq]
  refine h14.ldA (k:=0) (i:=0) rfl (by simp [Acccs_len]) ?_
  exact hK w14 ((h14.tail hn4).tail hn2)
 clear hd h5 h3 h
 repeat' first
  | exact fin (by assumption)
  | refine call (by assumption) fun w' h'=>⟨_,rfl,?_⟩
  | refine ⟨_,rd (by assumption) rfl,?_⟩
  | refine ⟨_,rd0 (by assumption) rfl,?_⟩
  | refine ⟨?_,?_⟩
theorem direct_ok (h:St w0 w H) (a b:Ord) (hK:∀ w',St w0 w' H→K (.bool (direct a b)) w'):CallL P 101 [.agg (Ordcs a).toArray,.agg (Ordcs b).toArray] w K:=by
 refine f101_ok _ _ _ _ ?_
 rw [f101_eq]
 refine h.newC fun n2 w3 hn2 h3=>h3.newC fun n4 w5 hn4 h5=>?_
 have hk:=hK w5 ((h5.tail hn4).tail hn2)
 have ra:∀ {j:Nat} {v:Value},(Ordcs a)[j]?=some v→w5.cell? ((Addr.mk n2 0 none).add j)=some v:=fun hv=>by
  rw [add_lit',Nat.zero_add,h5.cell (k:=1) rfl]; exact hv
 have rb:∀ {j:Nat} {v:Value},(Ordcs b)[j]?=some v→w5.cell? ((Addr.mk n4 0 none).add j)=some v:=fun hv=>by
  rw [add_lit',Nat.zero_add,h5.cell (k:=0) rfl]; exact hv
 have ra0:∀ {v:Value},(Ordcs a)[0]?=some v→w5.cell? (Addr.mk n2 0 none)=some v:=fun hv=>by
  rw [h5.cell (k:=1) rfl]; exact hv
 have rb0:∀ {v:Value},(Ordcs b)[0]?=some v→w5.cell? (Addr.mk n4 0 none)=some v:=fun hv=>by
  rw [h5.cell (k:=0) rfl]; exact hv
 unfold direct at hk
 have e5:∀ r q,r=(a.kind == 2 || a.kind == 4)→q=(b.kind == 3 || b.kind == 4)→(r && q && (a.obj == b.obj))=true∨True→K (.bool (r && q && (a.obj == b.obj))) w5→f101_s5 (Addr.mk n4 0 none) (Addr.mk n2 0 none) q r w5 K:=by
  intro r q _ _ _ hk
  rw [f101_s5_eq]
  cases r
  ·rw [BIf_false,f101_s6_eq]; simpa using hk
  ·rw [BIf_true]
   cases q
   ·rw [BIf_false,f101_s6_eq]; simpa using hk
   ·rw [BIf_true]
    refine ⟨_,ra rfl,_,rb rfl,?_⟩
    rw [f101_s6_eq]; simpa using hk
 have e4:∀ r,r=(a.kind == 2 || a.kind == 4)→K (.bool (r && (b.kind == 3 || b.kind == 4) && (a.obj == b.obj))) w5→f101_s4 (Addr.mk n4 0 none) (Addr.mk n2 0 none) r w5 K:=by
  intro r hr hk
  rw [f101_s4_eq]
  refine ⟨_,rb0 rfl,?_⟩
  cases h3:(b.kind == 3)
  ·rw [BIf_false]
   refine ⟨_,rb0 rfl,?_⟩
   refine e5 r _ hr (by simp [h3]) (.inr trivial) ?_
   simpa [h3] using hk
  ·rw [BIf_true]
   refine e5 r true hr (by simp [h3]) (.inr trivial) ?_
   simpa [h3] using hk
 have e3:K (.bool ((a.kind == 2 || a.kind == 4) && (b.kind == 3 || b.kind == 4) && (a.obj == b.obj))) w5→f101_s3 (Addr.mk n4 0 none) (Addr.mk n2 0 none) w5 K:=by
  intro hk
  rw [f101_s3_eq]
  refine ⟨_,ra0 rfl,?_⟩
  cases h3:(a.kind == 2)
  ·rw [BIf_false]
   refine ⟨_,ra0 rfl,?_⟩
   refine e4 _ (by simp [h3]) ?_
   simpa [h3] using hk
  ·rw [BIf_true]
   refine e4 _ (by simp [h3]) ?_
   simpa [h3] using hk
 have e2:∀ r,K (.bool (r || ((a.kind == 2 || a.kind == 4) && (b.kind == 3 || b.kind == 4) && (a.obj == b.obj)))) w5→f101_s2 r (Addr.mk n4 0 none) (Addr.mk n2 0 none) w5 K:=by
  intro r hk
  rw [f101_s2_eq]
  cases r
  ·rw [BIf_false]; exact e3 (by simpa using hk)
  ·rw [BIf_true]; simpa using hk
 have e1:K (.bool ((b.kind == 6 && (a.th == b.other || (a.kind == 5 && a.other == b.other))) || ((a.kind == 2 || a.kind == 4) && (b.kind == 3 || b.kind == 4) && (a.obj == b.obj)))) w5→f101_s1 (Addr.mk n4 0 none) (Addr.mk n2 0 none) w5 K:=by
  intro hk
  rw [f101_s1_eq]
  refine ⟨_,rb0 rfl,?_⟩
  cases h6:(b.kind == 6)
  ·rw [BIf_false]; exact e2 _ (by simpa [h6] using hk)
  ·rw [BIf_true]
   refine ⟨_,ra rfl,_,rb rfl,?_⟩
   cases h7:(a.th == b.other)
   ·rw [BIf_false]
    refine ⟨_,ra0 rfl,?_⟩
    cases h8:(a.kind == 5)
    ·rw [BIf_false]; exact e2 _ (by simpa [h6,h7,h8] using hk)
    ·rw [BIf_true]
     refine ⟨_,ra rfl,_,rb rfl,?_⟩
     exact e2 _ (by simpa [h6,h7,h8] using hk)
   ·rw [BIf_true]; exact e2 _ (by simpa [h6,h7] using hk)
 have e0:∀ r,K (.bool (r || ((b.kind == 6 && (a.th == b.other || (a.kind == 5 && a.other == b.other))) || ((a.kind == 2 || a.kind == 4) && (b.kind == 3 || b.kind == 4) && (a.obj == b.obj))))) w5→f101_s0 r (Addr.mk n4 0 none) (Addr.mk n2 0 none) w5 K:=by
  intro r hk
  rw [f101_s0_eq]
  cases r
  ·rw [BIf_false]; exact e1 (by simpa using hk)
  ·rw [BIf_true]; simpa using hk
 refine ⟨_,ra rfl,_,rb rfl,?_⟩
 cases h1:(a.th == b.th)
 ·rw [BIf_false]
  refine ⟨_,ra0 rfl,?_⟩
  cases h2:(a.kind == 5)
  ·rw [BIf_false]; exact e0 _ (by simpa [h1,h2] using hk)
  ·rw [BIf_true]
   refine ⟨_,ra rfl,_,rb rfl,?_⟩
   exact e0 _ (by simpa [h1,h2] using hk)
 ·rw [BIf_true]; exact e0 _ (by simpa [h1] using hk)
end Go.Fx.Tryz
namespace Go.Fx.Tryz
set_option maxRecDepth 100000
open Go Go.Fx Go.Proofs
noncomputable def c83:Code:=bodyOf Tryz.f83
noncomputable def rs83:List ResultVar:=Tryz.f83.results.toList
abbrev f83_kb (K:KT):Exit→YT:=bodyK P rs83 K
def f83 (a:Array Value) (w:World) (K:KT):Prop:=CS P c83 none [2] [2] (f83_kb K) (env0 45 [(Value.agg a)]) w
abbrev f83_k1 (K:KT):Exit→YT:=kseq P (cA c83 6) (cA c83 7) none [2] [2] (f83_kb K)
def f83_s0 (a:Bool) (b:Addr) (w:World) (K:KT):Prop:=SG P (cA c83 13) none [1] [2] (f83_k1 K) (Env.mk 45 [(20,(VB a)),(1,(VP (some b)))] []) w
def f83_s1 (a:Addr) (w:World) (K:KT):Prop:=SG P (cA c83 7) none [2] [2] (f83_kb K) (Env.mk 45 [(1,(VP (some a)))] []) w
abbrev f83_k4 (K:KT):Exit→YT:=kseq P (cA c83 14) (cA c83 15) none [2] [2] (f83_kb K)
def f83_s2 (a:Bool) (w:World) (K:KT):Prop:=SG P (cA c83 117) none [1] [2] (f83_k4 K) (Env.mk 45 [(2,(VB a))] []) w
theorem f83_s2_eq (a:Bool) (w:World) (K:KT):f83_s2 a w K=(K (Value.bool a) w):=by kernel_rfl
def f83_s3 (a:Addr) (w:World) (K:KT):Prop:=SG P (cA c83 15) none [2] [2] (f83_kb K) (Env.mk 45 [(1,(VP (some a)))] []) w
def f83_s4 (a:Bool) (w:World) (K:KT):Prop:=SG P (cA c83 31) none [2] [2] (f83_kb K) (Env.mk 45 [(2,(VB a))] []) w
theorem f83_s4_eq (a:Bool) (w:World) (K:KT):f83_s4 a w K=(K (Value.bool a) w):=by kernel_rfl
theorem f83_s3_eq (b:Addr) (w:World) (K:KT):f83_s3 b w K=(LdA 6 b w (fun f=>CallL P 50 [(Value.agg f)] w (fun g a=>∃ c:Bool,g=(.bool c)∧BIf (!c) (f83_s4 true a K) (∃ d:Int,a.cell? (b.add 5)=some (.int .i64 d)∧BIf (decide ((d:Int)≥0)) (∃ e:Int,a.cell? (b.add 5)=some (.int .i64 e)∧f83_s4 (decide ((e:Int)≤65536)) a K) (f83_s4 false a K))))):=by kernel_rfl
theorem f83_s1_eq (a:Addr) (w:World) (K:KT):f83_s1 a w K=(∃ b:Int,w.cell? a=some (.int .i64 b)∧BIf ((b:Int) == 4) (∃ c:Int,w.cell? (a.add 5)=some (.int .i64 c)∧BIf (decide ((c:Int)≥1)) (∃ d:Int,w.cell? (a.add 5)=some (.int .i64 d)∧f83_s2 (decide ((d:Int)≤16)) w K) (f83_s2 false w K)) (f83_s3 a w K)):=by kernel_rfl
theorem f83_s0_eq (a:Bool) (b:Addr) (w:World) (K:KT):f83_s0 a b w K=(BIf a (K (Value.bool false) w) (f83_s1 b w K)):=by kernel_rfl
theorem f83_eq (c:Array Value) (w:World) (K:KT):f83 c w K=(NewC c 45 w (fun a b=>∃ d:Int,b.cell? (Addr.mk a 0 none)=some (.int .i64 d)∧BIf (decide ((d:Int) < 1)) (f83_s0 true (Addr.mk a 0 none) b K) (∃ e:Int,b.cell? (Addr.mk a 0 none)=some (.int .i64 e)∧BIf (decide ((e:Int) > 24)) (f83_s0 true (Addr.mk a 0 none) b K) (∃ f:Int,b.cell? ((Addr.mk a 0 none).add 1)=some (.int .i64 f)∧BIf (decide ((f:Int) < 0)) (f83_s0 true (Addr.mk a 0 none) b K) (∃ g:Int,b.cell? ((Addr.mk a 0 none).add 1)=some (.int .i64 g)∧f83_s0 (decide ((g:Int)≥8)) (Addr.mk a 0 none) b K))))):=by kernel_rfl
theorem f83_ok (a:Array Value) (w:World) (K:KT) (h:f83 a w K):CallL P 83 [(Value.agg a)] w K:=okCS c83 Tryz.func83 (by kernel_rfl) (by kernel_rfl) h
noncomputable def c84:Code:=bodyOf Tryz.f84
noncomputable def rs84:List ResultVar:=Tryz.f84.results.toList
abbrev f84_kb (K:KT):Exit→YT:=bodyK P rs84 K
def f84 (a:Array Value) (w:World) (K:KT):Prop:=CS P c84 none [2] [2] (f84_kb K) (env0 38 [(Value.agg a)]) w
def f84_s0 (a:Array Value) (w:World) (K:KT):Prop:=CS P (cA c84 1) none [2] [2] (f84_kb K) (Env.mk 38 [(0,(Value.agg a))] []) w
abbrev f84_k0 (K:KT):Exit→YT:=kseq P (cA c84 2) (cA c84 3) none [2] [2] (f84_kb K)
def f84_s1 (a:OA) (b c:Nat) (d:Addr) (e:Array Value) (w:World) (K:KT):Prop:=CS P (cA c84 3) none [2] [2] (f84_kb K) (Env.mk 38 [(2,(VS a b c)),(1,(VP (some d))),(0,(Value.agg e))] []) w
abbrev f84_k1 (K:KT):Exit→YT:=kseq P (cA c84 6) (cA c84 7) none [2] [2] (f84_kb K)
def f84_s2 (a:OA) (b c:Nat) (d:OA) (e f:Nat) (g:OA) (h i:Nat) (j:Addr) (k:Array Value) (w:World) (K:KT):Prop:=CS P (cA c84 7) none [2] [2] (f84_kb K) (Env.mk 38 [(3,(VS a b c)),(6,(VS d e f)),(2,(VS g h i)),(1,(VP (some j))),(0,(Value.agg k))] []) w
abbrev f84_k2 (K:KT):Exit→YT:=kseq P (cA c84 14) (cA c84 15) none [2] [2] (f84_kb K)
abbrev f84_k3 (K:KT):Exit→YT:=kseq P (cA c84 28) (cA c84 29) none [3] [2] (f84_k2 K)
def f84_s3 (a:Int) (b:OA) (c d:Nat) (e:OA) (f g:Nat) (h:OA) (i j:Nat) (k:Addr) (l:Array Value) (w:World) (K:KT):Prop:=CS P (cA c84 29) none [3] [2] (f84_k2 K) (Env.mk 38 [(4,(VI a)),(3,(VS b c d)),(6,(VS e f g)),(2,(VS h i j)),(1,(VP (some k))),(0,(Value.agg l))] []) w
abbrev f84_k4 (K:KT):Exit→YT:=kblock 0 (f84_k2 K)
def f84_lp4 (K:KT) (Y4:YT) (e:Env) (w:World):Prop:=Join (fun e w=>CS P (cA c84 116) none [4,3,1,2] [2,3] (kloop [4,3,1,2] Y4 (f84_k4 K)) e w) e w
abbrev f84_kl4 (K:KT) (Y4:YT):Exit→YT:=kloop [4,3,1,2] Y4 (f84_k4 K)
def f84_lb4 (a:Int) (b:OA) (c d:Nat) (f:Addr) (g:OA) (h i:Nat) (w:World) (K:KT) (Y4:YT):Prop:=SG P (cA c84 116) none [4,3,1,2] [2,3] (f84_kl4 K Y4) (Env.mk 38 [(4,(VI a)),(3,(VS b c d)),(1,(VP (some f))),(2,(VS g h i))] []) w
abbrev f84_k5 (K:KT) (Y4:YT):Exit→YT:=kseq P (cA c84 232) (cA c84 233) none [4,3,1,2] [2,3] (f84_kl4 K Y4)
abbrev f84_k6 (K:KT) (Y4:YT):Exit→YT:=kseq P (cA c84 464) (cA c84 465) none [1,2,4,3] [2,3] (f84_k5 K Y4)
def f84_s5 (a:Addr) (b:OA) (c d:Nat) (f:Int) (g:OA) (h i:Nat) (w:World) (K:KT) (Y4:YT):Prop:=SG P (cA c84 233) none [4,3,1,2] [2,3] (f84_kl4 K Y4) (Env.mk 38 [(1,(VP (some a))),(2,(VS b c d)),(4,(VI f)),(3,(VS g h i))] []) w
abbrev f84_k7 (K:KT) (Y4:YT):Exit→YT:=kseq P (cA c84 466) (cA c84 467) none [4,3,1,2] [2,3] (f84_kl4 K Y4)
abbrev f84_k8 (K:KT) (Y4:YT):Exit→YT:=kblock 1 (f84_k7 K Y4)
abbrev f84_k9 (K:KT) (Y4:YT):Exit→YT:=kseq P (cA c84 1864) (cA c84 1865) none [3,1,2,4] [2,3,1,4] (f84_k8 K Y4)
def f84_s6 (a:Bool) (b:Addr) (c:OA) (d f:Nat) (g:Int) (h:Addr) (i:OA) (j k:Nat) (w:World) (K:KT) (Y4:YT):Prop:=SG P (cA c84 3731) none [3,1,2,4] [2,3,1,4] (f84_k8 K Y4) (Env.mk 38 [(32,(VB a)),(1,(VP (some b))),(2,(VS c d f)),(4,(VI g)),(5,(VP (some h))),(3,(VS i j k))] []) w
def f84_s7 (a:OA) (b c:Nat) (d:Addr) (f:OA) (g h:Nat) (i:Int) (w:World) (K:KT) (Y4:YT):Prop:=SG P (cA c84 467) none [4,3,1,2] [2,3] (f84_kl4 K Y4) (Env.mk 38 [(3,(VS a b c)),(1,(VP (some d))),(2,(VS f g h)),(4,(VI i))] []) w
theorem f84_s7_eq (a:OA) (c d:Nat) (e:Addr) (f:OA) (g h:Nat) (i:Int) (w:World) (K:KT) (Y4:YT):f84_s7 a c d e f g h i w K Y4=(Y4 (Env.mk 38 [(4,(Value.int .i64 (IntKind.wrap .i64 ((i:Int)+1)))),(3,(Value.slice a c d)),(1,(Value.pointer (some e))),(2,(Value.slice f g h))] []) w):=Eq.trans SGe (by kernel_rfl)
theorem f84_s6_eq (j:Bool) (a:Addr) (c:OA) (d e:Nat) (f:Int) (k:Addr) (g:OA) (h i:Nat) (w:World) (K:KT) (Y4:YT):f84_s6 j a c d e f k g h i w K Y4=(BIf j (LdA 2 k w (fun l=>sizesAre 2 [(Value.agg l)]∧NewC (([(Value.agg l)].map fun (v:Value)=>v.cells.toList).flatten.toArray) 170 w (fun q r=>∃ (m:OA) (n o:Nat),∃ p:World,(Builtin.append_ #[62,62] 62 [(Value.slice g h i),(Value.slice (some (Addr.mk q 0 none)) 1 1)].toArray).run P r=.ok (.slice m n o) p∧f84_s7 m n o a c d e f p K Y4))) (f84_s7 g h i a c d e f w K Y4)):=Eq.trans SGe (by kernel_rfl)
theorem f84_s5_eq (f:Addr) (h:OA) (i j:Nat) (g:Int) (c:OA) (d e:Nat) (w:World) (K:KT) (Y4:YT):f84_s5 f h i j g c d e w K Y4=(∃ n:Int,w.cell? (f.add 3)=some (.int .u32 n)∧(4:Int)≠0∧∃ o:Array Value,(∀ wq,(Instr.build 170 [(0,(Value.bool true)),(1,(Value.int .u32 (IntKind.wrap .u32 (((IntKind.wrap .u32 ((n:Int)+(IntKind.wrap .u32 g))):Int).tdiv 4))))].toArray).run P wq=.ok (.agg o) wq)∧NewC (zcells P 170) 170 w (fun l t=>StA 2 (Addr.mk l 0 none) o t (fun k=>∃ p:Int,(∀ wq,Ext k.drew wq→(Builtin.len_ #[62] 3 [(Value.slice c d e)].toArray).run P wq=.ok (.int .i64 p) wq)∧BIf ((p:Int) == 0) (f84_s6 true f h i j g (Addr.mk l 0 none) c d e k.drew K Y4) (∃ m:Int,(∀ wq,Ext k.drew wq→(Builtin.len_ #[62] 3 [(Value.slice c d e)].toArray).run P wq=.ok (.int .i64 m) wq)∧optS c (fun u=>0≤((IntKind.wrap .i64 ((m:Int) - 1)):Int)∧((IntKind.wrap .i64 ((m:Int) - 1)):Int) < (d:Nat)∧LdA 2 (u.add (Int.toNat (IntKind.wrap .i64 ((m:Int) - 1)) * 2)) k.drew (fun q=>LdA 2 (Addr.mk l 0 none) k.drew (fun r=>∃ s:Bool,(∀ wq,(do eqGuard .neq 170 (.tmp 29) (.tmp 30) (Value.agg q) (Value.agg r); binOp .neq 170 (Value.agg q) (Value.agg r):Sem Value).run P wq=.ok (.bool s) wq)∧f84_s6 s f h i j g (Addr.mk l 0 none) c d e k.drew K Y4))))))):=Eq.trans SGe (Eq.trans (CSs [3,1,2,4] (f84_k7 K Y4) (by kernel_rfl)) (Eq.trans (CSb 1 [2,3,1,4] (f84_k8 K Y4) (by kernel_rfl)) (Eq.trans (CSs [1,2,4,5,3] (f84_k9 K Y4) (by kernel_rfl)) (by kernel_rfl))))
def f84_s8 (a:OA) (b c:Nat) (w:World) (K:KT):Prop:=SG P (cA c84 15) none [2] [2] (f84_kb K) (Env.mk 38 [(3,(VS a b c))] []) w
abbrev f84_k11 (K:KT):Exit→YT:=kseq P (cA c84 30) (cA c84 31) none [2] [2] (f84_kb K)
theorem f84_s8_eq (c:OA) (d e:Nat) (w:World) (K:KT):f84_s8 c d e w K=(K (Value.slice c d e) w):=Eq.trans SGe (Eq.trans (CSs [2] (f84_k11 K) (by kernel_rfl)) (by kernel_rfl))
theorem f84_lb4_eq (c:Int) (d:OA) (e f:Nat) (g:Addr) (h:OA) (i j:Nat) (w:World) (K:KT) (Y4:YT):f84_lb4 c d e f g h i j w K Y4=(∃ k:Int,w.cell? (g.add 5)=some (.int .i64 k)∧BIf (decide ((c:Int) < k)) (f84_s5 g h i j c d e f w K Y4) (f84_s8 d e f w K)):=Eq.trans SGe (Eq.trans (CSs [1,2,4,3] (f84_k5 K Y4) (by kernel_rfl)) (Eq.trans (CSs [10,1,2,4,3] (f84_k6 K Y4) (by kernel_rfl)) (by kernel_rfl)))
theorem f84_s3_eq (a:Int) (c:OA) (d e:Nat) (j:OA) (k l:Nat) (f:OA) (g h:Nat) (i:Addr) (m:Array Value) (w:World) (K:KT):f84_s3 a c d e j k l f g h i m w K=(LoopE (f84_lp4 K) (Env.mk 38 [(4,(Value.int .i64 a)),(3,(Value.slice c d e)),(1,(Value.pointer (some i))),(2,(Value.slice f g h))] []) w):=Eq.trans (b:=CS P (cA c84 29) none [3] [2] (f84_k2 K) (Env.mk 38 [(4,(VI a)),(3,(VS c d e)),(6,(VS j k l)),(2,(VS f g h)),(1,(VP (some i))),(0,(Value.agg m))] []) w) (by kernel_rfl) (Eq.trans (CSb 0 [2,3] (f84_k4 K) (by kernel_rfl)) ((CS_loop' (b:=(cA c84 116)) (X':=[2,3]) (H:=[4,3,1,2]) (by kernel_rfl) (by kernel_rfl) (by kernel_rfl)).trans (by kernel_rfl)))
theorem f84_s2_eq (c:OA) (d e:Nat) (f:OA) (g h:Nat) (i:OA) (j k:Nat) (l:Addr) (m:Array Value) (w:World) (K:KT):f84_s2 c d e f g h i j k l m w K=(f84_s3 0 c d e f g h i j k l m w K):=Eq.trans (b:=CS P (cA c84 7) none [2] [2] (f84_kb K) (Env.mk 38 [(3,(VS c d e)),(6,(VS f g h)),(2,(VS i j k)),(1,(VP (some l))),(0,(Value.agg m))] []) w) (by kernel_rfl) (Eq.trans (CSs [3] (f84_k2 K) (by kernel_rfl)) (Eq.trans (CSs [4,3,1,2] (f84_k3 K) (by kernel_rfl)) (by kernel_rfl)))
theorem f84_s1_eq (c:OA) (d e:Nat) (f:Addr) (g:Array Value) (w:World) (K:KT):f84_s1 c d e f g w K=(∃ (h:OA) (i j:Nat),∃ k:World,(Instr.buildSlice 62 0 ([]:List (Nat × Value)).toArray).run P w=.ok (.slice h i j) k∧f84_s2 h i j h i j c d e f g k K):=Eq.trans (b:=CS P (cA c84 3) none [2] [2] (f84_kb K) (Env.mk 38 [(2,(VS c d e)),(1,(VP (some f))),(0,(Value.agg g))] []) w) (by kernel_rfl) (Eq.trans (CSs [3,1,2] (f84_k1 K) (by kernel_rfl)) (by kernel_rfl))
theorem f84_s0_eq (c:Array Value) (w:World) (K:KT):f84_s0 c w K=(NewC c 45 w (fun d e=>f84_s1 none 0 0 (Addr.mk d 0 none) c e K)):=Eq.trans (b:=CS P (cA c84 1) none [2] [2] (f84_kb K) (Env.mk 38 [(0,(Value.agg c))] []) w) (by kernel_rfl) (Eq.trans (CSs [1,2] (f84_k0 K) (by kernel_rfl)) (by kernel_rfl))
theorem f84_eq (a:Array Value) (w:World) (K:KT):f84 a w K=(f84_s0 a w K):=by kernel_rfl
theorem f84_ok (a:Array Value) (w:World) (K:KT) (h:f84 a w K):CallL P 84 [(Value.agg a)] w K:=okCS c84 Tryz.func84 (by kernel_rfl) (by kernel_rfl) h
noncomputable def c85:Code:=bodyOf Tryz.f85
noncomputable def rs85:List ResultVar:=Tryz.f85.results.toList
abbrev f85_kb (K:KT):Exit→YT:=bodyK P rs85 K
def f85 (a:Array Value) (b:Int) (c d:Array Value) (e:Int) (w:World) (K:KT):Prop:=CS P c85 none [10,11] [10,11] (f85_kb K) (env0 41 [(Value.agg a),(VI b),(Value.agg c),(Value.agg d),(VI e)]) w
def f85_s0 (a b:Addr) (c d:Int) (f:Addr) (g:Int) (w:World) (K:KT):Prop:=SG P (cA c85 15) none [10,11] [10,11] (f85_kb K) (Env.mk 41 [(10,(VP (some a))),(5,(VP (some b))),(4,(VI c)),(12,(VI d)),(7,(VP (some f))),(1,(VI g))] []) w
def f85_s1 (a:Addr) (b c:Int) (d:Addr) (f:Int) (g:Addr) (w:World) (K:KT):Prop:=SG P (cA c85 31) none [10,11] [10,11] (f85_kb K) (Env.mk 41 [(10,(VP (some a))),(4,(VI b)),(12,(VI c)),(7,(VP (some d))),(1,(VI f)),(5,(VP (some g)))] []) w
theorem f85_s1_eq (a:Addr) (b c:Int) (d:Addr) (e:Int) (f:Addr) (w:World) (K:KT):f85_s1 a b c d e f w K=(LdA 20 f w (fun l=>∃ g:Int,w.cell? (d.add 1)=some (.int .i64 g)∧∃ h:Array Value,(∀ wq,(Instr.build 72 [(0,(Value.int .i64 e)),(1,(Value.int .i64 g)),(3,(Value.int .i64 c))].toArray).run P wq=.ok (.agg h) wq)∧CallL P 86 [(Value.agg l),(Value.agg h),(Value.int .i64 b)] w (fun m n=>∃ i:Array Value,∃ j:Bool,m=(.tuple [(Value.agg i),(Value.bool j)].toArray)∧StA 20 a i n (fun k=>LdA 20 a k (fun o=>K (Value.tuple [(Value.agg o),(Value.bool j)].toArray) k))))):=by kernel_rfl
theorem f85_s0_eq (a b:Addr) (d c:Int) (e:Addr) (f:Int) (w:World) (K:KT):f85_s0 a b d c e f w K=(BIf (decide ((c:Int)≥65536)) (LdA 20 b w (fun h=>StA 20 a h w (fun g=>LdA 20 a g (fun i=>K (Value.tuple [(Value.agg i),(Value.bool false)].toArray) g)))) (f85_s1 a d c e f b w K)):=by kernel_rfl
theorem f85_eq (g:Array Value) (d:Int) (h i:Array Value) (e:Int) (w:World) (K:KT):f85 g d h i e w K=(NewC g 64 w (fun a d0=>NewC h 45 d0 (fun j e0=>NewC i 170 e0 (fun k f0=>NewC (zcells P 64) 64 f0 (fun l f=>∃ (m:OA) (n o:Nat),f.cell? ((Addr.mk a 0 none).add 2)=some (.slice m n o)∧LdA 2 (Addr.mk k 0 none) f (fun g0=>CallL P 100 [(Value.slice m n o),(Value.agg g0)] f (fun h0 b=>∃ c:Int,h0=(.int .i64 c)∧∃ (p:OA) (q r:Nat),b.cell? ((Addr.mk a 0 none).add 2)=some (.slice p q r)∧∃ s:Int,(∀ wq,Ext b wq→(Builtin.len_ #[62] 3 [(Value.slice p q r)].toArray).run P wq=.ok (.int .i64 s) wq)∧BIf ((c:Int) == s) (∃ (t:OA) (u x:Nat),b.cell? ((Addr.mk a 0 none).add 2)=some (.slice t u x)∧LdA 2 (Addr.mk k 0 none) b (fun y=>sizesAre 2 [(Value.agg y)]∧NewC (([(Value.agg y)].map fun (v:Value)=>v.cells.toList).flatten.toArray) 170 b (fun i0 j0=>∃ (z:OA) (a0 b0:Nat),∃ c0:World,(Builtin.append_ #[62,62] 62 [(Value.slice t u x),(Value.slice (some (Addr.mk i0 0 none)) 1 1)].toArray).run P j0=.ok (.slice z a0 b0) c0∧St1 ((Addr.mk a 0 none).add 2) (Value.slice z a0 b0) c0 (fun l0=>f85_s0 (Addr.mk l 0 none) (Addr.mk a 0 none) e c (Addr.mk j 0 none) d l0 K)))) (f85_s0 (Addr.mk l 0 none) (Addr.mk a 0 none) e c (Addr.mk j 0 none) d b K)))))))):=by kernel_rfl
theorem f85_ok (a:Array Value) (b:Int) (c d:Array Value) (e:Int) (w:World) (K:KT) (h:f85 a b c d e w K):CallL P 85 [(Value.agg a),(Value.int .i64 b),(Value.agg c),(Value.agg d),(Value.int .i64 e)] w K:=okCS c85 Tryz.func85 (by kernel_rfl) (by kernel_rfl) h
end Go.Fx.Tryz
namespace Go.Fx.Mo
structure RR where
 L:List Ord
 of:List Int
 objs:List Ob
 begun:List Bool
 ended:List Bool
 deriving DecidableEq,Inhabited
def rr0:RR:=⟨[],[],[],true::List.replicate 7 false,List.replicate 8 false⟩
def shaped (e:Ev):Bool:=
 if e.kind < 1∨e.kind > 24∨e.th < 0∨e.th≥8 then false else
 if e.kind=4 then decide (e.n≥1) && decide (e.n≤16) else !acs e || (decide (e.n≥0) && decide (e.n≤65536))
def barred (r:RR) (o:Ord):Bool:=
 !getB r.begun o.th || getB r.ended o.th ||
 ((o.kind == 5 || o.kind == 6) && (decide (o.other < 0) || decide (o.other≥8) ||
   ((o.kind == 5 && getB r.begun o.other) || (o.kind == 6 && (!getB r.begun o.other || getB r.ended o.other || o.other == o.th)))))
def rput (r:RR) (o:Ord) (i:Int):Option RR:=
 if barred r o then none else
 some { L:=r.L++[o],of:=r.of++[i],objs:=r.objs,
        begun:=if o.kind=5 then r.begun.set o.other.toNat true else r.begun,ended:=if o.kind=6 then r.ended.set o.other.toNat true else r.ended }
def numb (l:List Ob) (x:Ob):Nat:=l.idxOf x
def come (r:RR) (x:Ob):RR:=if numb r.objs x=r.objs.length then { r with objs:=r.objs++[x] } else r
def rtouch (r:RR) (kind:Int) (e:Ev) (x:Ob) (i:Int):Option RR:=
 if numb r.objs x≥65536 then none else rput (come r x) ⟨kind,e.th,0,numb r.objs x⟩ i
end Go.Fx.Mo
namespace Go.Fx.Tryz
open Go Go.Fx Go.Fx.Mo
open Go.Proofs
variable {w0 w:World} {H:HL} {K:KT}
set_option maxRecDepth 20000
def objsCs (l:List Ob):List Value:=(l.map Obcs).flatten
theorem objs_at {l:List Ob} {i:Nat} (hi:i < l.length):((objsCs l).drop (i * 2)).take 2=Obcs l[i]:=flat_slice (f:=Obcs) (fun x _=>rfl) hi
theorem fieldsOf199 : P.fieldsOf 170 = #[{ name := "Word", type := 4, offset := 0, embedded := false, tag := "", pkgPath := "", byteOffset := 0 }, { name := "At", type := 43, offset := 1, embedded := false, tag := "", pkgPath := "", byteOffset := 4 }] := by kernel_rfl
theorem eq199 (w:World) (x y:Ob):(Op.equal 170 (.agg (Obcs x).toArray) (.agg (Obcs y).toArray)).run P w=.ok (decide (x=y)) w:=by
 obtain ⟨a,x⟩:=x
 obtain ⟨b,y⟩:=y
 unfold Op.equal
 have h4:∀ d,(Op.equalIn (d+1) 4 (.bool a) (.bool b)).run P w=.ok (a == b) w:=fun d=>by simp [Op.equalIn,run_underlying Tryz.underlying4]
 have h33:∀ d,(Op.equalIn (d+1) 43 (.int .u32 x) (.int .u32 y)).run P w=.ok (x == y) w:=fun d=>by simp [Op.equalIn,run_underlying Tryz.underlying43]
 have hm:∃ d,Op.maxDepth=d+2:=⟨_,rfl⟩
 obtain ⟨d,hd⟩:=hm
 rw [hd,run_equalIn_struct w (d+1) 170 _ _ (by rw [fieldsOf199]; exact Tryz.underlying170) Tryz.stoodInHeld170,fieldsOf199]
 have p0:∀ (a:Bool) (x:Int),(part 4 #[.bool a,.int .u32 x] 0).run P w=.ok (.bool a) w:=fun a x=>by kernel_rfl
 have p1:∀ (a:Bool) (x:Int),(part 43 #[.bool a,.int .u32 x] 1).run P w=.ok (.int .u32 x) w:=fun a x=>by kernel_rfl
 simp [Op.eqFields,Obcs,p0,p1,h4,h33]
 by_cases hxy:x=y <;> cases a <;> cases b <;> simp [hxy]
theorem eqop199 (s t:Nat) (w:World) (x y:Ob):(do eqGuard .eql 170 (.tmp s) (.tmp t) (.agg (Obcs x).toArray) (.agg (Obcs y).toArray); binOp .eql 170 (.agg (Obcs x).toArray) (.agg (Obcs y).toArray):Sem Value).run P w=.ok (.bool (decide (x=y))) w:=by
 simp [eqGuard,binOp,eq199,Tryz.eqGuardType170]
theorem neop199 (s t:Nat) (w:World) (x y:Ob):(do eqGuard .neq 170 (.tmp s) (.tmp t) (.agg (Obcs x).toArray) (.agg (Obcs y).toArray); binOp .neq 170 (.agg (Obcs x).toArray) (.agg (Obcs y).toArray):Sem Value).run P w=.ok (.bool (!decide (x=y))) w:=by
 simp [eqGuard,binOp,eq199,Tryz.eqGuardType170]
theorem run_len_110 {p:Option Addr} {l c:Nat} (wq:World):(Builtin.len_ #[62] 3 [Value.slice p l c].toArray).run P wq=.ok (.int .i64 l) wq:=run_len_slice p l c Tryz.underlying62 3
theorem idx_snoc {l:List Ob} {i:Nat} {x:Ob} (hi:i < l.length) (hn:∀ j,(hj:j < i)→l[j]≠x) (he:l[i]=x):l.idxOf x=i:=by
 unfold List.idxOf
 exact (List.findIdx_eq hi).2 ⟨by simp [he],fun j hj=>by simpa using hn j hj⟩
theorem numb_ok {l:List Ob} {ov:Value} (x:Ob) (h:St w0 w H) (hrow:∀ w',St w0 w' H→Row w' 2 ov l.length (objsCs l)) (hl63:l.length < 9223372036854775807)
  (hK:∀ w',St w0 w' H→K (.int .i64 (numb l x:Nat)) w'):CallL P 100 [ov,.agg (Obcs x).toArray] w K:=by
 obtain ⟨sa,sc,hov⟩:=(hrow w h).form
 rw [hov]
 refine f100_ok _ _ _ _ _ _ ?_
 rw [f100_eq]
 refine h.newC fun n2 w3 hn2 h3=>?_
 refine ⟨fun m ee w=>∃ (i:Nat),i≤l.length∧m=l.length - i∧ee=Env.mk 21 [(0,(Value.slice sa l.length sc)),(5,(Value.int .i64 i)),(3,(Value.pointer (some (Addr.mk n2 0 none)))),(4,(Value.int .i64 0))] []∧(∀ j,(hj:j < i)→(hjl:j < l.length)→l[j]≠x)∧St w0 w ((n2,Cs (Obcs x) 170)::H),
  ⟨l.length,0,by omega,rfl,rfl,fun j hj=>by omega,h3⟩,?_⟩
 rintro m ee w ⟨i,hi,rfl,rfl,hn,hw⟩
 show f100_lb0 ..
 rw [f100_lb0_eq]
 refine ⟨l.length,fun wq _=>run_len_110 wq,?_⟩
 rw [BIf_iff]
 constructor
 ·intro hlt
  have hlt:i < l.length:=by simpa using hlt
  rw [f100_s1_eq]
  have hd:=hw.drew
  obtain ⟨a,c,hac,hld⟩:=(hrow _ (hd.tail hn2)).ldA hlt
  rw [hov] at hac
  obtain ⟨hsa,-⟩:sa=some a∧sc=c:=by simpa using hac
  subst hsa
  refine ⟨by omega,by omega,hld _ ?_⟩
  rw [objs_at hlt]
  refine hd.ldA (k:=0) (i:=0) rfl (by simp [Obcs]) ?_
  rw [show ((Obcs x).drop 0).take 2=Obcs x from rfl]
  refine ⟨_,fun wq=>eqop199 15 16 wq l[i] x,?_⟩
  by_cases he:l[i]=x
  ·rw [decide_eq_true he,BIf_true]
   have:=hK _ (hd.tail hn2)
   rw [show numb l x=i from idx_snoc hlt (fun j hj=>hn j hj (by omega)) he] at this
   exact this
  ·rw [decide_eq_false he,BIf_false,f100_s2_eq]
   refine ⟨l.length - (i+1),by omega,i+1,by omega,rfl,?_,fun j hj hjl=>?_,hd⟩
   ·rw [wrap_i64 (by omega) (by omega)]; rfl
   ·rcases Nat.lt_or_ge j i with h | h
    ·exact hn j h hjl
    ·have:j=i:=by omega
     subst this; exact he
 ·intro hge
  have hge:l.length≤i:=by simpa using hge
  rw [f100_s3_eq]
  refine ⟨l.length,fun wq _=>run_len_110 wq,?_⟩
  have hni:x ∉ l:=by
   intro hx
   obtain ⟨j,hj,he⟩:=List.getElem_of_mem hx
   exact hn j (by omega) hj he
  have:=hK w (hw.tail hn2)
  rw [show numb l x=l.length from List.idxOf_eq_length hni] at this
  exact this
theorem shaped_ok (h:St w0 w H) (e:Ev) (hK:∀ w',St w0 w' H→K (.bool (shaped e)) w'):CallL P 83 [.agg (Evcs e).toArray] w K:=by
 refine f83_ok _ _ _ ?_
 rw [f83_eq]
 refine h.newC fun n1 w1 hn1 h1=>?_
 have rd:∀ {w':World} {j:Nat} {v:Value},St w0 w' ((n1,Cs (Evcs e) 45)::H)→(Evcs e)[j]?=some v→w'.cell? ((Addr.mk n1 0 none).add j)=some v:=fun h' hv=>by
  rw [add_lit',Nat.zero_add,h'.cell (k:=0) rfl]; exact hv
 have rd0:∀ {w':World} {v:Value},St w0 w' ((n1,Cs (Evcs e) 45)::H)→(Evcs e)[0]?=some v→w'.cell? (Addr.mk n1 0 none)=some v:=fun h' hv=>by
  rw [h'.cell (k:=0) rfl]; exact hv
 have hk:∀ w',St w0 w' ((n1,Cs (Evcs e) 45)::H)→K (.bool (shaped e)) w':=fun w' h'=>hK w' (h'.tail hn1)
 have out:e.kind < 1∨e.kind > 24∨e.th < 0∨e.th≥8→f83_s0 true (Addr.mk n1 0 none) w1 K:=by
  intro ho
  rw [f83_s0_eq,BIf_true]
  have:=hk w1 h1
  unfold shaped at this
  rw [if_pos ho] at this
  exact this
 refine ⟨e.kind,rd0 h1 rfl,?_⟩
 rw [BIf_iff]
 refine ⟨fun hb=>out (.inl (by simpa using hb)),fun hb1=>⟨e.kind,rd0 h1 rfl,?_⟩⟩
 rw [BIf_iff]
 refine ⟨fun hb=>out (.inr (.inl (by simpa using hb))),fun hb2=>⟨e.th,rd h1 rfl,?_⟩⟩
 rw [BIf_iff]
 refine ⟨fun hb=>out (.inr (.inr (.inl (by simpa using hb)))),fun hb3=>⟨e.th,rd h1 rfl,?_⟩⟩
 cases hb4:decide (e.th≥8)
 ·have hin:¬ (e.kind < 1∨e.kind > 24∨e.th < 0∨e.th≥8):=by simp at hb1 hb2 hb3 hb4; omega
  rw [f83_s0_eq,BIf_false,f83_s1_eq]
  refine ⟨e.kind,rd0 h1 rfl,?_⟩
  unfold shaped at hk
  simp only [if_neg hin] at hk
  cases h4:(e.kind == 4)
  ·rw [BIf_false,f83_s3_eq]
   have h4:¬ e.kind=4:=by simpa using h4
   simp only [if_neg h4] at hk
   refine h1.ldA (k:=0) (i:=0) rfl (by simp [Evcs_len]) ?_
   refine acs_ok h1 e fun w2 h2=>⟨_,rfl,?_⟩
   cases ha:acs e
   ·rw [Bool.not_false,BIf_true,f83_s4_eq]
    simpa [ha] using hk w2 h2
   ·rw [Bool.not_true,BIf_false]
    refine ⟨e.n,rd h2 rfl,?_⟩
    cases h5:decide (e.n≥0)
    ·rw [BIf_false,f83_s4_eq]
     have:=hk w2 h2
     rw [ha,h5] at this
     exact this
    ·rw [BIf_true]
     refine ⟨e.n,rd h2 rfl,?_⟩
     rw [f83_s4_eq]
     have:=hk w2 h2
     rw [ha,h5] at this
     exact this
  ·rw [BIf_true]
   have h4:e.kind=4:=by simpa using h4
   simp only [if_pos h4] at hk
   refine ⟨e.n,rd h1 rfl,?_⟩
   cases h5:decide (e.n≥1)
   ·rw [BIf_false,f83_s2_eq]
    have:=hk w1 h1
    rw [h5] at this
    exact this
   ·rw [BIf_true]
    refine ⟨e.n,rd h1 rfl,?_⟩
    rw [f83_s2_eq]
    have:=hk w1 h1
    rw [h5] at this
    exact this
 ·exact out (.inr (.inr (.inr (by simpa using hb4))))
end Go.Fx.Tryz
namespace Go.Fx.Tryz
set_option maxRecDepth 100000
open Go Go.Fx Go.Proofs
noncomputable def c86:Code:=bodyOf Tryz.f86
noncomputable def rs86:List ResultVar:=Tryz.f86.results.toList
abbrev f86_kb (K:KT):Exit→YT:=bodyK P rs86 K
def f86 (a b:Array Value) (c:Int) (w:World) (K:KT):Prop:=CS P c86 none [6,7] [6,7] (f86_kb K) (env0 101 [(Value.agg a),(Value.agg b),(VI c)]) w
abbrev f86_k1 (K:KT):Exit→YT:=kseq P (cA c86 6) (cA c86 7) none [6,7] [6,7] (f86_kb K)
def f86_s0 (a:Bool) (b c:Addr) (d:Int) (f:Addr) (w:World) (K:KT):Prop:=SG P (cA c86 13) none [6,3,2,4] [6,7] (f86_k1 K) (Env.mk 101 [(22,(VB a)),(6,(VP (some b))),(3,(VP (some c))),(2,(VI d)),(4,(VP (some f)))] []) w
def f86_s1 (a b:Addr) (c:Int) (d:Addr) (w:World) (K:KT):Prop:=SG P (cA c86 7) none [6,7] [6,7] (f86_kb K) (Env.mk 101 [(6,(VP (some a))),(3,(VP (some b))),(2,(VI c)),(4,(VP (some d)))] []) w
abbrev f86_k4 (K:KT):Exit→YT:=kseq P (cA c86 14) (cA c86 15) none [6,7] [6,7] (f86_kb K)
abbrev f86_k5 (K:KT):Exit→YT:=kseq P (cA c86 28) (cA c86 29) none [6,3,2,4] [6,7] (f86_k4 K)
def f86_s2 (a:Bool) (b c:Addr) (d:Int) (f:Addr) (w:World) (K:KT):Prop:=SG P (cA c86 29) none [6,3,2,4] [6,7] (f86_k4 K) (Env.mk 101 [(31,(VB a)),(6,(VP (some b))),(3,(VP (some c))),(2,(VI d)),(4,(VP (some f)))] []) w
abbrev f86_k6 (K:KT):Exit→YT:=kseq P (cA c86 116) (cA c86 117) none [6,3,2,4] [6,7] (f86_k4 K)
def f86_s3 (a:Bool) (b c:Addr) (d:Int) (f:Addr) (w:World) (K:KT):Prop:=SG P (cA c86 233) none [6,3,2,4] [6,7] (f86_k6 K) (Env.mk 101 [(39,(VB a)),(6,(VP (some b))),(3,(VP (some c))),(2,(VI d)),(4,(VP (some f)))] []) w
def f86_s4 (a b:Addr) (c:Int) (d:Addr) (w:World) (K:KT):Prop:=SG P (cA c86 117) none [6,3,2,4] [6,7] (f86_k4 K) (Env.mk 101 [(6,(VP (some a))),(3,(VP (some b))),(2,(VI c)),(4,(VP (some d)))] []) w
abbrev f86_k9 (K:KT):Exit→YT:=kseq P (cA c86 234) (cA c86 235) none [6,3,2,4] [6,7] (f86_k4 K)
abbrev f86_k10 (K:KT):Exit→YT:=kseq P (cA c86 470) (cA c86 471) none [6,3,2,4] [6,7] (f86_k4 K)
def f86_s5 (a:Bool) (b c:Addr) (d:Int) (f:Addr) (w:World) (K:KT):Prop:=SG P (cA c86 941) none [6,3,2,4] [6,7] (f86_k10 K) (Env.mk 101 [(75,(VB a)),(6,(VP (some b))),(3,(VP (some c))),(2,(VI d)),(4,(VP (some f)))] []) w
def f86_s6 (a b:Addr) (c:Int) (d:Addr) (w:World) (K:KT):Prop:=SG P (cA c86 471) none [6,3,2,4] [6,7] (f86_k4 K) (Env.mk 101 [(6,(VP (some a))),(3,(VP (some b))),(2,(VI c)),(4,(VP (some d)))] []) w
abbrev f86_k13 (K:KT):Exit→YT:=kseq P (cA c86 942) (cA c86 943) none [6,3,2,4] [6,7] (f86_k4 K)
def f86_s7 (a b:Addr) (c:Int) (d:Addr) (w:World) (K:KT):Prop:=SG P (cA c86 15) none [6,7] [6,7] (f86_kb K) (Env.mk 101 [(6,(VP (some a))),(3,(VP (some b))),(2,(VI c)),(4,(VP (some d)))] []) w
abbrev f86_k14 (K:KT):Exit→YT:=kseq P (cA c86 30) (cA c86 31) none [6,7] [6,7] (f86_kb K)
theorem f86_s7_eq (d c:Addr) (e:Int) (f:Addr) (w:World) (K:KT):f86_s7 d c e f w K=(∃ (g:OA) (h i:Nat),w.cell? c=some (.slice g h i)∧LdA 4 f w (fun j=>sizesAre 4 [(Value.agg j)]∧NewC (([(Value.agg j)].map fun (v:Value)=>v.cells.toList).flatten.toArray) 72 w (fun a0 b0=>∃ (k:OA) (l m:Nat),∃ n:World,(Builtin.append_ #[60,60] 60 [(Value.slice g h i),(Value.slice (some (Addr.mk a0 0 none)) 1 1)].toArray).run P b0=.ok (.slice k l m) n∧St1 c (Value.slice k l m) n (fun o=>∃ (p:OA) (q r:Nat),o.cell? (c.add 1)=some (.slice p q r)∧sizesAre 1 [(Value.int .i64 e)]∧NewC (([(Value.int .i64 e)].map fun (v:Value)=>v.cells.toList).flatten.toArray) 3 o (fun c0 d0=>∃ (s:OA) (t u:Nat),∃ x:World,(Builtin.append_ #[61,61] 61 [(Value.slice p q r),(Value.slice (some (Addr.mk c0 0 none)) 1 1)].toArray).run P d0=.ok (.slice s t u) x∧St1 (c.add 1) (Value.slice s t u) x (fun y=>LdA 20 c y (fun e0=>StA 20 d e0 y (fun z=>LdA 20 d z (fun f0=>K (Value.tuple [(Value.agg f0),(Value.bool true)].toArray) z))))))))):=Eq.trans SGe (Eq.trans (CSs [6,3,2] (f86_k14 K) (by kernel_rfl)) (by kernel_rfl))
theorem f86_s6_eq (e d:Addr) (f:Int) (c:Addr) (w:World) (K:KT):f86_s6 e d f c w K=(∃ i:Int,w.cell? c=some (.int .i64 i)∧BIf ((i:Int) == 5) (∃ g:Int,w.cell? (c.add 2)=some (.int .i64 g)∧0≤(g:Int)∧(g:Int) < (8:Nat)∧St1 ((d.add 3).add (Int.toNat g * 1)) (Value.bool true) w (fun j=>f86_s7 e d f c j K)) (∃ h:Int,w.cell? (c.add 2)=some (.int .i64 h)∧0≤(h:Int)∧(h:Int) < (8:Nat)∧St1 ((d.add 11).add (Int.toNat h * 1)) (Value.bool true) w (fun k=>f86_s7 e d f c k K))):=Eq.trans SGe (Eq.trans (CSs [79,6,3,2,4] (f86_k13 K) (by kernel_rfl)) (by kernel_rfl))
theorem f86_s5_eq (d:Bool) (a c:Addr) (e:Int) (f:Addr) (w:World) (K:KT):f86_s5 d a c e f w K=(BIf d (LdA 20 c w (fun h=>StA 20 a h w (fun g=>LdA 20 a g (fun i=>K (Value.tuple [(Value.agg i),(Value.bool false)].toArray) g)))) (f86_s6 a c e f w K)):=Eq.trans SGe (by kernel_rfl)
theorem f86_s4_eq (e d:Addr) (f:Int) (c:Addr) (w:World) (K:KT):f86_s4 e d f c w K=(∃ g:Int,w.drew.cell? (c.add 2)=some (.int .i64 g)∧0≤(g:Int)∧(g:Int) < (8:Nat)∧∃ h:Bool,w.drew.cell? ((d.add 3).add (Int.toNat g * 1))=some (.bool h)∧∃ i:Int,w.drew.cell? (c.add 2)=some (.int .i64 i)∧0≤(i:Int)∧(i:Int) < (8:Nat)∧∃ j:Bool,w.drew.cell? ((d.add 11).add (Int.toNat i * 1))=some (.bool j)∧∃ k:Int,w.drew.cell? c=some (.int .i64 k)∧BIf ((k:Int) == 5) (BIf h (f86_s5 true e d f c w.drew K) (∃ l:Int,w.drew.cell? c=some (.int .i64 l)∧BIf ((l:Int) == 6) (BIf (!h) (f86_s5 true e d f c w.drew K) (BIf j (f86_s5 true e d f c w.drew K) (∃ m:Int,w.drew.cell? (c.add 2)=some (.int .i64 m)∧∃ n:Int,w.drew.cell? (c.add 1)=some (.int .i64 n)∧f86_s5 ((m:Int) == n) e d f c w.drew K))) (f86_s5 false e d f c w.drew K))) (∃ o:Int,w.drew.cell? c=some (.int .i64 o)∧BIf ((o:Int) == 6) (BIf (!h) (f86_s5 true e d f c w.drew K) (BIf j (f86_s5 true e d f c w.drew K) (∃ p:Int,w.drew.cell? (c.add 2)=some (.int .i64 p)∧∃ q:Int,w.drew.cell? (c.add 1)=some (.int .i64 q)∧f86_s5 ((p:Int) == q) e d f c w.drew K))) (f86_s5 false e d f c w.drew K))):=Eq.trans SGe (Eq.trans (CSs [6,3,2,4,9,8] (f86_k9 K) (by kernel_rfl)) (by kernel_rfl))
theorem f86_s3_eq (d:Bool) (a c:Addr) (e:Int) (f:Addr) (w:World) (K:KT):f86_s3 d a c e f w K=(BIf d (LdA 20 c w (fun h=>StA 20 a h w (fun g=>LdA 20 a g (fun i=>K (Value.tuple [(Value.agg i),(Value.bool false)].toArray) g)))) (f86_s4 a c e f w K)):=Eq.trans SGe (by kernel_rfl)
theorem f86_s2_eq (f:Bool) (c d:Addr) (e:Int) (a:Addr) (w:World) (K:KT):f86_s2 f c d e a w K=(BIf f (∃ g:Int,w.cell? (a.add 2)=some (.int .i64 g)∧BIf (decide ((g:Int) < 0)) (f86_s3 true c d e a w K) (∃ h:Int,w.cell? (a.add 2)=some (.int .i64 h)∧f86_s3 (decide ((h:Int)≥8)) c d e a w K)) (f86_s7 c d e a w K)):=Eq.trans SGe (by kernel_rfl)
theorem f86_s1_eq (d e:Addr) (f:Int) (c:Addr) (w:World) (K:KT):f86_s1 d e f c w K=(∃ g:Int,w.cell? c=some (.int .i64 g)∧BIf ((g:Int) == 5) (f86_s2 true d e f c w K) (∃ h:Int,w.cell? c=some (.int .i64 h)∧f86_s2 ((h:Int) == 6) d e f c w K)):=Eq.trans SGe (Eq.trans (CSs [6,3,2,4] (f86_k4 K) (by kernel_rfl)) (Eq.trans (CSs [31,6,3,2,4] (f86_k5 K) (by kernel_rfl)) (by kernel_rfl)))
theorem f86_s0_eq (d:Bool) (a c:Addr) (e:Int) (f:Addr) (w:World) (K:KT):f86_s0 d a c e f w K=(BIf d (LdA 20 c w (fun h=>StA 20 a h w (fun g=>LdA 20 a g (fun i=>K (Value.tuple [(Value.agg i),(Value.bool false)].toArray) g)))) (f86_s1 a c e f w K)):=Eq.trans SGe (by kernel_rfl)
theorem f86_eq (g h:Array Value) (f:Int) (w:World) (K:KT):f86 g h f w K=(NewC g 64 w (fun b l=>NewC h 72 l (fun c m=>NewC (zcells P 64) 64 m (fun i a=>∃ d:Int,a.cell? ((Addr.mk c 0 none).add 1)=some (.int .i64 d)∧0≤(d:Int)∧(d:Int) < (8:Nat)∧∃ j:Bool,a.cell? (((Addr.mk b 0 none).add 3).add (Int.toNat d * 1))=some (.bool j)∧BIf (!j) (f86_s0 true (Addr.mk i 0 none) (Addr.mk b 0 none) f (Addr.mk c 0 none) a K) (∃ e:Int,a.cell? ((Addr.mk c 0 none).add 1)=some (.int .i64 e)∧0≤(e:Int)∧(e:Int) < (8:Nat)∧∃ k:Bool,a.cell? (((Addr.mk b 0 none).add 11).add (Int.toNat e * 1))=some (.bool k)∧f86_s0 k (Addr.mk i 0 none) (Addr.mk b 0 none) f (Addr.mk c 0 none) a K))))):=by kernel_rfl
theorem f86_ok (a b:Array Value) (c:Int) (w:World) (K:KT) (h:f86 a b c w K):CallL P 86 [(Value.agg a),(Value.agg b),(Value.int .i64 c)] w K:=okCS c86 Tryz.func86 (by kernel_rfl) (by kernel_rfl) h
noncomputable def c58:Code:=bodyOf Tryz.f58
noncomputable def rs58:List ResultVar:=Tryz.f58.results.toList
abbrev f58_kb (K:KT):Exit→YT:=bodyK P rs58 K
def f58 (a b:Array Value) (c:Int) (w:World) (K:KT):Prop:=CS P c58 none [6,7] [6,7] (f58_kb K) (env0 98 [(Value.agg a),(Value.agg b),(VI c)]) w
def f58_s0 (a b:Array Value) (c:Int) (w:World) (K:KT):Prop:=CS P (cA c58 1) none [6,7] [6,7] (f58_kb K) (Env.mk 98 [(0,(Value.agg a)),(1,(Value.agg b)),(2,(VI c))] []) w
abbrev f58_k0 (K:KT):Exit→YT:=kseq P (cA c58 2) (cA c58 3) none [6,7] [6,7] (f58_kb K)
def f58_s1 (a b c:Addr) (d e:Array Value) (f:Int) (w:World) (K:KT):Prop:=CS P (cA c58 3) none [6,7] [6,7] (f58_kb K) (Env.mk 98 [(7,(VB false)),(6,(VP (some a))),(4,(VP (some b))),(3,(VP (some c))),(0,(Value.agg d)),(1,(Value.agg e)),(2,(VI f))] []) w
abbrev f58_k1 (K:KT):Exit→YT:=kseq P (cA c58 6) (cA c58 7) none [6,7] [6,7] (f58_kb K)
abbrev f58_k2 (K:KT):Exit→YT:=kseq P (cA c58 12) (cA c58 13) none [6,2,4,3,7] [6,7] (f58_k1 K)
def f58_s2 (a:Addr) (b:Int) (c d:Addr) (f:Bool) (w:World) (K:KT):Prop:=SG P (cA c58 7) none [6,7] [6,7] (f58_kb K) (Env.mk 98 [(6,(VP (some a))),(2,(VI b)),(4,(VP (some c))),(3,(VP (some d))),(7,(VB f))] []) w
abbrev f58_k4 (K:KT):Exit→YT:=kseq P (cA c58 14) (cA c58 15) none [6,7] [6,7] (f58_kb K)
abbrev f58_k5 (K:KT):Exit→YT:=kseq P (cA c58 28) (cA c58 29) none [6,2,4,3] [6,7] (f58_k4 K)
def f58_s3 (a:Int) (b c:Addr) (d:Int) (e f:Addr) (g:Bool) (w:World) (K:KT):Prop:=CS P (cA c58 29) none [6,2,4,3] [6,7] (f58_k4 K) (Env.mk 98 [(17,(VI a)),(16,(VP (some b))),(6,(VP (some c))),(2,(VI d)),(4,(VP (some e))),(3,(VP (some f))),(7,(VB g))] []) w
abbrev f58_k6 (K:KT):Exit→YT:=kblock 0 (f58_k4 K)
abbrev f58_k7 (K:KT):Exit→YT:=kseq P (cA c58 116) (cA c58 117) none [6,2,4,3] [6,7,2,4,3] (f58_k6 K)
def f58_s4 (a b:Bool) (c:Int) (d e:Addr) (f:Int) (g h:Addr) (i:Bool) (w:World) (K:KT):Prop:=CS P (cA c58 234) none [6,2,4,3] [6,7,2,4,3] (f58_k6 K) (Env.mk 98 [(18,(VB true)),(18,(VB a)),(19,(VB b)),(17,(VI c)),(16,(VP (some d))),(6,(VP (some e))),(2,(VI f)),(4,(VP (some g))),(3,(VP (some h))),(7,(VB i))] []) w
abbrev f58_k8 (K:KT):Exit→YT:=kseq P (cA c58 468) (cA c58 469) none [6,2,4,3] [6,7,2,4,3] (f58_k6 K)
def f58_s5 (a:OA) (b c:Nat) (d:OA) (e f:Nat) (g:Array Value) (h i:Bool) (j:Int) (k l:Addr) (m:Int) (n o:Addr) (p:Bool) (w:World) (K:KT):Prop:=CS P (cA c58 469) none [6,2,4,3] [6,7,2,4,3] (f58_k6 K) (Env.mk 98 [(8,(VS a b c)),(21,(VS d e f)),(20,(Value.agg g)),(18,(VB true)),(18,(VB h)),(19,(VB i)),(17,(VI j)),(16,(VP (some k))),(6,(VP (some l))),(2,(VI m)),(4,(VP (some n))),(3,(VP (some o))),(7,(VB p))] []) w
abbrev f58_k9 (K:KT):Exit→YT:=kseq P (cA c58 938) (cA c58 939) none [6,2,4,3] [6,7,2,4,3] (f58_k6 K)
abbrev f58_k10 (K:KT):Exit→YT:=kseq P (cA c58 1876) (cA c58 1877) none [6,2,4,3] [6,7,2,4,3] (f58_k9 K)
def f58_s6 (a:Int) (b:OA) (c d:Nat) (e:OA) (f g:Nat) (h:Array Value) (i j:Bool) (k:Int) (l m:Addr) (n:Int) (o p:Addr) (q:Bool) (w:World) (K:KT):Prop:=CS P (cA c58 1877) none [6,2,4,3] [6,7,2,4,3] (f58_k9 K) (Env.mk 98 [(9,(VI a)),(8,(VS b c d)),(21,(VS e f g)),(20,(Value.agg h)),(18,(VB true)),(18,(VB i)),(19,(VB j)),(17,(VI k)),(16,(VP (some l))),(6,(VP (some m))),(2,(VI n)),(4,(VP (some o))),(3,(VP (some p))),(7,(VB q))] []) w
abbrev f58_k11 (K:KT):Exit→YT:=kblock 1 (f58_k9 K)
def f58_lp7 (K:KT) (Y7:YT) (e:Env) (w:World):Prop:=Join (fun e w=>CS P (cA c58 7508) none [6,2,4,3,9,8,7] [6,7,2,4,3] (kloop [6,2,4,3,9,8,7] Y7 (f58_k11 K)) e w) e w
abbrev f58_kl7 (K:KT) (Y7:YT):Exit→YT:=kloop [6,2,4,3,9,8,7] Y7 (f58_k11 K)
def f58_lb7 (a:Addr) (b:Int) (c d:Addr) (f:Int) (g:OA) (h i:Nat) (j:Bool) (w:World) (K:KT) (Y7:YT):Prop:=SG P (cA c58 7508) none [6,2,4,3,9,8,7] [6,7,2,4,3] (f58_kl7 K Y7) (Env.mk 98 [(6,(VP (some a))),(2,(VI b)),(4,(VP (some c))),(3,(VP (some d))),(9,(VI f)),(8,(VS g h i)),(7,(VB j))] []) w
abbrev f58_k12 (K:KT) (Y7:YT):Exit→YT:=kseq P (cA c58 15016) (cA c58 15017) none [6,2,4,3,9,8,7] [6,7,2,4,3] (f58_kl7 K Y7)
abbrev f58_k13 (K:KT) (Y7:YT):Exit→YT:=kseq P (cA c58 30032) (cA c58 30033) none [6,2,4,3,8,9,7] [6,7,2,4,3] (f58_k12 K Y7)
def f58_s8 (a:Addr) (b:Int) (c d:Addr) (f:OA) (g h:Nat) (i:Int) (j:Bool) (w:World) (K:KT) (Y7:YT):Prop:=SG P (cA c58 15017) none [6,2,4,3,9,8,7] [6,7,2,4,3] (f58_kl7 K Y7) (Env.mk 98 [(6,(VP (some a))),(2,(VI b)),(4,(VP (some c))),(3,(VP (some d))),(8,(VS f g h)),(9,(VI i)),(7,(VB j))] []) w
abbrev f58_k14 (K:KT) (Y7:YT):Exit→YT:=kseq P (cA c58 30034) (cA c58 30035) none [6,2,4,3,9,8,7] [6,7,2,4,3] (f58_kl7 K Y7)
abbrev f58_k15 (K:KT) (Y7:YT):Exit→YT:=kblock 2 (f58_k14 K Y7)
abbrev f58_k16 (K:KT) (Y7:YT):Exit→YT:=kseq P (cA c58 120136) (cA c58 120137) none [6,2,4,3,8,7,9] [6,7,2,4,3,8,9] (f58_k15 K Y7)
def f58_s9 (a:Addr) (b:Int) (c d:Addr) (f:OA) (g h:Nat) (i:Int) (j:Bool) (k:Addr) (l:Bool) (w:World) (K:KT) (Y7:YT):Prop:=SG P (cA c58 120137) none [6,2,4,3,8,7,9] [6,7,2,4,3,8,9] (f58_k15 K Y7) (Env.mk 98 [(6,(VP (some a))),(2,(VI b)),(4,(VP (some c))),(3,(VP (some d))),(8,(VS f g h)),(9,(VI i)),(7,(VB j)),(10,(VP (some k))),(11,(VB l))] []) w
abbrev f58_k17 (K:KT) (Y7:YT):Exit→YT:=kseq P (cA c58 240274) (cA c58 240275) none [6,2,4,3,8,7,9] [6,7,2,4,3,8,9] (f58_k15 K Y7)
abbrev f58_k18 (K:KT) (Y7:YT):Exit→YT:=kseq P (cA c58 480548) (cA c58 480549) none [6,2,4,3,8,7,9,10] [6,7,2,4,3,8,9] (f58_k17 K Y7)
def f58_s10 (a:Addr) (b:Int) (c d:Addr) (f:OA) (g h:Nat) (i:Bool) (j:Int) (k:Addr) (w:World) (K:KT) (Y7:YT):Prop:=SG P (cA c58 240275) none [6,2,4,3,8,7,9] [6,7,2,4,3,8,9] (f58_k15 K Y7) (Env.mk 98 [(6,(VP (some a))),(2,(VI b)),(4,(VP (some c))),(3,(VP (some d))),(8,(VS f g h)),(7,(VB i)),(9,(VI j)),(10,(VP (some k)))] []) w
def f58_s11 (a:Addr) (b:Int) (c d:Addr) (f:OA) (g h:Nat) (i:Bool) (j:Int) (w:World) (K:KT) (Y7:YT):Prop:=SG P (cA c58 30035) none [6,2,4,3,9,8,7] [6,7,2,4,3] (f58_kl7 K Y7) (Env.mk 98 [(6,(VP (some a))),(2,(VI b)),(4,(VP (some c))),(3,(VP (some d))),(8,(VS f g h)),(7,(VB i)),(9,(VI j))] []) w
theorem f58_s11_eq (a:Addr) (c:Int) (d e:Addr) (f:OA) (g h:Nat) (i:Bool) (j:Int) (w:World) (K:KT) (Y7:YT):f58_s11 a c d e f g h i j w K Y7=(Y7 (Env.mk 98 [(6,(Value.pointer (some a))),(2,(Value.int .i64 c)),(4,(Value.pointer (some d))),(3,(Value.pointer (some e))),(9,(Value.int .i64 (IntKind.wrap .i64 ((j:Int)+1)))),(8,(Value.slice f g h)),(7,(Value.bool i))] []) w):=Eq.trans SGe (by kernel_rfl)
theorem f58_s10_eq (c:Addr) (d:Int) (e a:Addr) (f:OA) (g h:Nat) (i:Bool) (j:Int) (k:Addr) (w:World) (K:KT) (Y7:YT):f58_s10 c d e a f g h i j k w K Y7=(LdA 20 k w (fun l=>StA 20 a l w (fun m=>f58_s11 c d e a f g h i j m K Y7))):=Eq.trans SGe (by kernel_rfl)
theorem f58_s9_eq (c:Addr) (e:Int) (f d:Addr) (g:OA) (h i:Nat) (j:Int) (k:Bool) (l:Addr) (m:Bool) (w:World) (K:KT) (Y7:YT):f58_s9 c e f d g h i j k l m w K Y7=(BIf (!m) (LdA 20 d w (fun o=>StA 20 c o w (fun n=>LdA 20 c n (fun p=>K (Value.tuple [(Value.agg p),(Value.bool false)].toArray) n)))) (f58_s10 c e f d g h i k j l w K Y7)):=Eq.trans SGe (Eq.trans (CSs [6,2,4,3,8,7,9,10] (f58_k17 K Y7) (by kernel_rfl)) (Eq.trans (CSs [40,6,2,4,3,8,9,7,10] (f58_k18 K Y7) (by kernel_rfl)) (by kernel_rfl)))
theorem f58_s8_eq (i:Addr) (d:Int) (e f:Addr) (g:OA) (h j:Nat) (c:Int) (k:Bool) (w:World) (K:KT) (Y7:YT):f58_s8 i d e f g h j c k w K Y7=(optS g (fun u=>0≤(c:Int)∧(c:Int) < (h:Nat)∧LdA 20 f w.drew (fun l=>LdA 6 e w.drew (fun m=>LdA 2 (u.add (Int.toNat c * 2)) w.drew (fun n=>(CallL P 85 [(Value.agg l),(Value.int .i64 4),(Value.agg m),(Value.agg n),(Value.int .i64 d)] w.drew (fun v x=>∃ o:Array Value,∃ p:Bool,v=(.tuple [(Value.agg o),(Value.bool p)].toArray)∧NewC (zcells P 64) 64 x (fun q y=>StA 20 (Addr.mk q 0 none) o y (fun z=>f58_s9 i d e f g h j c k (Addr.mk q 0 none) p z K Y7))))∧(NewC (zcells P 64) 64 w.drew (fun r a0=>CallL P 85 [(Value.agg l),(Value.int .i64 4),(Value.agg m),(Value.agg n),(Value.int .i64 d)] a0 (fun b0 c0=>∃ s:Array Value,∃ t:Bool,b0=(.tuple [(Value.agg s),(Value.bool t)].toArray)∧StA 20 (Addr.mk r 0 none) s c0 (fun d0=>f58_s9 i d e f g h j c k (Addr.mk r 0 none) t d0 K Y7))))))))):=Eq.trans SGe (Eq.trans (CSs [6,2,4,3,8,7,9] (f58_k14 K Y7) (by kernel_rfl)) (Eq.trans (CSb 2 [6,7,2,4,3,8,9] (f58_k15 K Y7) (by kernel_rfl)) (Eq.trans (CSs [6,2,4,3,8,9,7,10,11] (f58_k16 K Y7) (by kernel_rfl)) (by kernel_rfl))))
def f58_s12 (a:Addr) (b:Int) (c d:Addr) (w:World) (K:KT):Prop:=SG P (cA c58 939) none [6,2,4,3] [6,7,2,4,3] (f58_k6 K) (Env.mk 98 [(6,(VP (some a))),(2,(VI b)),(4,(VP (some c))),(3,(VP (some d)))] []) w
abbrev f58_k20 (K:KT):Exit→YT:=kseq P (cA c58 1878) (cA c58 1879) none [6,2,4,3] [6,7,2,4,3] (f58_k6 K)
theorem f58_s12_eq (c:Addr) (e:Int) (f d:Addr) (w:World) (K:KT):f58_s12 c e f d w K=(LdA 20 d w (fun h=>StA 20 c h w (fun g=>LdA 20 c g (fun i=>K (Value.tuple [(Value.agg i),(Value.bool true)].toArray) g)))):=Eq.trans SGe (Eq.trans (CSs [6,7,2,4,3] (f58_k20 K) (by kernel_rfl)) (by kernel_rfl))
theorem f58_lb7_eq (c:Addr) (d:Int) (e f:Addr) (g:Int) (h:OA) (i j:Nat) (k:Bool) (w:World) (K:KT) (Y7:YT):f58_lb7 c d e f g h i j k w K Y7=(∃ l:Int,(∀ wq,Ext w wq→(Builtin.len_ #[62] 3 [(Value.slice h i j)].toArray).run P wq=.ok (.int .i64 l) wq)∧BIf (decide ((g:Int) < l)) (f58_s8 c d e f h i j g k w K Y7) (f58_s12 c d e f w K)):=Eq.trans SGe (Eq.trans (CSs [6,2,4,3,8,9,7] (f58_k12 K Y7) (by kernel_rfl)) (Eq.trans (CSs [25,6,2,4,3,8,9,7] (f58_k13 K Y7) (by kernel_rfl)) (by kernel_rfl)))
theorem f58_s6_eq (a:Int) (c:OA) (d e:Nat) (k:OA) (l m:Nat) (n:Array Value) (o p:Bool) (q:Int) (r f:Addr) (g:Int) (h i:Addr) (j:Bool) (w:World) (K:KT):f58_s6 a c d e k l m n o p q r f g h i j w K=(LoopE (f58_lp7 K) (Env.mk 98 [(6,(Value.pointer (some f))),(2,(Value.int .i64 g)),(4,(Value.pointer (some h))),(3,(Value.pointer (some i))),(9,(Value.int .i64 a)),(8,(Value.slice c d e)),(7,(Value.bool j))] []) w):=Eq.trans (b:=CS P (cA c58 1877) none [6,2,4,3] [6,7,2,4,3] (f58_k9 K) (Env.mk 98 [(9,(VI a)),(8,(VS c d e)),(21,(VS k l m)),(20,(Value.agg n)),(18,(VB true)),(18,(VB o)),(19,(VB p)),(17,(VI q)),(16,(VP (some r))),(6,(VP (some f))),(2,(VI g)),(4,(VP (some h))),(3,(VP (some i))),(7,(VB j))] []) w) (by kernel_rfl) (Eq.trans (CSb 1 [6,7,2,4,3] (f58_k11 K) (by kernel_rfl)) ((CS_loop' (b:=(cA c58 7508)) (X':=[6,7,2,4,3]) (H:=[6,2,4,3,9,8,7]) (by kernel_rfl) (by kernel_rfl) (by kernel_rfl)).trans (by kernel_rfl)))
theorem f58_s5_eq (c:OA) (d e:Nat) (f:OA) (g h:Nat) (i:Array Value) (j k:Bool) (l:Int) (m n:Addr) (o:Int) (p q:Addr) (r:Bool) (w:World) (K:KT):f58_s5 c d e f g h i j k l m n o p q r w K=(f58_s6 0 c d e f g h i j k l m n o p q r w K):=Eq.trans (b:=CS P (cA c58 469) none [6,2,4,3] [6,7,2,4,3] (f58_k6 K) (Env.mk 98 [(8,(VS c d e)),(21,(VS f g h)),(20,(Value.agg i)),(18,(VB true)),(18,(VB j)),(19,(VB k)),(17,(VI l)),(16,(VP (some m))),(6,(VP (some n))),(2,(VI o)),(4,(VP (some p))),(3,(VP (some q))),(7,(VB r))] []) w) (by kernel_rfl) (Eq.trans (CSs [6,2,4,3] (f58_k9 K) (by kernel_rfl)) (Eq.trans (CSs [6,2,4,3,9,8,7] (f58_k10 K) (by kernel_rfl)) (by kernel_rfl)))
theorem f58_s4_eq (d e:Bool) (f:Int) (g h:Addr) (i:Int) (c j:Addr) (k:Bool) (w:World) (K:KT):f58_s4 d e f g h i c j k w K=(LdA 6 c w (fun o=>CallL P 84 [(Value.agg o)] w (fun p q=>∃ (l:OA) (m n:Nat),p=(.slice l m n)∧f58_s5 l m n l m n o d e f g h i c j k q K))):=Eq.trans (b:=CS P (cA c58 234) none [6,2,4,3] [6,7,2,4,3] (f58_k6 K) (Env.mk 98 [(18,(VB true)),(18,(VB d)),(19,(VB e)),(17,(VI f)),(16,(VP (some g))),(6,(VP (some h))),(2,(VI i)),(4,(VP (some c))),(3,(VP (some j))),(7,(VB k))] []) w) (by kernel_rfl) (Eq.trans (CSs [6,2,4,3,8,7] (f58_k8 K) (by kernel_rfl)) (by kernel_rfl))
def f58_s13 (a:Addr) (b:Int) (c d:Addr) (w:World) (K:KT):Prop:=SG P (cA c58 15) none [6,7] [6,7] (f58_kb K) (Env.mk 98 [(6,(VP (some a))),(2,(VI b)),(4,(VP (some c))),(3,(VP (some d)))] []) w
abbrev f58_k29 (K:KT):Exit→YT:=kseq P (cA c58 30) (cA c58 31) none [6,7] [6,7] (f58_kb K)
theorem f58_s13_eq (c:Addr) (d:Int) (e f:Addr) (w:World) (K:KT):f58_s13 c d e f w K=(LdA 20 f w (fun l=>∃ g:Int,w.cell? (e.add 1)=some (.int .i64 g)∧∃ h:Array Value,(∀ wq,(Instr.build 72 [(0,(Value.int .i64 1)),(1,(Value.int .i64 g))].toArray).run P wq=.ok (.agg h) wq)∧CallL P 86 [(Value.agg l),(Value.agg h),(Value.int .i64 d)] w (fun m n=>∃ i:Array Value,∃ j:Bool,m=(.tuple [(Value.agg i),(Value.bool j)].toArray)∧StA 20 c i n (fun k=>LdA 20 c k (fun o=>K (Value.tuple [(Value.agg o),(Value.bool j)].toArray) k))))):=Eq.trans SGe (Eq.trans (CSs [6,7] (f58_k29 K) (by kernel_rfl)) (by kernel_rfl))
theorem f58_s3_eq (e:Int) (h c:Addr) (f:Int) (d g:Addr) (i:Bool) (w:World) (K:KT):f58_s3 e h c f d g i w K=(BIf ((e:Int) == 4) (f58_s4 ((e:Int) == 4) ((e:Int) == 4) e h c f d g i w K) (BIf ((e:Int) == 14) (LdA 20 g w (fun g0=>LdA 6 d w (fun h0=>∃ j:Int,w.cell? (d.add 3)=some (.int .u32 j)∧∃ k:Array Value,(∀ wq,(Instr.build 170 [(1,(Value.int .u32 j))].toArray).run P wq=.ok (.agg k) wq)∧CallL P 85 [(Value.agg g0),(Value.int .i64 3),(Value.agg h0),(Value.agg k),(Value.int .i64 f)] w (fun i0 j0=>∃ l:Array Value,∃ m:Bool,i0=(.tuple [(Value.agg l),(Value.bool m)].toArray)∧StA 20 c l j0 (fun n=>LdA 20 c n (fun l0=>K (Value.tuple [(Value.agg l0),(Value.bool m)].toArray) n)))))) (BIf ((e:Int) == 15) (LdA 20 g w (fun m0=>LdA 6 d w (fun n0=>∃ o:Int,w.cell? (d.add 3)=some (.int .u32 o)∧∃ p:Array Value,(∀ wq,(Instr.build 170 [(1,(Value.int .u32 o))].toArray).run P wq=.ok (.agg p) wq)∧CallL P 85 [(Value.agg m0),(Value.int .i64 2),(Value.agg n0),(Value.agg p),(Value.int .i64 f)] w (fun o0 p0=>∃ q:Array Value,∃ r:Bool,o0=(.tuple [(Value.agg q),(Value.bool r)].toArray)∧StA 20 c q p0 (fun s=>LdA 20 c s (fun q0=>K (Value.tuple [(Value.agg q0),(Value.bool r)].toArray) s)))))) (BIf ((e:Int) == 11) (LdA 20 g w (fun r0=>∃ t:Int,w.cell? (d.add 1)=some (.int .i64 t)∧∃ u:Int,w.cell? (d.add 5)=some (.int .i64 u)∧∃ v:Array Value,(∀ wq,(Instr.build 72 [(0,(Value.int .i64 5)),(1,(Value.int .i64 t)),(2,(Value.int .i64 u))].toArray).run P wq=.ok (.agg v) wq)∧CallL P 86 [(Value.agg r0),(Value.agg v),(Value.int .i64 f)] w (fun s0 t0=>∃ x:Array Value,∃ y:Bool,s0=(.tuple [(Value.agg x),(Value.bool y)].toArray)∧StA 20 c x t0 (fun z=>LdA 20 c z (fun u0=>K (Value.tuple [(Value.agg u0),(Value.bool y)].toArray) z))))) (BIf ((e:Int) == 13) (LdA 20 g w (fun v0=>∃ a0:Int,w.cell? (d.add 1)=some (.int .i64 a0)∧∃ b0:Int,w.cell? (d.add 5)=some (.int .i64 b0)∧∃ c0:Array Value,(∀ wq,(Instr.build 72 [(0,(Value.int .i64 6)),(1,(Value.int .i64 a0)),(2,(Value.int .i64 b0))].toArray).run P wq=.ok (.agg c0) wq)∧CallL P 86 [(Value.agg v0),(Value.agg c0),(Value.int .i64 f)] w (fun x0 y0=>∃ d0:Array Value,∃ e0:Bool,x0=(.tuple [(Value.agg d0),(Value.bool e0)].toArray)∧StA 20 c d0 y0 (fun f0=>LdA 20 c f0 (fun z0=>K (Value.tuple [(Value.agg z0),(Value.bool e0)].toArray) f0))))) (f58_s13 c f d g w K)))))):=Eq.trans (b:=CS P (cA c58 29) none [6,2,4,3] [6,7] (f58_k4 K) (Env.mk 98 [(17,(VI e)),(16,(VP (some h))),(6,(VP (some c))),(2,(VI f)),(4,(VP (some d))),(3,(VP (some g))),(7,(VB i))] []) w) (by kernel_rfl) (Eq.trans (CSb 0 [6,7,2,4,3] (f58_k6 K) (by kernel_rfl)) (Eq.trans (CSs [18,6,2,4,3,7,17] (f58_k7 K) (by kernel_rfl)) (by kernel_rfl)))
theorem f58_s2_eq (d:Addr) (e:Int) (c f:Addr) (g:Bool) (w:World) (K:KT):f58_s2 d e c f g w K=(∃ h:Int,w.cell? c=some (.int .i64 h)∧f58_s3 h c d e c f g w K):=Eq.trans SGe (Eq.trans (CSs [6,2,4,3] (f58_k4 K) (by kernel_rfl)) (Eq.trans (CSs [6,2,4,3,7,17] (f58_k5 K) (by kernel_rfl)) (by kernel_rfl)))
theorem f58_s1_eq (c d e:Addr) (g h:Array Value) (f:Int) (w:World) (K:KT):f58_s1 c d e g h f w K=(LdA 6 d w (fun l=>CallL P 83 [(Value.agg l)] w (fun m i=>∃ j:Bool,m=(.bool j)∧BIf (!j) (LdA 20 e i (fun n=>StA 20 c n i (fun k=>LdA 20 c k (fun o=>K (Value.tuple [(Value.agg o),(Value.bool false)].toArray) k)))) (f58_s2 c f d e false i K)))):=Eq.trans (b:=CS P (cA c58 3) none [6,7] [6,7] (f58_kb K) (Env.mk 98 [(7,(VB false)),(6,(VP (some c))),(4,(VP (some d))),(3,(VP (some e))),(0,(Value.agg g)),(1,(Value.agg h)),(2,(VI f))] []) w) (by kernel_rfl) (Eq.trans (CSs [6,2,4,3,7] (f58_k1 K) (by kernel_rfl)) (Eq.trans (CSs [14,6,3,2,4,7] (f58_k2 K) (by kernel_rfl)) (by kernel_rfl)))
theorem f58_s0_eq (c d:Array Value) (e:Int) (w:World) (K:KT):f58_s0 c d e w K=(NewC c 64 w (fun f g=>NewC d 45 g (fun h i=>NewC (zcells P 64) 64 i (fun j k=>f58_s1 (Addr.mk j 0 none) (Addr.mk h 0 none) (Addr.mk f 0 none) c d e k K)))):=Eq.trans (b:=CS P (cA c58 1) none [6,7] [6,7] (f58_kb K) (Env.mk 98 [(0,(Value.agg c)),(1,(Value.agg d)),(2,(VI e))] []) w) (by kernel_rfl) (Eq.trans (CSs [6,3,2,4,7] (f58_k0 K) (by kernel_rfl)) (by kernel_rfl))
theorem f58_eq (a b:Array Value) (c:Int) (w:World) (K:KT):f58 a b c w K=(f58_s0 a b c w K):=by kernel_rfl
theorem f58_ok (a b:Array Value) (c:Int) (w:World) (K:KT) (h:f58 a b c w K):CallL P 58 [(Value.agg a),(Value.agg b),(Value.int .i64 c)] w K:=okCS c58 Tryz.func58 (by kernel_rfl) (by kernel_rfl) h
noncomputable def c17:Code:=bodyOf Tryz.f17
noncomputable def rs17:List ResultVar:=Tryz.f17.results.toList
abbrev f17_kb (K:KT):Exit→YT:=bodyK P rs17 K
def f17 (a:OA) (b c:Nat) (w:World) (K:KT):Prop:=CS P c17 none [2] [2] (f17_kb K) (env0 33 [(VS a b c)]) w
def f17_s0 (a:OA) (b c:Nat) (w:World) (K:KT):Prop:=CS P (cA c17 1) none [2] [2] (f17_kb K) (Env.mk 33 [(0,(VS a b c))] []) w
abbrev f17_k0 (K:KT):Exit→YT:=kseq P (cA c17 2) (cA c17 3) none [2] [2] (f17_kb K)
def f17_s1 (a:Addr) (b:OA) (c d:Nat) (w:World) (K:KT):Prop:=CS P (cA c17 3) none [2] [2] (f17_kb K) (Env.mk 33 [(2,(VP (some a))),(0,(VS b c d))] []) w
abbrev f17_k1 (K:KT):Exit→YT:=kseq P (cA c17 6) (cA c17 7) none [2] [2] (f17_kb K)
abbrev f17_k2 (K:KT):Exit→YT:=kseq P (cA c17 12) (cA c17 13) none [2,0] [2] (f17_k1 K)
def f17_s2 (a:Addr) (b:OA) (c d:Nat) (w:World) (K:KT):Prop:=SG P (cA c17 7) none [2] [2] (f17_kb K) (Env.mk 33 [(2,(VP (some a))),(0,(VS b c d))] []) w
abbrev f17_k4 (K:KT):Exit→YT:=kseq P (cA c17 14) (cA c17 15) none [2] [2] (f17_kb K)
def f17_s3 (a:Addr) (b:Array Value) (c:Addr) (d:OA) (e f:Nat) (w:World) (K:KT):Prop:=CS P (cA c17 15) none [2] [2] (f17_kb K) (Env.mk 33 [(3,(VP (some a))),(11,(Value.agg b)),(2,(VP (some c))),(0,(VS d e f))] []) w
abbrev f17_k5 (K:KT):Exit→YT:=kseq P (cA c17 30) (cA c17 31) none [2] [2] (f17_kb K)
abbrev f17_k6 (K:KT):Exit→YT:=kseq P (cA c17 60) (cA c17 61) none [2,3] [2] (f17_k5 K)
def f17_s4 (a:Int) (b:Addr) (c:Array Value) (d:Addr) (e:OA) (f g:Nat) (w:World) (K:KT):Prop:=CS P (cA c17 61) none [2,3] [2] (f17_k5 K) (Env.mk 33 [(4,(VI a)),(3,(VP (some b))),(11,(Value.agg c)),(2,(VP (some d))),(0,(VS e f g))] []) w
abbrev f17_k7 (K:KT):Exit→YT:=kblock 0 (f17_k5 K)
def f17_lp5 (K:KT) (Y5:YT) (e:Env) (w:World):Prop:=Join (fun e w=>CS P (cA c17 244) none [2,3,4,0] [2,3] (kloop [2,3,4,0] Y5 (f17_k7 K)) e w) e w
abbrev f17_kl5 (K:KT) (Y5:YT):Exit→YT:=kloop [2,3,4,0] Y5 (f17_k7 K)
def f17_lb5 (a b:Addr) (c:Int) (d:OA) (f g:Nat) (w:World) (K:KT) (Y5:YT):Prop:=SG P (cA c17 244) none [2,3,4,0] [2,3] (f17_kl5 K Y5) (Env.mk 33 [(2,(VP (some a))),(3,(VP (some b))),(4,(VI c)),(0,(VS d f g))] []) w
abbrev f17_k8 (K:KT) (Y5:YT):Exit→YT:=kseq P (cA c17 488) (cA c17 489) none [2,3,4,0] [2,3] (f17_kl5 K Y5)
abbrev f17_k9 (K:KT) (Y5:YT):Exit→YT:=kseq P (cA c17 976) (cA c17 977) none [2,3,0,4] [2,3] (f17_k8 K Y5)
def f17_s6 (a b:Addr) (c:OA) (d f:Nat) (g:Int) (w:World) (K:KT) (Y5:YT):Prop:=SG P (cA c17 489) none [2,3,4,0] [2,3] (f17_kl5 K Y5) (Env.mk 33 [(2,(VP (some a))),(3,(VP (some b))),(0,(VS c d f)),(4,(VI g))] []) w
abbrev f17_k10 (K:KT) (Y5:YT):Exit→YT:=kseq P (cA c17 978) (cA c17 979) none [2,3,4,0] [2,3] (f17_kl5 K Y5)
abbrev f17_k11 (K:KT) (Y5:YT):Exit→YT:=kblock 1 (f17_k10 K Y5)
abbrev f17_k12 (K:KT) (Y5:YT):Exit→YT:=kseq P (cA c17 3912) (cA c17 3913) none [2,3,0,4] [2,3,0,4] (f17_k11 K Y5)
def f17_s7 (a b:Addr) (c:OA) (d f:Nat) (g:Int) (h:Addr) (i:Bool) (w:World) (K:KT) (Y5:YT):Prop:=SG P (cA c17 3913) none [2,3,0,4] [2,3,0,4] (f17_k11 K Y5) (Env.mk 33 [(2,(VP (some a))),(3,(VP (some b))),(0,(VS c d f)),(4,(VI g)),(5,(VP (some h))),(6,(VB i))] []) w
abbrev f17_k13 (K:KT) (Y5:YT):Exit→YT:=kseq P (cA c17 7826) (cA c17 7827) none [2,3,0,4] [2,3,0,4] (f17_k11 K Y5)
abbrev f17_k14 (K:KT) (Y5:YT):Exit→YT:=kseq P (cA c17 15652) (cA c17 15653) none [2,3,0,4,5] [2,3,0,4] (f17_k13 K Y5)
def f17_s8 (a b:Addr) (c:OA) (d f:Nat) (g:Int) (h:Addr) (w:World) (K:KT) (Y5:YT):Prop:=SG P (cA c17 7827) none [2,3,0,4] [2,3,0,4] (f17_k11 K Y5) (Env.mk 33 [(2,(VP (some a))),(3,(VP (some b))),(0,(VS c d f)),(4,(VI g)),(5,(VP (some h)))] []) w
def f17_s9 (a b:Addr) (c:OA) (d f:Nat) (g:Int) (w:World) (K:KT) (Y5:YT):Prop:=SG P (cA c17 979) none [2,3,4,0] [2,3] (f17_kl5 K Y5) (Env.mk 33 [(2,(VP (some a))),(3,(VP (some b))),(0,(VS c d f)),(4,(VI g))] []) w
theorem f17_s9_eq (a c:Addr) (d:OA) (e f:Nat) (g:Int) (w:World) (K:KT) (Y5:YT):f17_s9 a c d e f g w K Y5=(Y5 (Env.mk 33 [(2,(Value.pointer (some a))),(3,(Value.pointer (some c))),(4,(Value.int .i64 (IntKind.wrap .i64 ((g:Int)+1)))),(0,(Value.slice d e f))] []) w):=Eq.trans SGe (by kernel_rfl)
theorem f17_s8_eq (c a:Addr) (d:OA) (e f:Nat) (g:Int) (h:Addr) (w:World) (K:KT) (Y5:YT):f17_s8 c a d e f g h w K Y5=(LdA 20 h w (fun i=>StA 20 a i w (fun j=>f17_s9 c a d e f g j K Y5))):=Eq.trans SGe (by kernel_rfl)
theorem f17_s7_eq (c d:Addr) (e:OA) (f g:Nat) (h:Int) (i:Addr) (j:Bool) (w:World) (K:KT) (Y5:YT):f17_s7 c d e f g h i j w K Y5=(BIf (!j) (∃ k:Array Value,(∀ wq,(Instr.build 64 [(5,(Value.int .i64 300))].toArray).run P wq=.ok (.agg k) wq)∧StA 20 c k w (fun l=>LdA 20 c l (fun m=>K (Value.agg m) l))) (f17_s8 c d e f g h i w K Y5)):=Eq.trans SGe (Eq.trans (CSs [2,3,0,4,5] (f17_k13 K Y5) (by kernel_rfl)) (Eq.trans (CSs [29,2,3,0,4,5] (f17_k14 K Y5) (by kernel_rfl)) (by kernel_rfl)))
theorem f17_s6_eq (g d:Addr) (e:OA) (f h:Nat) (c:Int) (w:World) (K:KT) (Y5:YT):f17_s6 g d e f h c w K Y5=(optS e (fun q=>0≤(c:Int)∧(c:Int) < (f:Nat)∧LdA 20 d w.drew (fun i=>LdA 6 (q.add (Int.toNat c * 6)) w.drew (fun j=>(CallL P 58 [(Value.agg i),(Value.agg j),(Value.int .i64 c)] w.drew (fun r s=>∃ k:Array Value,∃ l:Bool,r=(.tuple [(Value.agg k),(Value.bool l)].toArray)∧NewC (zcells P 64) 64 s (fun m t=>StA 20 (Addr.mk m 0 none) k t (fun u=>f17_s7 g d e f h c (Addr.mk m 0 none) l u K Y5))))∧(NewC (zcells P 64) 64 w.drew (fun n v=>CallL P 58 [(Value.agg i),(Value.agg j),(Value.int .i64 c)] v (fun x y=>∃ o:Array Value,∃ p:Bool,x=(.tuple [(Value.agg o),(Value.bool p)].toArray)∧StA 20 (Addr.mk n 0 none) o y (fun z=>f17_s7 g d e f h c (Addr.mk n 0 none) p z K Y5)))))))):=Eq.trans SGe (Eq.trans (CSs [2,3,0,4] (f17_k10 K Y5) (by kernel_rfl)) (Eq.trans (CSb 1 [2,3,0,4] (f17_k11 K Y5) (by kernel_rfl)) (Eq.trans (CSs [2,3,0,4,5,6] (f17_k12 K Y5) (by kernel_rfl)) (by kernel_rfl))))
def f17_s10 (a b:Addr) (w:World) (K:KT):Prop:=SG P (cA c17 31) none [2] [2] (f17_kb K) (Env.mk 33 [(2,(VP (some a))),(3,(VP (some b)))] []) w
abbrev f17_k16 (K:KT):Exit→YT:=kseq P (cA c17 62) (cA c17 63) none [2] [2] (f17_kb K)
theorem f17_s10_eq (c d:Addr) (w:World) (K:KT):f17_s10 c d w K=(LdA 20 d w (fun f=>StA 20 c f w (fun e=>LdA 20 c e (fun g=>K (Value.agg g) e)))):=Eq.trans SGe (Eq.trans (CSs [2] (f17_k16 K) (by kernel_rfl)) (by kernel_rfl))
theorem f17_lb5_eq (c d:Addr) (e:Int) (f:OA) (g h:Nat) (w:World) (K:KT) (Y5:YT):f17_lb5 c d e f g h w K Y5=(∃ i:Int,(∀ wq,Ext w wq→(Builtin.len_ #[22] 3 [(Value.slice f g h)].toArray).run P wq=.ok (.int .i64 i) wq)∧BIf (decide ((e:Int) < i)) (f17_s6 c d f g h e w K Y5) (f17_s10 c d w K)):=Eq.trans SGe (Eq.trans (CSs [2,3,0,4] (f17_k8 K Y5) (by kernel_rfl)) (Eq.trans (CSs [15,2,3,0,4] (f17_k9 K Y5) (by kernel_rfl)) (by kernel_rfl)))
theorem f17_s4_eq (a:Int) (c:Addr) (h:Array Value) (d:Addr) (e:OA) (f g:Nat) (w:World) (K:KT):f17_s4 a c h d e f g w K=(LoopE (f17_lp5 K) (Env.mk 33 [(2,(Value.pointer (some d))),(3,(Value.pointer (some c))),(4,(Value.int .i64 a)),(0,(Value.slice e f g))] []) w):=Eq.trans (b:=CS P (cA c17 61) none [2,3] [2] (f17_k5 K) (Env.mk 33 [(4,(VI a)),(3,(VP (some c))),(11,(Value.agg h)),(2,(VP (some d))),(0,(VS e f g))] []) w) (by kernel_rfl) (Eq.trans (CSb 0 [2,3] (f17_k7 K) (by kernel_rfl)) ((CS_loop' (b:=(cA c17 244)) (X':=[2,3]) (H:=[2,3,4,0]) (by kernel_rfl) (by kernel_rfl) (by kernel_rfl)).trans (by kernel_rfl)))
theorem f17_s3_eq (c:Addr) (d:Array Value) (e:Addr) (f:OA) (g h:Nat) (w:World) (K:KT):f17_s3 c d e f g h w K=(f17_s4 0 c d e f g h w K):=Eq.trans (b:=CS P (cA c17 15) none [2] [2] (f17_kb K) (Env.mk 33 [(3,(VP (some c))),(11,(Value.agg d)),(2,(VP (some e))),(0,(VS f g h))] []) w) (by kernel_rfl) (Eq.trans (CSs [2,3] (f17_k5 K) (by kernel_rfl)) (Eq.trans (CSs [2,3,4,0] (f17_k6 K) (by kernel_rfl)) (by kernel_rfl)))
theorem f17_s2_eq (c:Addr) (d:OA) (e f:Nat) (w:World) (K:KT):f17_s2 c d e f w K=(CallL P 57 [] w (fun i j=>∃ g:Array Value,i=(.agg g)∧NewC (zcells P 64) 64 j (fun h k=>StA 20 (Addr.mk h 0 none) g k (fun l=>f17_s3 (Addr.mk h 0 none) g c d e f l K)))):=Eq.trans SGe (Eq.trans (CSs [2,3,0] (f17_k4 K) (by kernel_rfl)) (by kernel_rfl))
theorem f17_s1_eq (c:Addr) (d:OA) (e f:Nat) (w:World) (K:KT):f17_s1 c d e f w K=(∃ g:Int,(∀ wq,Ext w wq→(Builtin.len_ #[22] 3 [(Value.slice d e f)].toArray).run P wq=.ok (.int .i64 g) wq)∧BIf (decide ((g:Int) > 20000)) (∃ h:Array Value,(∀ wq,(Instr.build 64 [(5,(Value.int .i64 2))].toArray).run P wq=.ok (.agg h) wq)∧StA 20 c h w (fun i=>LdA 20 c i (fun j=>K (Value.agg j) i))) (f17_s2 c d e f w K)):=Eq.trans (b:=CS P (cA c17 3) none [2] [2] (f17_kb K) (Env.mk 33 [(2,(VP (some c))),(0,(VS d e f))] []) w) (by kernel_rfl) (Eq.trans (CSs [2,0] (f17_k1 K) (by kernel_rfl)) (Eq.trans (CSs [9,2,0] (f17_k2 K) (by kernel_rfl)) (by kernel_rfl)))
theorem f17_s0_eq (c:OA) (d e:Nat) (w:World) (K:KT):f17_s0 c d e w K=(NewC (zcells P 64) 64 w (fun f g=>f17_s1 (Addr.mk f 0 none) c d e g K)):=Eq.trans (b:=CS P (cA c17 1) none [2] [2] (f17_kb K) (Env.mk 33 [(0,(VS c d e))] []) w) (by kernel_rfl) (Eq.trans (CSs [2,0] (f17_k0 K) (by kernel_rfl)) (by kernel_rfl))
theorem f17_eq (a:OA) (b c:Nat) (w:World) (K:KT):f17 a b c w K=(f17_s0 a b c w K):=by kernel_rfl
theorem f17_ok (a:OA) (b c:Nat) (w:World) (K:KT) (h:f17 a b c w K):CallL P 17 [(Value.slice a b c)] w K:=okCS c17 Tryz.func17 (by kernel_rfl) (by kernel_rfl) h
end Go.Fx.Tryz
