/- A part of the proof. -/
import Derived.Test.YtamciedmojpjaaaKcXh
import Derived.KernelRfl
import Derived.Laws.MakeOwn
import Derived.Test.YtamciedmojpjaaaKbXh
namespace Go.Fx.Try
set_option maxRecDepth 100000
open Go Go.Fx
noncomputable def c113:Code:=match Go.Proofs.Try.f113.body with
 | some c=>c
 | none=>.skip
noncomputable def rs113:List ResultVar:=Go.Proofs.Try.f113.results.toList
abbrev f113_kb (K:KT):Exit→YT:=bodyK P rs113 K
def f113 (a b:Array Value) (c:Int) (w:World) (K:KT):Prop:=CS P c113 none [6,7] [6,7] (f113_kb K) (env0 101 [(Value.agg a),(Value.agg b),(VI c)]) w
abbrev f113_k1 (K:KT):Exit→YT:=kseq P (cA c113 6) (cA c113 7) none [6,7] [6,7] (f113_kb K)
def f113_s0 (a:Bool) (b c:Addr) (d:Int) (f:Addr) (w:World) (K:KT):Prop:=Join (fun e w=>CS P (cA c113 13) none [6,3,2,4] [6,7] (f113_k1 K) e w) (Env.mk 101 [(22,(VB a)),(6,(VP (some b))),(3,(VP (some c))),(2,(VI d)),(4,(VP (some f)))] []) w
def f113_s1 (a b:Addr) (c:Int) (d:Addr) (w:World) (K:KT):Prop:=Join (fun e w=>CS P (cA c113 7) none [6,7] [6,7] (f113_kb K) e w) (Env.mk 101 [(6,(VP (some a))),(3,(VP (some b))),(2,(VI c)),(4,(VP (some d)))] []) w
abbrev f113_k4 (K:KT):Exit→YT:=kseq P (cA c113 14) (cA c113 15) none [6,7] [6,7] (f113_kb K)
abbrev f113_k5 (K:KT):Exit→YT:=kseq P (cA c113 28) (cA c113 29) none [6,3,2,4] [6,7] (f113_k4 K)
def f113_s2 (a:Bool) (b c:Addr) (d:Int) (f:Addr) (w:World) (K:KT):Prop:=Join (fun e w=>CS P (cA c113 29) none [6,3,2,4] [6,7] (f113_k4 K) e w) (Env.mk 101 [(31,(VB a)),(6,(VP (some b))),(3,(VP (some c))),(2,(VI d)),(4,(VP (some f)))] []) w
abbrev f113_k6 (K:KT):Exit→YT:=kseq P (cA c113 116) (cA c113 117) none [6,3,2,4] [6,7] (f113_k4 K)
def f113_s3 (a:Bool) (b c:Addr) (d:Int) (f:Addr) (w:World) (K:KT):Prop:=Join (fun e w=>CS P (cA c113 233) none [6,3,2,4] [6,7] (f113_k6 K) e w) (Env.mk 101 [(39,(VB a)),(6,(VP (some b))),(3,(VP (some c))),(2,(VI d)),(4,(VP (some f)))] []) w
def f113_s4 (a b:Addr) (c:Int) (d:Addr) (w:World) (K:KT):Prop:=Join (fun e w=>CS P (cA c113 117) none [6,3,2,4] [6,7] (f113_k4 K) e w) (Env.mk 101 [(6,(VP (some a))),(3,(VP (some b))),(2,(VI c)),(4,(VP (some d)))] []) w
abbrev f113_k9 (K:KT):Exit→YT:=kseq P (cA c113 234) (cA c113 235) none [6,3,2,4] [6,7] (f113_k4 K)
abbrev f113_k10 (K:KT):Exit→YT:=kseq P (cA c113 470) (cA c113 471) none [6,3,2,4] [6,7] (f113_k4 K)
def f113_s5 (a:Bool) (b c:Addr) (d:Int) (f:Addr) (w:World) (K:KT):Prop:=Join (fun e w=>CS P (cA c113 941) none [6,3,2,4] [6,7] (f113_k10 K) e w) (Env.mk 101 [(75,(VB a)),(6,(VP (some b))),(3,(VP (some c))),(2,(VI d)),(4,(VP (some f)))] []) w
def f113_s6 (a b:Addr) (c:Int) (d:Addr) (w:World) (K:KT):Prop:=Join (fun e w=>CS P (cA c113 471) none [6,3,2,4] [6,7] (f113_k4 K) e w) (Env.mk 101 [(6,(VP (some a))),(3,(VP (some b))),(2,(VI c)),(4,(VP (some d)))] []) w
abbrev f113_k13 (K:KT):Exit→YT:=kseq P (cA c113 942) (cA c113 943) none [6,3,2,4] [6,7] (f113_k4 K)
def f113_s7 (a b:Addr) (c:Int) (d:Addr) (w:World) (K:KT):Prop:=Join (fun e w=>CS P (cA c113 15) none [6,7] [6,7] (f113_kb K) e w) (Env.mk 101 [(6,(VP (some a))),(3,(VP (some b))),(2,(VI c)),(4,(VP (some d)))] []) w
abbrev f113_k14 (K:KT):Exit→YT:=kseq P (cA c113 30) (cA c113 31) none [6,7] [6,7] (f113_kb K)
theorem f113_s7_eq (d c:Addr) (e:Int) (f:Addr) (w:World) (K:KT):f113_s7 d c e f w K=(∃ (g:Option Addr) (h i:Nat),w.cell? c=some (Value.slice g h i)∧LdA 4 f w (fun j=>sizesAre 4 [(Value.agg j)]∧NewC (([(Value.agg j)].map fun (v:Value)=>v.cells.toList).flatten.toArray) 99 w (fun a0 b0=>∃ (k:Option Addr) (l m:Nat),∃ n:World,(Builtin.append_ #[57,57] 57 [(Value.slice g h i),(Value.slice (some (Addr.mk a0 0 none)) 1 1)].toArray).run P b0=.ok (Value.slice k l m) n∧St1 c (Value.slice k l m) n (fun o=>∃ (p:Option Addr) (q r:Nat),o.cell? (c.add 1)=some (Value.slice p q r)∧sizesAre 1 [(Value.int .i64 e)]∧NewC (([(Value.int .i64 e)].map fun (v:Value)=>v.cells.toList).flatten.toArray) 3 o (fun c0 d0=>∃ (s:Option Addr) (t u:Nat),∃ x:World,(Builtin.append_ #[39,39] 39 [(Value.slice p q r),(Value.slice (some (Addr.mk c0 0 none)) 1 1)].toArray).run P d0=.ok (Value.slice s t u) x∧St1 (c.add 1) (Value.slice s t u) x (fun y=>LdA 20 c y (fun e0=>StA 20 d e0 y (fun z=>LdA 20 d z (fun f0=>K (Value.tuple [(Value.agg f0),(Value.bool true)].toArray) z))))))))):=Eq.trans (b:=CS P (cA c113 15) none [6,7] [6,7] (f113_kb K) (Env.mk 101 [(6,(VP (some d))),(3,(VP (some c))),(2,(VI e)),(4,(VP (some f)))] []) w) (by kernel_rfl) (Eq.trans (CSs (cA c113 30) (cA c113 31) [6,3,2] (f113_k14 K) (by kernel_rfl) (by kernel_rfl) (by kernel_rfl)) (by kernel_rfl))
theorem f113_s6_eq (e d:Addr) (f:Int) (c:Addr) (w:World) (K:KT):f113_s6 e d f c w K=(∃ i:Int,w.cell? c=some (Value.int .i64 i)∧BIf ((i:Int) == 5) (∃ g:Int,w.cell? (c.add 2)=some (Value.int .i64 g)∧0≤(g:Int)∧(g:Int) < (8:Nat)∧St1 ((d.add 3).add (Int.toNat g * 1)) (Value.bool true) w (fun j=>f113_s7 e d f c j K)) (∃ h:Int,w.cell? (c.add 2)=some (Value.int .i64 h)∧0≤(h:Int)∧(h:Int) < (8:Nat)∧St1 ((d.add 11).add (Int.toNat h * 1)) (Value.bool true) w (fun k=>f113_s7 e d f c k K))):=Eq.trans (b:=CS P (cA c113 471) none [6,3,2,4] [6,7] (f113_k4 K) (Env.mk 101 [(6,(VP (some e))),(3,(VP (some d))),(2,(VI f)),(4,(VP (some c)))] []) w) (by kernel_rfl) (Eq.trans (CSs (cA c113 942) (cA c113 943) [79,6,3,2,4] (f113_k13 K) (by kernel_rfl) (by kernel_rfl) (by kernel_rfl)) (by kernel_rfl))
theorem f113_s5_eq (d:Bool) (a c:Addr) (e:Int) (f:Addr) (w:World) (K:KT):f113_s5 d a c e f w K=(BIf d (LdA 20 c w (fun h=>StA 20 a h w (fun g=>LdA 20 a g (fun i=>K (Value.tuple [(Value.agg i),(Value.bool false)].toArray) g)))) (f113_s6 a c e f w K)):=Eq.trans (b:=CS P (cA c113 941) none [6,3,2,4] [6,7] (f113_k10 K) (Env.mk 101 [(75,(VB d)),(6,(VP (some a))),(3,(VP (some c))),(2,(VI e)),(4,(VP (some f)))] []) w) (by kernel_rfl) (by kernel_rfl)
theorem f113_s4_eq (e d:Addr) (f:Int) (c:Addr) (w:World) (K:KT):f113_s4 e d f c w K=(∃ g:Int,w.drew.cell? (c.add 2)=some (Value.int .i64 g)∧0≤(g:Int)∧(g:Int) < (8:Nat)∧∃ h:Bool,w.drew.cell? ((d.add 3).add (Int.toNat g * 1))=some (Value.bool h)∧∃ i:Int,w.drew.cell? (c.add 2)=some (Value.int .i64 i)∧0≤(i:Int)∧(i:Int) < (8:Nat)∧∃ j:Bool,w.drew.cell? ((d.add 11).add (Int.toNat i * 1))=some (Value.bool j)∧∃ k:Int,w.drew.cell? c=some (Value.int .i64 k)∧BIf ((k:Int) == 5) (BIf h (f113_s5 true e d f c w.drew K) (∃ l:Int,w.drew.cell? c=some (Value.int .i64 l)∧BIf ((l:Int) == 6) (BIf (!h) (f113_s5 true e d f c w.drew K) (BIf j (f113_s5 true e d f c w.drew K) (∃ m:Int,w.drew.cell? (c.add 2)=some (Value.int .i64 m)∧∃ n:Int,w.drew.cell? (c.add 1)=some (Value.int .i64 n)∧f113_s5 ((m:Int) == n) e d f c w.drew K))) (f113_s5 false e d f c w.drew K))) (∃ o:Int,w.drew.cell? c=some (Value.int .i64 o)∧BIf ((o:Int) == 6) (BIf (!h) (f113_s5 true e d f c w.drew K) (BIf j (f113_s5 true e d f c w.drew K) (∃ p:Int,w.drew.cell? (c.add 2)=some (Value.int .i64 p)∧∃ q:Int,w.drew.cell? (c.add 1)=some (Value.int .i64 q)∧f113_s5 ((p:Int) == q) e d f c w.drew K))) (f113_s5 false e d f c w.drew K))):=Eq.trans (b:=CS P (cA c113 117) none [6,3,2,4] [6,7] (f113_k4 K) (Env.mk 101 [(6,(VP (some e))),(3,(VP (some d))),(2,(VI f)),(4,(VP (some c)))] []) w) (by kernel_rfl) (Eq.trans (CSs (cA c113 234) (cA c113 235) [6,3,2,4,9,8] (f113_k9 K) (by kernel_rfl) (by kernel_rfl) (by kernel_rfl)) (by kernel_rfl))
theorem f113_s3_eq (d:Bool) (a c:Addr) (e:Int) (f:Addr) (w:World) (K:KT):f113_s3 d a c e f w K=(BIf d (LdA 20 c w (fun h=>StA 20 a h w (fun g=>LdA 20 a g (fun i=>K (Value.tuple [(Value.agg i),(Value.bool false)].toArray) g)))) (f113_s4 a c e f w K)):=Eq.trans (b:=CS P (cA c113 233) none [6,3,2,4] [6,7] (f113_k6 K) (Env.mk 101 [(39,(VB d)),(6,(VP (some a))),(3,(VP (some c))),(2,(VI e)),(4,(VP (some f)))] []) w) (by kernel_rfl) (by kernel_rfl)
theorem f113_s2_eq (f:Bool) (c d:Addr) (e:Int) (a:Addr) (w:World) (K:KT):f113_s2 f c d e a w K=(BIf f (∃ g:Int,w.cell? (a.add 2)=some (Value.int .i64 g)∧BIf (decide ((g:Int) < 0)) (f113_s3 true c d e a w K) (∃ h:Int,w.cell? (a.add 2)=some (Value.int .i64 h)∧f113_s3 (decide ((h:Int)≥8)) c d e a w K)) (f113_s7 c d e a w K)):=Eq.trans (b:=CS P (cA c113 29) none [6,3,2,4] [6,7] (f113_k4 K) (Env.mk 101 [(31,(VB f)),(6,(VP (some c))),(3,(VP (some d))),(2,(VI e)),(4,(VP (some a)))] []) w) (by kernel_rfl) (by kernel_rfl)
theorem f113_s1_eq (d e:Addr) (f:Int) (c:Addr) (w:World) (K:KT):f113_s1 d e f c w K=(∃ g:Int,w.cell? c=some (Value.int .i64 g)∧BIf ((g:Int) == 5) (f113_s2 true d e f c w K) (∃ h:Int,w.cell? c=some (Value.int .i64 h)∧f113_s2 ((h:Int) == 6) d e f c w K)):=Eq.trans (b:=CS P (cA c113 7) none [6,7] [6,7] (f113_kb K) (Env.mk 101 [(6,(VP (some d))),(3,(VP (some e))),(2,(VI f)),(4,(VP (some c)))] []) w) (by kernel_rfl) (Eq.trans (CSs (cA c113 14) (cA c113 15) [6,3,2,4] (f113_k4 K) (by kernel_rfl) (by kernel_rfl) (by kernel_rfl)) (Eq.trans (CSs (cA c113 28) (cA c113 29) [31,6,3,2,4] (f113_k5 K) (by kernel_rfl) (by kernel_rfl) (by kernel_rfl)) (by kernel_rfl)))
theorem f113_s0_eq (d:Bool) (a c:Addr) (e:Int) (f:Addr) (w:World) (K:KT):f113_s0 d a c e f w K=(BIf d (LdA 20 c w (fun h=>StA 20 a h w (fun g=>LdA 20 a g (fun i=>K (Value.tuple [(Value.agg i),(Value.bool false)].toArray) g)))) (f113_s1 a c e f w K)):=Eq.trans (b:=CS P (cA c113 13) none [6,3,2,4] [6,7] (f113_k1 K) (Env.mk 101 [(22,(VB d)),(6,(VP (some a))),(3,(VP (some c))),(2,(VI e)),(4,(VP (some f)))] []) w) (by kernel_rfl) (by kernel_rfl)
theorem f113_eq (g h:Array Value) (f:Int) (w:World) (K:KT):f113 g h f w K=(NewC g 113 w (fun b l=>NewC h 99 l (fun c m=>NewC (zcells P 113) 113 m (fun i a=>∃ d:Int,a.cell? ((Addr.mk c 0 none).add 1)=some (Value.int .i64 d)∧0≤(d:Int)∧(d:Int) < (8:Nat)∧∃ j:Bool,a.cell? (((Addr.mk b 0 none).add 3).add (Int.toNat d * 1))=some (Value.bool j)∧BIf (!j) (f113_s0 true (Addr.mk i 0 none) (Addr.mk b 0 none) f (Addr.mk c 0 none) a K) (∃ e:Int,a.cell? ((Addr.mk c 0 none).add 1)=some (Value.int .i64 e)∧0≤(e:Int)∧(e:Int) < (8:Nat)∧∃ k:Bool,a.cell? (((Addr.mk b 0 none).add 11).add (Int.toNat e * 1))=some (Value.bool k)∧f113_s0 k (Addr.mk i 0 none) (Addr.mk b 0 none) f (Addr.mk c 0 none) a K))))):=by kernel_rfl
theorem c113_eq:Go.Proofs.Try.f113.body=some c113:=by kernel_rfl
theorem f113_un (a b:Array Value) (c:Int) (w:World) (K:KT):f113 a b c w K=CS P c113 none (resT Go.Proofs.Try.f113.results.toList) (resT Go.Proofs.Try.f113.results.toList) (bodyK P Go.Proofs.Try.f113.results.toList K) (env0 Go.Proofs.Try.f113.ntmps [(Value.agg a),(Value.agg b),(Value.int .i64 c)]) w:=by kernel_rfl
theorem f113_ok (a b:Array Value) (c:Int) (w:World) (K:KT) (h:f113 a b c w K):CallL P 113 [(Value.agg a),(Value.agg b),(Value.int .i64 c)] w K:=calls_of_CS Go.Proofs.Try.func113 c113_eq (Eq.mp (f113_un a b c w K) h)
noncomputable def c93:Code:=match Go.Proofs.Try.f93.body with
 | some c=>c
 | none=>.skip
noncomputable def rs93:List ResultVar:=Go.Proofs.Try.f93.results.toList
abbrev f93_kb (K:KT):Exit→YT:=bodyK P rs93 K
def f93 (a b:Array Value) (c:Int) (w:World) (K:KT):Prop:=CS P c93 none [6,7] [6,7] (f93_kb K) (env0 98 [(Value.agg a),(Value.agg b),(VI c)]) w
def f93_s0 (a b:Array Value) (c:Int) (w:World) (K:KT):Prop:=CS P (cA c93 1) none [6,7] [6,7] (f93_kb K) (Env.mk 98 [(0,(Value.agg a)),(1,(Value.agg b)),(2,(VI c))] []) w
abbrev f93_k0 (K:KT):Exit→YT:=kseq P (cA c93 2) (cA c93 3) none [6,7] [6,7] (f93_kb K)
def f93_s1 (a b c:Addr) (d e:Array Value) (f:Int) (w:World) (K:KT):Prop:=CS P (cA c93 3) none [6,7] [6,7] (f93_kb K) (Env.mk 98 [(7,(VB false)),(6,(VP (some a))),(4,(VP (some b))),(3,(VP (some c))),(0,(Value.agg d)),(1,(Value.agg e)),(2,(VI f))] []) w
abbrev f93_k1 (K:KT):Exit→YT:=kseq P (cA c93 6) (cA c93 7) none [6,7] [6,7] (f93_kb K)
abbrev f93_k2 (K:KT):Exit→YT:=kseq P (cA c93 12) (cA c93 13) none [6,2,4,3,7] [6,7] (f93_k1 K)
def f93_s2 (a:Addr) (b:Int) (c d:Addr) (f:Bool) (w:World) (K:KT):Prop:=Join (fun e w=>CS P (cA c93 7) none [6,7] [6,7] (f93_kb K) e w) (Env.mk 98 [(6,(VP (some a))),(2,(VI b)),(4,(VP (some c))),(3,(VP (some d))),(7,(VB f))] []) w
abbrev f93_k4 (K:KT):Exit→YT:=kseq P (cA c93 14) (cA c93 15) none [6,7] [6,7] (f93_kb K)
abbrev f93_k5 (K:KT):Exit→YT:=kseq P (cA c93 28) (cA c93 29) none [6,2,4,3] [6,7] (f93_k4 K)
def f93_s3 (a:Int) (b c:Addr) (d:Int) (e f:Addr) (g:Bool) (w:World) (K:KT):Prop:=CS P (cA c93 29) none [6,2,4,3] [6,7] (f93_k4 K) (Env.mk 98 [(17,(VI a)),(16,(VP (some b))),(6,(VP (some c))),(2,(VI d)),(4,(VP (some e))),(3,(VP (some f))),(7,(VB g))] []) w
abbrev f93_k6 (K:KT):Exit→YT:=kblock 0 (f93_k4 K)
abbrev f93_k7 (K:KT):Exit→YT:=kseq P (cA c93 116) (cA c93 117) none [6,2,4,3] [6,7,2,4,3] (f93_k6 K)
def f93_s4 (a b:Bool) (c:Int) (d e:Addr) (f:Int) (g h:Addr) (i:Bool) (w:World) (K:KT):Prop:=CS P (cA c93 234) none [6,2,4,3] [6,7,2,4,3] (f93_k6 K) (Env.mk 98 [(18,(VB true)),(18,(VB a)),(19,(VB b)),(17,(VI c)),(16,(VP (some d))),(6,(VP (some e))),(2,(VI f)),(4,(VP (some g))),(3,(VP (some h))),(7,(VB i))] []) w
abbrev f93_k8 (K:KT):Exit→YT:=kseq P (cA c93 468) (cA c93 469) none [6,2,4,3] [6,7,2,4,3] (f93_k6 K)
def f93_s5 (a:Option Addr) (b c:Nat) (d:Option Addr) (e f:Nat) (g:Array Value) (h i:Bool) (j:Int) (k l:Addr) (m:Int) (n o:Addr) (p:Bool) (w:World) (K:KT):Prop:=CS P (cA c93 469) none [6,2,4,3] [6,7,2,4,3] (f93_k6 K) (Env.mk 98 [(8,(VS a b c)),(21,(VS d e f)),(20,(Value.agg g)),(18,(VB true)),(18,(VB h)),(19,(VB i)),(17,(VI j)),(16,(VP (some k))),(6,(VP (some l))),(2,(VI m)),(4,(VP (some n))),(3,(VP (some o))),(7,(VB p))] []) w
abbrev f93_k9 (K:KT):Exit→YT:=kseq P (cA c93 938) (cA c93 939) none [6,2,4,3] [6,7,2,4,3] (f93_k6 K)
abbrev f93_k10 (K:KT):Exit→YT:=kseq P (cA c93 1876) (cA c93 1877) none [6,2,4,3] [6,7,2,4,3] (f93_k9 K)
def f93_s6 (a:Int) (b:Option Addr) (c d:Nat) (e:Option Addr) (f g:Nat) (h:Array Value) (i j:Bool) (k:Int) (l m:Addr) (n:Int) (o p:Addr) (q:Bool) (w:World) (K:KT):Prop:=CS P (cA c93 1877) none [6,2,4,3] [6,7,2,4,3] (f93_k9 K) (Env.mk 98 [(9,(VI a)),(8,(VS b c d)),(21,(VS e f g)),(20,(Value.agg h)),(18,(VB true)),(18,(VB i)),(19,(VB j)),(17,(VI k)),(16,(VP (some l))),(6,(VP (some m))),(2,(VI n)),(4,(VP (some o))),(3,(VP (some p))),(7,(VB q))] []) w
abbrev f93_k11 (K:KT):Exit→YT:=kblock 1 (f93_k9 K)
def f93_lp7 (K:KT) (Y7:YT) (e:Env) (w:World):Prop:=Join (fun e w=>CS P (cA c93 7508) none [6,2,4,3,9,8,7] [6,7,2,4,3] (kloop [6,2,4,3,9,8,7] Y7 (f93_k11 K)) e w) e w
abbrev f93_kl7 (K:KT) (Y7:YT):Exit→YT:=kloop [6,2,4,3,9,8,7] Y7 (f93_k11 K)
def f93_lb7 (a:Addr) (b:Int) (c d:Addr) (f:Int) (g:Option Addr) (h i:Nat) (j:Bool) (w:World) (K:KT) (Y7:YT):Prop:=Join (fun e w=>CS P (cA c93 7508) none [6,2,4,3,9,8,7] [6,7,2,4,3] (f93_kl7 K Y7) e w) (Env.mk 98 [(6,(VP (some a))),(2,(VI b)),(4,(VP (some c))),(3,(VP (some d))),(9,(VI f)),(8,(VS g h i)),(7,(VB j))] []) w
abbrev f93_k12 (K:KT) (Y7:YT):Exit→YT:=kseq P (cA c93 15016) (cA c93 15017) none [6,2,4,3,9,8,7] [6,7,2,4,3] (f93_kl7 K Y7)
abbrev f93_k13 (K:KT) (Y7:YT):Exit→YT:=kseq P (cA c93 30032) (cA c93 30033) none [6,2,4,3,8,9,7] [6,7,2,4,3] (f93_k12 K Y7)
def f93_s8 (a:Addr) (b:Int) (c d:Addr) (f:Option Addr) (g h:Nat) (i:Int) (j:Bool) (w:World) (K:KT) (Y7:YT):Prop:=Join (fun e w=>CS P (cA c93 15017) none [6,2,4,3,9,8,7] [6,7,2,4,3] (f93_kl7 K Y7) e w) (Env.mk 98 [(6,(VP (some a))),(2,(VI b)),(4,(VP (some c))),(3,(VP (some d))),(8,(VS f g h)),(9,(VI i)),(7,(VB j))] []) w
abbrev f93_k14 (K:KT) (Y7:YT):Exit→YT:=kseq P (cA c93 30034) (cA c93 30035) none [6,2,4,3,9,8,7] [6,7,2,4,3] (f93_kl7 K Y7)
abbrev f93_k15 (K:KT) (Y7:YT):Exit→YT:=kblock 2 (f93_k14 K Y7)
abbrev f93_k16 (K:KT) (Y7:YT):Exit→YT:=kseq P (cA c93 120136) (cA c93 120137) none [6,2,4,3,8,7,9] [6,7,2,4,3,8,9] (f93_k15 K Y7)
def f93_s9 (a:Addr) (b:Int) (c d:Addr) (f:Option Addr) (g h:Nat) (i:Int) (j:Bool) (k:Addr) (l:Bool) (w:World) (K:KT) (Y7:YT):Prop:=Join (fun e w=>CS P (cA c93 120137) none [6,2,4,3,8,7,9] [6,7,2,4,3,8,9] (f93_k15 K Y7) e w) (Env.mk 98 [(6,(VP (some a))),(2,(VI b)),(4,(VP (some c))),(3,(VP (some d))),(8,(VS f g h)),(9,(VI i)),(7,(VB j)),(10,(VP (some k))),(11,(VB l))] []) w
abbrev f93_k17 (K:KT) (Y7:YT):Exit→YT:=kseq P (cA c93 240274) (cA c93 240275) none [6,2,4,3,8,7,9] [6,7,2,4,3,8,9] (f93_k15 K Y7)
abbrev f93_k18 (K:KT) (Y7:YT):Exit→YT:=kseq P (cA c93 480548) (cA c93 480549) none [6,2,4,3,8,7,9,10] [6,7,2,4,3,8,9] (f93_k17 K Y7)
def f93_s10 (a:Addr) (b:Int) (c d:Addr) (f:Option Addr) (g h:Nat) (i:Bool) (j:Int) (k:Addr) (w:World) (K:KT) (Y7:YT):Prop:=Join (fun e w=>CS P (cA c93 240275) none [6,2,4,3,8,7,9] [6,7,2,4,3,8,9] (f93_k15 K Y7) e w) (Env.mk 98 [(6,(VP (some a))),(2,(VI b)),(4,(VP (some c))),(3,(VP (some d))),(8,(VS f g h)),(7,(VB i)),(9,(VI j)),(10,(VP (some k)))] []) w
def f93_s11 (a:Addr) (b:Int) (c d:Addr) (f:Option Addr) (g h:Nat) (i:Bool) (j:Int) (w:World) (K:KT) (Y7:YT):Prop:=Join (fun e w=>CS P (cA c93 30035) none [6,2,4,3,9,8,7] [6,7,2,4,3] (f93_kl7 K Y7) e w) (Env.mk 98 [(6,(VP (some a))),(2,(VI b)),(4,(VP (some c))),(3,(VP (some d))),(8,(VS f g h)),(7,(VB i)),(9,(VI j))] []) w
theorem f93_s11_eq (a:Addr) (c:Int) (d e:Addr) (f:Option Addr) (g h:Nat) (i:Bool) (j:Int) (w:World) (K:KT) (Y7:YT):f93_s11 a c d e f g h i j w K Y7=(Y7 (Env.mk 98 [(6,(Value.pointer (some a))),(2,(Value.int .i64 c)),(4,(Value.pointer (some d))),(3,(Value.pointer (some e))),(9,(Value.int .i64 (IntKind.wrap .i64 ((j:Int)+1)))),(8,(Value.slice f g h)),(7,(Value.bool i))] []) w):=Eq.trans (b:=CS P (cA c93 30035) none [6,2,4,3,9,8,7] [6,7,2,4,3] (f93_kl7 K Y7) (Env.mk 98 [(6,(VP (some a))),(2,(VI c)),(4,(VP (some d))),(3,(VP (some e))),(8,(VS f g h)),(7,(VB i)),(9,(VI j))] []) w) (by kernel_rfl) (by kernel_rfl)
theorem f93_s10_eq (c:Addr) (d:Int) (e a:Addr) (f:Option Addr) (g h:Nat) (i:Bool) (j:Int) (k:Addr) (w:World) (K:KT) (Y7:YT):f93_s10 c d e a f g h i j k w K Y7=(LdA 20 k w (fun l=>StA 20 a l w (fun m=>f93_s11 c d e a f g h i j m K Y7))):=Eq.trans (b:=CS P (cA c93 240275) none [6,2,4,3,8,7,9] [6,7,2,4,3,8,9] (f93_k15 K Y7) (Env.mk 98 [(6,(VP (some c))),(2,(VI d)),(4,(VP (some e))),(3,(VP (some a))),(8,(VS f g h)),(7,(VB i)),(9,(VI j)),(10,(VP (some k)))] []) w) (by kernel_rfl) (by kernel_rfl)
theorem f93_s9_eq (c:Addr) (e:Int) (f d:Addr) (g:Option Addr) (h i:Nat) (j:Int) (k:Bool) (l:Addr) (m:Bool) (w:World) (K:KT) (Y7:YT):f93_s9 c e f d g h i j k l m w K Y7=(BIf (!m) (LdA 20 d w (fun o=>StA 20 c o w (fun n=>LdA 20 c n (fun p=>K (Value.tuple [(Value.agg p),(Value.bool false)].toArray) n)))) (f93_s10 c e f d g h i k j l w K Y7)):=Eq.trans (b:=CS P (cA c93 120137) none [6,2,4,3,8,7,9] [6,7,2,4,3,8,9] (f93_k15 K Y7) (Env.mk 98 [(6,(VP (some c))),(2,(VI e)),(4,(VP (some f))),(3,(VP (some d))),(8,(VS g h i)),(9,(VI j)),(7,(VB k)),(10,(VP (some l))),(11,(VB m))] []) w) (by kernel_rfl) (Eq.trans (CSs (cA c93 240274) (cA c93 240275) [6,2,4,3,8,7,9,10] (f93_k17 K Y7) (by kernel_rfl) (by kernel_rfl) (by kernel_rfl)) (Eq.trans (CSs (cA c93 480548) (cA c93 480549) [40,6,2,4,3,8,9,7,10] (f93_k18 K Y7) (by kernel_rfl) (by kernel_rfl) (by kernel_rfl)) (by kernel_rfl)))
theorem f93_s8_eq (i:Addr) (d:Int) (e f:Addr) (g:Option Addr) (h j:Nat) (c:Int) (k:Bool) (w:World) (K:KT) (Y7:YT):f93_s8 i d e f g h j c k w K Y7=(optS g (fun u=>0≤(c:Int)∧(c:Int) < (h:Nat)∧LdA 20 f w.drew (fun l=>LdA 6 e w.drew (fun m=>LdA 2 (u.add (Int.toNat c * 2)) w.drew (fun n=>(CallL P 112 [(Value.agg l),(Value.int .i64 4),(Value.agg m),(Value.agg n),(Value.int .i64 d)] w.drew (fun v x=>∃ o:Array Value,∃ p:Bool,v=(Value.tuple [(Value.agg o),(Value.bool p)].toArray)∧NewC (zcells P 113) 113 x (fun q y=>StA 20 (Addr.mk q 0 none) o y (fun z=>f93_s9 i d e f g h j c k (Addr.mk q 0 none) p z K Y7))))∧(NewC (zcells P 113) 113 w.drew (fun r a0=>CallL P 112 [(Value.agg l),(Value.int .i64 4),(Value.agg m),(Value.agg n),(Value.int .i64 d)] a0 (fun b0 c0=>∃ s:Array Value,∃ t:Bool,b0=(Value.tuple [(Value.agg s),(Value.bool t)].toArray)∧StA 20 (Addr.mk r 0 none) s c0 (fun d0=>f93_s9 i d e f g h j c k (Addr.mk r 0 none) t d0 K Y7))))))))):=Eq.trans (b:=CS P (cA c93 15017) none [6,2,4,3,9,8,7] [6,7,2,4,3] (f93_kl7 K Y7) (Env.mk 98 [(6,(VP (some i))),(2,(VI d)),(4,(VP (some e))),(3,(VP (some f))),(8,(VS g h j)),(9,(VI c)),(7,(VB k))] []) w) (by kernel_rfl) (Eq.trans (CSs (cA c93 30034) (cA c93 30035) [6,2,4,3,8,7,9] (f93_k14 K Y7) (by kernel_rfl) (by kernel_rfl) (by kernel_rfl)) (Eq.trans (CSb 2 (cA c93 60068) [6,7,2,4,3,8,9] (f93_k15 K Y7) (by kernel_rfl) (by kernel_rfl) (by kernel_rfl)) (Eq.trans (CSs (cA c93 120136) (cA c93 120137) [6,2,4,3,8,9,7,10,11] (f93_k16 K Y7) (by kernel_rfl) (by kernel_rfl) (by kernel_rfl)) (by kernel_rfl))))
def f93_s12 (a:Addr) (b:Int) (c d:Addr) (w:World) (K:KT):Prop:=Join (fun e w=>CS P (cA c93 939) none [6,2,4,3] [6,7,2,4,3] (f93_k6 K) e w) (Env.mk 98 [(6,(VP (some a))),(2,(VI b)),(4,(VP (some c))),(3,(VP (some d)))] []) w
abbrev f93_k20 (K:KT):Exit→YT:=kseq P (cA c93 1878) (cA c93 1879) none [6,2,4,3] [6,7,2,4,3] (f93_k6 K)
theorem f93_s12_eq (c:Addr) (e:Int) (f d:Addr) (w:World) (K:KT):f93_s12 c e f d w K=(LdA 20 d w (fun h=>StA 20 c h w (fun g=>LdA 20 c g (fun i=>K (Value.tuple [(Value.agg i),(Value.bool true)].toArray) g)))):=Eq.trans (b:=CS P (cA c93 939) none [6,2,4,3] [6,7,2,4,3] (f93_k6 K) (Env.mk 98 [(6,(VP (some c))),(2,(VI e)),(4,(VP (some f))),(3,(VP (some d)))] []) w) (by kernel_rfl) (Eq.trans (CSs (cA c93 1878) (cA c93 1879) [6,7,2,4,3] (f93_k20 K) (by kernel_rfl) (by kernel_rfl) (by kernel_rfl)) (by kernel_rfl))
theorem f93_lb7_eq (c:Addr) (d:Int) (e f:Addr) (g:Int) (h:Option Addr) (i j:Nat) (k:Bool) (w:World) (K:KT) (Y7:YT):f93_lb7 c d e f g h i j k w K Y7=(∃ l:Int,(∀ wq,Ext w wq→(Builtin.len_ #[110] 3 [(Value.slice h i j)].toArray).run P wq=.ok (Value.int .i64 l) wq)∧BIf (decide ((g:Int) < l)) (f93_s8 c d e f h i j g k w K Y7) (f93_s12 c d e f w K)):=Eq.trans (b:=CS P (cA c93 7508) none [6,2,4,3,9,8,7] [6,7,2,4,3] (f93_kl7 K Y7) (Env.mk 98 [(6,(VP (some c))),(2,(VI d)),(4,(VP (some e))),(3,(VP (some f))),(9,(VI g)),(8,(VS h i j)),(7,(VB k))] []) w) (by kernel_rfl) (Eq.trans (CSs (cA c93 15016) (cA c93 15017) [6,2,4,3,8,9,7] (f93_k12 K Y7) (by kernel_rfl) (by kernel_rfl) (by kernel_rfl)) (Eq.trans (CSs (cA c93 30032) (cA c93 30033) [25,6,2,4,3,8,9,7] (f93_k13 K Y7) (by kernel_rfl) (by kernel_rfl) (by kernel_rfl)) (by kernel_rfl)))
theorem f93_s6_eq (a:Int) (c:Option Addr) (d e:Nat) (k:Option Addr) (l m:Nat) (n:Array Value) (o p:Bool) (q:Int) (r f:Addr) (g:Int) (h i:Addr) (j:Bool) (w:World) (K:KT):f93_s6 a c d e k l m n o p q r f g h i j w K=(LoopE (f93_lp7 K) (Env.mk 98 [(6,(Value.pointer (some f))),(2,(Value.int .i64 g)),(4,(Value.pointer (some h))),(3,(Value.pointer (some i))),(9,(Value.int .i64 a)),(8,(Value.slice c d e)),(7,(Value.bool j))] []) w):=Eq.trans (b:=CS P (cA c93 1877) none [6,2,4,3] [6,7,2,4,3] (f93_k9 K) (Env.mk 98 [(9,(VI a)),(8,(VS c d e)),(21,(VS k l m)),(20,(Value.agg n)),(18,(VB true)),(18,(VB o)),(19,(VB p)),(17,(VI q)),(16,(VP (some r))),(6,(VP (some f))),(2,(VI g)),(4,(VP (some h))),(3,(VP (some i))),(7,(VB j))] []) w) (by kernel_rfl) (Eq.trans (CSb 1 (cA c93 3754) [6,7,2,4,3] (f93_k11 K) (by kernel_rfl) (by kernel_rfl) (by kernel_rfl)) ((CS_loop' (b:=(cA c93 7508)) (X':=[6,7,2,4,3]) (H:=[6,2,4,3,9,8,7]) (by kernel_rfl) (by kernel_rfl) (by kernel_rfl)).trans (by kernel_rfl)))
theorem f93_s5_eq (c:Option Addr) (d e:Nat) (f:Option Addr) (g h:Nat) (i:Array Value) (j k:Bool) (l:Int) (m n:Addr) (o:Int) (p q:Addr) (r:Bool) (w:World) (K:KT):f93_s5 c d e f g h i j k l m n o p q r w K=(f93_s6 0 c d e f g h i j k l m n o p q r w K):=Eq.trans (b:=CS P (cA c93 469) none [6,2,4,3] [6,7,2,4,3] (f93_k6 K) (Env.mk 98 [(8,(VS c d e)),(21,(VS f g h)),(20,(Value.agg i)),(18,(VB true)),(18,(VB j)),(19,(VB k)),(17,(VI l)),(16,(VP (some m))),(6,(VP (some n))),(2,(VI o)),(4,(VP (some p))),(3,(VP (some q))),(7,(VB r))] []) w) (by kernel_rfl) (Eq.trans (CSs (cA c93 938) (cA c93 939) [6,2,4,3] (f93_k9 K) (by kernel_rfl) (by kernel_rfl) (by kernel_rfl)) (Eq.trans (CSs (cA c93 1876) (cA c93 1877) [6,2,4,3,9,8,7] (f93_k10 K) (by kernel_rfl) (by kernel_rfl) (by kernel_rfl)) (by kernel_rfl)))
theorem f93_s4_eq (d e:Bool) (f:Int) (g h:Addr) (i:Int) (c j:Addr) (k:Bool) (w:World) (K:KT):f93_s4 d e f g h i c j k w K=(LdA 6 c w (fun o=>CallL P 111 [(Value.agg o)] w (fun p q=>∃ (l:Option Addr) (m n:Nat),p=(Value.slice l m n)∧f93_s5 l m n l m n o d e f g h i c j k q K))):=Eq.trans (b:=CS P (cA c93 234) none [6,2,4,3] [6,7,2,4,3] (f93_k6 K) (Env.mk 98 [(18,(VB true)),(18,(VB d)),(19,(VB e)),(17,(VI f)),(16,(VP (some g))),(6,(VP (some h))),(2,(VI i)),(4,(VP (some c))),(3,(VP (some j))),(7,(VB k))] []) w) (by kernel_rfl) (Eq.trans (CSs (cA c93 468) (cA c93 469) [6,2,4,3,8,7] (f93_k8 K) (by kernel_rfl) (by kernel_rfl) (by kernel_rfl)) (by kernel_rfl))
def f93_s13 (a:Addr) (b:Int) (c d:Addr) (w:World) (K:KT):Prop:=Join (fun e w=>CS P (cA c93 15) none [6,7] [6,7] (f93_kb K) e w) (Env.mk 98 [(6,(VP (some a))),(2,(VI b)),(4,(VP (some c))),(3,(VP (some d)))] []) w
abbrev f93_k29 (K:KT):Exit→YT:=kseq P (cA c93 30) (cA c93 31) none [6,7] [6,7] (f93_kb K)
theorem f93_s13_eq (c:Addr) (d:Int) (e f:Addr) (w:World) (K:KT):f93_s13 c d e f w K=(LdA 20 f w (fun l=>∃ g:Int,w.cell? (e.add 1)=some (Value.int .i64 g)∧∃ h:Array Value,(∀ wq,(Instr.build 99 [(0,(Value.int .i64 1)),(1,(Value.int .i64 g))].toArray).run P wq=.ok (Value.agg h) wq)∧CallL P 113 [(Value.agg l),(Value.agg h),(Value.int .i64 d)] w (fun m n=>∃ i:Array Value,∃ j:Bool,m=(Value.tuple [(Value.agg i),(Value.bool j)].toArray)∧StA 20 c i n (fun k=>LdA 20 c k (fun o=>K (Value.tuple [(Value.agg o),(Value.bool j)].toArray) k))))):=Eq.trans (b:=CS P (cA c93 15) none [6,7] [6,7] (f93_kb K) (Env.mk 98 [(6,(VP (some c))),(2,(VI d)),(4,(VP (some e))),(3,(VP (some f)))] []) w) (by kernel_rfl) (Eq.trans (CSs (cA c93 30) (cA c93 31) [6,7] (f93_k29 K) (by kernel_rfl) (by kernel_rfl) (by kernel_rfl)) (by kernel_rfl))
theorem f93_s3_eq (e:Int) (h c:Addr) (f:Int) (d g:Addr) (i:Bool) (w:World) (K:KT):f93_s3 e h c f d g i w K=(BIf ((e:Int) == 4) (f93_s4 ((e:Int) == 4) ((e:Int) == 4) e h c f d g i w K) (BIf ((e:Int) == 14) (LdA 20 g w (fun g0=>LdA 6 d w (fun h0=>∃ j:Int,w.cell? (d.add 3)=some (Value.int .u32 j)∧∃ k:Array Value,(∀ wq,(Instr.build 199 [(1,(Value.int .u32 j))].toArray).run P wq=.ok (Value.agg k) wq)∧CallL P 112 [(Value.agg g0),(Value.int .i64 3),(Value.agg h0),(Value.agg k),(Value.int .i64 f)] w (fun i0 j0=>∃ l:Array Value,∃ m:Bool,i0=(Value.tuple [(Value.agg l),(Value.bool m)].toArray)∧StA 20 c l j0 (fun n=>LdA 20 c n (fun l0=>K (Value.tuple [(Value.agg l0),(Value.bool m)].toArray) n)))))) (BIf ((e:Int) == 15) (LdA 20 g w (fun m0=>LdA 6 d w (fun n0=>∃ o:Int,w.cell? (d.add 3)=some (Value.int .u32 o)∧∃ p:Array Value,(∀ wq,(Instr.build 199 [(1,(Value.int .u32 o))].toArray).run P wq=.ok (Value.agg p) wq)∧CallL P 112 [(Value.agg m0),(Value.int .i64 2),(Value.agg n0),(Value.agg p),(Value.int .i64 f)] w (fun o0 p0=>∃ q:Array Value,∃ r:Bool,o0=(Value.tuple [(Value.agg q),(Value.bool r)].toArray)∧StA 20 c q p0 (fun s=>LdA 20 c s (fun q0=>K (Value.tuple [(Value.agg q0),(Value.bool r)].toArray) s)))))) (BIf ((e:Int) == 11) (LdA 20 g w (fun r0=>∃ t:Int,w.cell? (d.add 1)=some (Value.int .i64 t)∧∃ u:Int,w.cell? (d.add 5)=some (Value.int .i64 u)∧∃ v:Array Value,(∀ wq,(Instr.build 99 [(0,(Value.int .i64 5)),(1,(Value.int .i64 t)),(2,(Value.int .i64 u))].toArray).run P wq=.ok (Value.agg v) wq)∧CallL P 113 [(Value.agg r0),(Value.agg v),(Value.int .i64 f)] w (fun s0 t0=>∃ x:Array Value,∃ y:Bool,s0=(Value.tuple [(Value.agg x),(Value.bool y)].toArray)∧StA 20 c x t0 (fun z=>LdA 20 c z (fun u0=>K (Value.tuple [(Value.agg u0),(Value.bool y)].toArray) z))))) (BIf ((e:Int) == 13) (LdA 20 g w (fun v0=>∃ a0:Int,w.cell? (d.add 1)=some (Value.int .i64 a0)∧∃ b0:Int,w.cell? (d.add 5)=some (Value.int .i64 b0)∧∃ c0:Array Value,(∀ wq,(Instr.build 99 [(0,(Value.int .i64 6)),(1,(Value.int .i64 a0)),(2,(Value.int .i64 b0))].toArray).run P wq=.ok (Value.agg c0) wq)∧CallL P 113 [(Value.agg v0),(Value.agg c0),(Value.int .i64 f)] w (fun x0 y0=>∃ d0:Array Value,∃ e0:Bool,x0=(Value.tuple [(Value.agg d0),(Value.bool e0)].toArray)∧StA 20 c d0 y0 (fun f0=>LdA 20 c f0 (fun z0=>K (Value.tuple [(Value.agg z0),(Value.bool e0)].toArray) f0))))) (f93_s13 c f d g w K)))))):=Eq.trans (b:=CS P (cA c93 29) none [6,2,4,3] [6,7] (f93_k4 K) (Env.mk 98 [(17,(VI e)),(16,(VP (some h))),(6,(VP (some c))),(2,(VI f)),(4,(VP (some d))),(3,(VP (some g))),(7,(VB i))] []) w) (by kernel_rfl) (Eq.trans (CSb 0 (cA c93 58) [6,7,2,4,3] (f93_k6 K) (by kernel_rfl) (by kernel_rfl) (by kernel_rfl)) (Eq.trans (CSs (cA c93 116) (cA c93 117) [18,6,2,4,3,7,17] (f93_k7 K) (by kernel_rfl) (by kernel_rfl) (by kernel_rfl)) (by kernel_rfl)))
theorem f93_s2_eq (d:Addr) (e:Int) (c f:Addr) (g:Bool) (w:World) (K:KT):f93_s2 d e c f g w K=(∃ h:Int,w.cell? c=some (Value.int .i64 h)∧f93_s3 h c d e c f g w K):=Eq.trans (b:=CS P (cA c93 7) none [6,7] [6,7] (f93_kb K) (Env.mk 98 [(6,(VP (some d))),(2,(VI e)),(4,(VP (some c))),(3,(VP (some f))),(7,(VB g))] []) w) (by kernel_rfl) (Eq.trans (CSs (cA c93 14) (cA c93 15) [6,2,4,3] (f93_k4 K) (by kernel_rfl) (by kernel_rfl) (by kernel_rfl)) (Eq.trans (CSs (cA c93 28) (cA c93 29) [6,2,4,3,7,17] (f93_k5 K) (by kernel_rfl) (by kernel_rfl) (by kernel_rfl)) (by kernel_rfl)))
theorem f93_s1_eq (c d e:Addr) (g h:Array Value) (f:Int) (w:World) (K:KT):f93_s1 c d e g h f w K=(LdA 6 d w (fun l=>CallL P 110 [(Value.agg l)] w (fun m i=>∃ j:Bool,m=(Value.bool j)∧BIf (!j) (LdA 20 e i (fun n=>StA 20 c n i (fun k=>LdA 20 c k (fun o=>K (Value.tuple [(Value.agg o),(Value.bool false)].toArray) k)))) (f93_s2 c f d e false i K)))):=Eq.trans (b:=CS P (cA c93 3) none [6,7] [6,7] (f93_kb K) (Env.mk 98 [(7,(VB false)),(6,(VP (some c))),(4,(VP (some d))),(3,(VP (some e))),(0,(Value.agg g)),(1,(Value.agg h)),(2,(VI f))] []) w) (by kernel_rfl) (Eq.trans (CSs (cA c93 6) (cA c93 7) [6,2,4,3,7] (f93_k1 K) (by kernel_rfl) (by kernel_rfl) (by kernel_rfl)) (Eq.trans (CSs (cA c93 12) (cA c93 13) [14,6,3,2,4,7] (f93_k2 K) (by kernel_rfl) (by kernel_rfl) (by kernel_rfl)) (by kernel_rfl)))
theorem f93_s0_eq (c d:Array Value) (e:Int) (w:World) (K:KT):f93_s0 c d e w K=(NewC c 113 w (fun f g=>NewC d 35 g (fun h i=>NewC (zcells P 113) 113 i (fun j k=>f93_s1 (Addr.mk j 0 none) (Addr.mk h 0 none) (Addr.mk f 0 none) c d e k K)))):=Eq.trans (b:=CS P (cA c93 1) none [6,7] [6,7] (f93_kb K) (Env.mk 98 [(0,(Value.agg c)),(1,(Value.agg d)),(2,(VI e))] []) w) (by kernel_rfl) (Eq.trans (CSs (cA c93 2) (cA c93 3) [6,3,2,4,7] (f93_k0 K) (by kernel_rfl) (by kernel_rfl) (by kernel_rfl)) (by kernel_rfl))
theorem f93_eq (a b:Array Value) (c:Int) (w:World) (K:KT):f93 a b c w K=(f93_s0 a b c w K):=by kernel_rfl
theorem c93_eq:Go.Proofs.Try.f93.body=some c93:=by kernel_rfl
theorem f93_un (a b:Array Value) (c:Int) (w:World) (K:KT):f93 a b c w K=CS P c93 none (resT Go.Proofs.Try.f93.results.toList) (resT Go.Proofs.Try.f93.results.toList) (bodyK P Go.Proofs.Try.f93.results.toList K) (env0 Go.Proofs.Try.f93.ntmps [(Value.agg a),(Value.agg b),(Value.int .i64 c)]) w:=by kernel_rfl
theorem f93_ok (a b:Array Value) (c:Int) (w:World) (K:KT) (h:f93 a b c w K):CallL P 93 [(Value.agg a),(Value.agg b),(Value.int .i64 c)] w K:=calls_of_CS Go.Proofs.Try.func93 c93_eq (Eq.mp (f93_un a b c w K) h)
noncomputable def c60:Code:=match Go.Proofs.Try.f60.body with
 | some c=>c
 | none=>.skip
noncomputable def rs60:List ResultVar:=Go.Proofs.Try.f60.results.toList
abbrev f60_kb (K:KT):Exit→YT:=bodyK P rs60 K
def f60 (a:Option Addr) (b c:Nat) (w:World) (K:KT):Prop:=CS P c60 none [2] [2] (f60_kb K) (env0 33 [(VS a b c)]) w
def f60_s0 (a:Option Addr) (b c:Nat) (w:World) (K:KT):Prop:=CS P (cA c60 1) none [2] [2] (f60_kb K) (Env.mk 33 [(0,(VS a b c))] []) w
abbrev f60_k0 (K:KT):Exit→YT:=kseq P (cA c60 2) (cA c60 3) none [2] [2] (f60_kb K)
def f60_s1 (a:Addr) (b:Option Addr) (c d:Nat) (w:World) (K:KT):Prop:=CS P (cA c60 3) none [2] [2] (f60_kb K) (Env.mk 33 [(2,(VP (some a))),(0,(VS b c d))] []) w
abbrev f60_k1 (K:KT):Exit→YT:=kseq P (cA c60 6) (cA c60 7) none [2] [2] (f60_kb K)
abbrev f60_k2 (K:KT):Exit→YT:=kseq P (cA c60 12) (cA c60 13) none [2,0] [2] (f60_k1 K)
def f60_s2 (a:Addr) (b:Option Addr) (c d:Nat) (w:World) (K:KT):Prop:=Join (fun e w=>CS P (cA c60 7) none [2] [2] (f60_kb K) e w) (Env.mk 33 [(2,(VP (some a))),(0,(VS b c d))] []) w
abbrev f60_k4 (K:KT):Exit→YT:=kseq P (cA c60 14) (cA c60 15) none [2] [2] (f60_kb K)
def f60_s3 (a:Addr) (b:Array Value) (c:Addr) (d:Option Addr) (e f:Nat) (w:World) (K:KT):Prop:=CS P (cA c60 15) none [2] [2] (f60_kb K) (Env.mk 33 [(3,(VP (some a))),(11,(Value.agg b)),(2,(VP (some c))),(0,(VS d e f))] []) w
abbrev f60_k5 (K:KT):Exit→YT:=kseq P (cA c60 30) (cA c60 31) none [2] [2] (f60_kb K)
abbrev f60_k6 (K:KT):Exit→YT:=kseq P (cA c60 60) (cA c60 61) none [2,3] [2] (f60_k5 K)
def f60_s4 (a:Int) (b:Addr) (c:Array Value) (d:Addr) (e:Option Addr) (f g:Nat) (w:World) (K:KT):Prop:=CS P (cA c60 61) none [2,3] [2] (f60_k5 K) (Env.mk 33 [(4,(VI a)),(3,(VP (some b))),(11,(Value.agg c)),(2,(VP (some d))),(0,(VS e f g))] []) w
abbrev f60_k7 (K:KT):Exit→YT:=kblock 0 (f60_k5 K)
def f60_lp5 (K:KT) (Y5:YT) (e:Env) (w:World):Prop:=Join (fun e w=>CS P (cA c60 244) none [2,3,4,0] [2,3] (kloop [2,3,4,0] Y5 (f60_k7 K)) e w) e w
abbrev f60_kl5 (K:KT) (Y5:YT):Exit→YT:=kloop [2,3,4,0] Y5 (f60_k7 K)
def f60_lb5 (a b:Addr) (c:Int) (d:Option Addr) (f g:Nat) (w:World) (K:KT) (Y5:YT):Prop:=Join (fun e w=>CS P (cA c60 244) none [2,3,4,0] [2,3] (f60_kl5 K Y5) e w) (Env.mk 33 [(2,(VP (some a))),(3,(VP (some b))),(4,(VI c)),(0,(VS d f g))] []) w
abbrev f60_k8 (K:KT) (Y5:YT):Exit→YT:=kseq P (cA c60 488) (cA c60 489) none [2,3,4,0] [2,3] (f60_kl5 K Y5)
abbrev f60_k9 (K:KT) (Y5:YT):Exit→YT:=kseq P (cA c60 976) (cA c60 977) none [2,3,0,4] [2,3] (f60_k8 K Y5)
def f60_s6 (a b:Addr) (c:Option Addr) (d f:Nat) (g:Int) (w:World) (K:KT) (Y5:YT):Prop:=Join (fun e w=>CS P (cA c60 489) none [2,3,4,0] [2,3] (f60_kl5 K Y5) e w) (Env.mk 33 [(2,(VP (some a))),(3,(VP (some b))),(0,(VS c d f)),(4,(VI g))] []) w
abbrev f60_k10 (K:KT) (Y5:YT):Exit→YT:=kseq P (cA c60 978) (cA c60 979) none [2,3,4,0] [2,3] (f60_kl5 K Y5)
abbrev f60_k11 (K:KT) (Y5:YT):Exit→YT:=kblock 1 (f60_k10 K Y5)
abbrev f60_k12 (K:KT) (Y5:YT):Exit→YT:=kseq P (cA c60 3912) (cA c60 3913) none [2,3,0,4] [2,3,0,4] (f60_k11 K Y5)
def f60_s7 (a b:Addr) (c:Option Addr) (d f:Nat) (g:Int) (h:Addr) (i:Bool) (w:World) (K:KT) (Y5:YT):Prop:=Join (fun e w=>CS P (cA c60 3913) none [2,3,0,4] [2,3,0,4] (f60_k11 K Y5) e w) (Env.mk 33 [(2,(VP (some a))),(3,(VP (some b))),(0,(VS c d f)),(4,(VI g)),(5,(VP (some h))),(6,(VB i))] []) w
abbrev f60_k13 (K:KT) (Y5:YT):Exit→YT:=kseq P (cA c60 7826) (cA c60 7827) none [2,3,0,4] [2,3,0,4] (f60_k11 K Y5)
abbrev f60_k14 (K:KT) (Y5:YT):Exit→YT:=kseq P (cA c60 15652) (cA c60 15653) none [2,3,0,4,5] [2,3,0,4] (f60_k13 K Y5)
def f60_s8 (a b:Addr) (c:Option Addr) (d f:Nat) (g:Int) (h:Addr) (w:World) (K:KT) (Y5:YT):Prop:=Join (fun e w=>CS P (cA c60 7827) none [2,3,0,4] [2,3,0,4] (f60_k11 K Y5) e w) (Env.mk 33 [(2,(VP (some a))),(3,(VP (some b))),(0,(VS c d f)),(4,(VI g)),(5,(VP (some h)))] []) w
def f60_s9 (a b:Addr) (c:Option Addr) (d f:Nat) (g:Int) (w:World) (K:KT) (Y5:YT):Prop:=Join (fun e w=>CS P (cA c60 979) none [2,3,4,0] [2,3] (f60_kl5 K Y5) e w) (Env.mk 33 [(2,(VP (some a))),(3,(VP (some b))),(0,(VS c d f)),(4,(VI g))] []) w
theorem f60_s9_eq (a c:Addr) (d:Option Addr) (e f:Nat) (g:Int) (w:World) (K:KT) (Y5:YT):f60_s9 a c d e f g w K Y5=(Y5 (Env.mk 33 [(2,(Value.pointer (some a))),(3,(Value.pointer (some c))),(4,(Value.int .i64 (IntKind.wrap .i64 ((g:Int)+1)))),(0,(Value.slice d e f))] []) w):=Eq.trans (b:=CS P (cA c60 979) none [2,3,4,0] [2,3] (f60_kl5 K Y5) (Env.mk 33 [(2,(VP (some a))),(3,(VP (some c))),(0,(VS d e f)),(4,(VI g))] []) w) (by kernel_rfl) (by kernel_rfl)
theorem f60_s8_eq (c a:Addr) (d:Option Addr) (e f:Nat) (g:Int) (h:Addr) (w:World) (K:KT) (Y5:YT):f60_s8 c a d e f g h w K Y5=(LdA 20 h w (fun i=>StA 20 a i w (fun j=>f60_s9 c a d e f g j K Y5))):=Eq.trans (b:=CS P (cA c60 7827) none [2,3,0,4] [2,3,0,4] (f60_k11 K Y5) (Env.mk 33 [(2,(VP (some c))),(3,(VP (some a))),(0,(VS d e f)),(4,(VI g)),(5,(VP (some h)))] []) w) (by kernel_rfl) (by kernel_rfl)
theorem f60_s7_eq (c d:Addr) (e:Option Addr) (f g:Nat) (h:Int) (i:Addr) (j:Bool) (w:World) (K:KT) (Y5:YT):f60_s7 c d e f g h i j w K Y5=(BIf (!j) (∃ k:Array Value,(∀ wq,(Instr.build 113 [(5,(Value.int .i64 300))].toArray).run P wq=.ok (Value.agg k) wq)∧StA 20 c k w (fun l=>LdA 20 c l (fun m=>K (Value.agg m) l))) (f60_s8 c d e f g h i w K Y5)):=Eq.trans (b:=CS P (cA c60 3913) none [2,3,0,4] [2,3,0,4] (f60_k11 K Y5) (Env.mk 33 [(2,(VP (some c))),(3,(VP (some d))),(0,(VS e f g)),(4,(VI h)),(5,(VP (some i))),(6,(VB j))] []) w) (by kernel_rfl) (Eq.trans (CSs (cA c60 7826) (cA c60 7827) [2,3,0,4,5] (f60_k13 K Y5) (by kernel_rfl) (by kernel_rfl) (by kernel_rfl)) (Eq.trans (CSs (cA c60 15652) (cA c60 15653) [29,2,3,0,4,5] (f60_k14 K Y5) (by kernel_rfl) (by kernel_rfl) (by kernel_rfl)) (by kernel_rfl)))
theorem f60_s6_eq (g d:Addr) (e:Option Addr) (f h:Nat) (c:Int) (w:World) (K:KT) (Y5:YT):f60_s6 g d e f h c w K Y5=(optS e (fun q=>0≤(c:Int)∧(c:Int) < (f:Nat)∧LdA 20 d w.drew (fun i=>LdA 6 (q.add (Int.toNat c * 6)) w.drew (fun j=>(CallL P 93 [(Value.agg i),(Value.agg j),(Value.int .i64 c)] w.drew (fun r s=>∃ k:Array Value,∃ l:Bool,r=(Value.tuple [(Value.agg k),(Value.bool l)].toArray)∧NewC (zcells P 113) 113 s (fun m t=>StA 20 (Addr.mk m 0 none) k t (fun u=>f60_s7 g d e f h c (Addr.mk m 0 none) l u K Y5))))∧(NewC (zcells P 113) 113 w.drew (fun n v=>CallL P 93 [(Value.agg i),(Value.agg j),(Value.int .i64 c)] v (fun x y=>∃ o:Array Value,∃ p:Bool,x=(Value.tuple [(Value.agg o),(Value.bool p)].toArray)∧StA 20 (Addr.mk n 0 none) o y (fun z=>f60_s7 g d e f h c (Addr.mk n 0 none) p z K Y5)))))))):=Eq.trans (b:=CS P (cA c60 489) none [2,3,4,0] [2,3] (f60_kl5 K Y5) (Env.mk 33 [(2,(VP (some g))),(3,(VP (some d))),(0,(VS e f h)),(4,(VI c))] []) w) (by kernel_rfl) (Eq.trans (CSs (cA c60 978) (cA c60 979) [2,3,0,4] (f60_k10 K Y5) (by kernel_rfl) (by kernel_rfl) (by kernel_rfl)) (Eq.trans (CSb 1 (cA c60 1956) [2,3,0,4] (f60_k11 K Y5) (by kernel_rfl) (by kernel_rfl) (by kernel_rfl)) (Eq.trans (CSs (cA c60 3912) (cA c60 3913) [2,3,0,4,5,6] (f60_k12 K Y5) (by kernel_rfl) (by kernel_rfl) (by kernel_rfl)) (by kernel_rfl))))
def f60_s10 (a b:Addr) (w:World) (K:KT):Prop:=Join (fun e w=>CS P (cA c60 31) none [2] [2] (f60_kb K) e w) (Env.mk 33 [(2,(VP (some a))),(3,(VP (some b)))] []) w
abbrev f60_k16 (K:KT):Exit→YT:=kseq P (cA c60 62) (cA c60 63) none [2] [2] (f60_kb K)
theorem f60_s10_eq (c d:Addr) (w:World) (K:KT):f60_s10 c d w K=(LdA 20 d w (fun f=>StA 20 c f w (fun e=>LdA 20 c e (fun g=>K (Value.agg g) e)))):=Eq.trans (b:=CS P (cA c60 31) none [2] [2] (f60_kb K) (Env.mk 33 [(2,(VP (some c))),(3,(VP (some d)))] []) w) (by kernel_rfl) (Eq.trans (CSs (cA c60 62) (cA c60 63) [2] (f60_k16 K) (by kernel_rfl) (by kernel_rfl) (by kernel_rfl)) (by kernel_rfl))
theorem f60_lb5_eq (c d:Addr) (e:Int) (f:Option Addr) (g h:Nat) (w:World) (K:KT) (Y5:YT):f60_lb5 c d e f g h w K Y5=(∃ i:Int,(∀ wq,Ext w wq→(Builtin.len_ #[22] 3 [(Value.slice f g h)].toArray).run P wq=.ok (Value.int .i64 i) wq)∧BIf (decide ((e:Int) < i)) (f60_s6 c d f g h e w K Y5) (f60_s10 c d w K)):=Eq.trans (b:=CS P (cA c60 244) none [2,3,4,0] [2,3] (f60_kl5 K Y5) (Env.mk 33 [(2,(VP (some c))),(3,(VP (some d))),(4,(VI e)),(0,(VS f g h))] []) w) (by kernel_rfl) (Eq.trans (CSs (cA c60 488) (cA c60 489) [2,3,0,4] (f60_k8 K Y5) (by kernel_rfl) (by kernel_rfl) (by kernel_rfl)) (Eq.trans (CSs (cA c60 976) (cA c60 977) [15,2,3,0,4] (f60_k9 K Y5) (by kernel_rfl) (by kernel_rfl) (by kernel_rfl)) (by kernel_rfl)))
theorem f60_s4_eq (a:Int) (c:Addr) (h:Array Value) (d:Addr) (e:Option Addr) (f g:Nat) (w:World) (K:KT):f60_s4 a c h d e f g w K=(LoopE (f60_lp5 K) (Env.mk 33 [(2,(Value.pointer (some d))),(3,(Value.pointer (some c))),(4,(Value.int .i64 a)),(0,(Value.slice e f g))] []) w):=Eq.trans (b:=CS P (cA c60 61) none [2,3] [2] (f60_k5 K) (Env.mk 33 [(4,(VI a)),(3,(VP (some c))),(11,(Value.agg h)),(2,(VP (some d))),(0,(VS e f g))] []) w) (by kernel_rfl) (Eq.trans (CSb 0 (cA c60 122) [2,3] (f60_k7 K) (by kernel_rfl) (by kernel_rfl) (by kernel_rfl)) ((CS_loop' (b:=(cA c60 244)) (X':=[2,3]) (H:=[2,3,4,0]) (by kernel_rfl) (by kernel_rfl) (by kernel_rfl)).trans (by kernel_rfl)))
theorem f60_s3_eq (c:Addr) (d:Array Value) (e:Addr) (f:Option Addr) (g h:Nat) (w:World) (K:KT):f60_s3 c d e f g h w K=(f60_s4 0 c d e f g h w K):=Eq.trans (b:=CS P (cA c60 15) none [2] [2] (f60_kb K) (Env.mk 33 [(3,(VP (some c))),(11,(Value.agg d)),(2,(VP (some e))),(0,(VS f g h))] []) w) (by kernel_rfl) (Eq.trans (CSs (cA c60 30) (cA c60 31) [2,3] (f60_k5 K) (by kernel_rfl) (by kernel_rfl) (by kernel_rfl)) (Eq.trans (CSs (cA c60 60) (cA c60 61) [2,3,4,0] (f60_k6 K) (by kernel_rfl) (by kernel_rfl) (by kernel_rfl)) (by kernel_rfl)))
theorem f60_s2_eq (c:Addr) (d:Option Addr) (e f:Nat) (w:World) (K:KT):f60_s2 c d e f w K=(CallL P 92 [] w (fun i j=>∃ g:Array Value,i=(Value.agg g)∧NewC (zcells P 113) 113 j (fun h k=>StA 20 (Addr.mk h 0 none) g k (fun l=>f60_s3 (Addr.mk h 0 none) g c d e f l K)))):=Eq.trans (b:=CS P (cA c60 7) none [2] [2] (f60_kb K) (Env.mk 33 [(2,(VP (some c))),(0,(VS d e f))] []) w) (by kernel_rfl) (Eq.trans (CSs (cA c60 14) (cA c60 15) [2,3,0] (f60_k4 K) (by kernel_rfl) (by kernel_rfl) (by kernel_rfl)) (by kernel_rfl))
theorem f60_s1_eq (c:Addr) (d:Option Addr) (e f:Nat) (w:World) (K:KT):f60_s1 c d e f w K=(∃ g:Int,(∀ wq,Ext w wq→(Builtin.len_ #[22] 3 [(Value.slice d e f)].toArray).run P wq=.ok (Value.int .i64 g) wq)∧BIf (decide ((g:Int) > 20000)) (∃ h:Array Value,(∀ wq,(Instr.build 113 [(5,(Value.int .i64 2))].toArray).run P wq=.ok (Value.agg h) wq)∧StA 20 c h w (fun i=>LdA 20 c i (fun j=>K (Value.agg j) i))) (f60_s2 c d e f w K)):=Eq.trans (b:=CS P (cA c60 3) none [2] [2] (f60_kb K) (Env.mk 33 [(2,(VP (some c))),(0,(VS d e f))] []) w) (by kernel_rfl) (Eq.trans (CSs (cA c60 6) (cA c60 7) [2,0] (f60_k1 K) (by kernel_rfl) (by kernel_rfl) (by kernel_rfl)) (Eq.trans (CSs (cA c60 12) (cA c60 13) [9,2,0] (f60_k2 K) (by kernel_rfl) (by kernel_rfl) (by kernel_rfl)) (by kernel_rfl)))
theorem f60_s0_eq (c:Option Addr) (d e:Nat) (w:World) (K:KT):f60_s0 c d e w K=(NewC (zcells P 113) 113 w (fun f g=>f60_s1 (Addr.mk f 0 none) c d e g K)):=Eq.trans (b:=CS P (cA c60 1) none [2] [2] (f60_kb K) (Env.mk 33 [(0,(VS c d e))] []) w) (by kernel_rfl) (Eq.trans (CSs (cA c60 2) (cA c60 3) [2,0] (f60_k0 K) (by kernel_rfl) (by kernel_rfl) (by kernel_rfl)) (by kernel_rfl))
theorem f60_eq (a:Option Addr) (b c:Nat) (w:World) (K:KT):f60 a b c w K=(f60_s0 a b c w K):=by kernel_rfl
theorem c60_eq:Go.Proofs.Try.f60.body=some c60:=by kernel_rfl
theorem f60_un (a:Option Addr) (b c:Nat) (w:World) (K:KT):f60 a b c w K=CS P c60 none (resT Go.Proofs.Try.f60.results.toList) (resT Go.Proofs.Try.f60.results.toList) (bodyK P Go.Proofs.Try.f60.results.toList K) (env0 Go.Proofs.Try.f60.ntmps [(Value.slice a b c)]) w:=by kernel_rfl
theorem f60_ok (a:Option Addr) (b c:Nat) (w:World) (K:KT) (h:f60 a b c w K):CallL P 60 [(Value.slice a b c)] w K:=calls_of_CS Go.Proofs.Try.func60 c60_eq (Eq.mp (f60_un a b c w K) h)
end Go.Fx.Try
namespace Go.Fx.Try
open Go Go.Fx Go.Fx.Mo
open Go.Proofs
variable {w0 w:World} {H Y:List (Nat × Obj)} {K:Value→World→Prop}
set_option maxRecDepth 20000
theorem z113:∃ cs:List Value,zcells P 113=cs.toArray∧cs.length=20:=⟨_,rfl,by kernel_rfl⟩
def flagCs (r:RR) (x:Int):List Value:=r.begun.map .bool++(r.ended.map .bool++[I64 x])
def runCs (r:RR) (x:Int) (lv ov xv:Value):List Value:=lv::ov::xv::flagCs r x
structure RunIs (w0:World) (r:RR) (lv ov xv:Value) (LL LO LX:List (Nat × Obj)):Prop where
 sl:SlO 4 99 lv r.L.length (ords r.L) LL
 so:SlO 1 3 ov r.of.length (r.of.map I64) LO
 sx:SlO 2 199 xv r.objs.length (objsCs r.objs) LX
 nl:New w0 LL
 no:New w0 LO
 nx:New w0 LX
 bl:r.begun.length=8
 el:r.ended.length=8
theorem runCs_len {r:RR} {x:Int} {lv ov xv:Value} (hb:r.begun.length=8) (he:r.ended.length=8):(runCs r x lv ov xv).length=20:=by
 simp [runCs,flagCs,hb,he]
theorem slO_one {size:Nat} {e:TypeId} {ov:Value} {n:Nat} {xs:List Value} {L:List (Nat × Obj)} (h:SlO size e ov n xs L):ov.oneCell'=true:=by
 obtain ⟨a,c,rfl⟩:=h.form
 rfl
theorem runCs_one {r:RR} {x:Int} {lv ov xv:Value} (h1:lv.oneCell'=true) (h2:ov.oneCell'=true) (h3:xv.oneCell'=true):∀ v∈(runCs r x lv ov xv).toArray.toList,v.oneCell'=true:=by
 intro v hv
 simp only [runCs,flagCs,List.mem_cons,List.mem_append,List.mem_map,List.not_mem_nil,or_false] at hv
 rcases hv with rfl | rfl | rfl | ⟨_,_,rfl⟩ | ⟨_,_,rfl⟩ | rfl
 ·exact h1
 ·exact h2
 ·exact h3
 all_goals rfl
theorem bg_cell {r:RR} {x t:Int} {lv ov xv:Value} (hb:r.begun.length=8) (h0:0≤t) (h8:t < 8):(runCs r x lv ov xv)[3+t.toNat]?=some (.bool (getB r.begun t)):=by
 have h:t.toNat < r.begun.length:=by omega
 rw [show 3+t.toNat=t.toNat+3 by omega]
 show (flagCs r x)[t.toNat]?=_
 unfold flagCs
 rw [List.getElem?_append_left (by simpa using h),List.getElem?_map,List.getElem?_eq_getElem h]
 simp [getB,List.getD,h]
theorem en_cell {r:RR} {x t:Int} {lv ov xv:Value} (hb:r.begun.length=8) (he:r.ended.length=8) (h0:0≤t) (h8:t < 8):(runCs r x lv ov xv)[11+t.toNat]?=some (.bool (getB r.ended t)):=by
 have h:t.toNat < r.ended.length:=by omega
 rw [show 11+t.toNat=(8+t.toNat)+3 by omega]
 show (flagCs r x)[8+t.toNat]?=_
 unfold flagCs
 rw [List.getElem?_append_right (by simp [hb]),List.getElem?_append_left (by simp [hb]; omega)]
 simp [getB,List.getD,h,hb]
theorem bg_set {r:RR} {x t:Int} {lv ov xv:Value} (hb:r.begun.length=8) (h0:0≤t) (h8:t < 8):(runCs r x lv ov xv).set (3+t.toNat) (.bool true)=runCs { r with begun:=r.begun.set t.toNat true } x lv ov xv:=by
 rw [show 3+t.toNat=t.toNat+3 by omega]
 show lv::ov::xv::(flagCs r x).set t.toNat (.bool true)=_
 unfold flagCs runCs flagCs
 rw [List.set_append_left _ _ (by simp [hb]; omega),List.map_set]
theorem en_set {r:RR} {x t:Int} {lv ov xv:Value} (hb:r.begun.length=8) (he:r.ended.length=8) (h0:0≤t) (h8:t < 8):(runCs r x lv ov xv).set (11+t.toNat) (.bool true)=runCs { r with ended:=r.ended.set t.toNat true } x lv ov xv:=by
 rw [show 11+t.toNat=(8+t.toNat)+3 by omega]
 show lv::ov::xv::(flagCs r x).set (8+t.toNat) (.bool true)=_
 unfold flagCs runCs flagCs
 rw [List.set_append_right _ _ (by simp [hb]),List.set_append_left _ _ (by simp [hb,he]; omega),List.map_set]
 simp [hb]
section
variable {n7 n5 n3:Nat} {r:RR} {lv ov xv:Value} {LL LO LX:List (Nat × Obj)} {z:List Value} {o:Ord} {x i:Int}
abbrev putH (n7 n5 n3:Nat) (z:List Value) (o:Ord) (cs:List Value) (R:List (Nat × Obj)):List (Nat × Obj):=(n7,Cs z 113)::(n5,Cs (Ordcs o) 99)::(n3,Cs cs 113)::R
theorem ret20 {b:Bool} {cs:List Value} {R:List (Nat × Obj)} (hz:z.length=20) (h:St w0 w (putH n7 n5 n3 z o cs R)) (hl:cs.length=20) (h1:∀ v∈cs.toArray.toList,v.oneCell'=true)
  (hK:∀ w',St w0 w' (putH n7 n5 n3 cs o cs R)→K (.tuple [.agg cs.toArray,.bool b].toArray) w') :
  LdA 20 (Addr.mk n3 0 none) w (fun c=>StA 20 (Addr.mk n7 0 none) c w (fun w'=>LdA 20 (Addr.mk n7 0 none) w' (fun c'=>K (.tuple [.agg c',.bool b].toArray) w'))):=by
 refine h.ldA (k:=2) (i:=0) rfl (by simp [hl]) ?_
 rw [List.drop_zero,List.take_of_length_le (by omega)]
 refine h.stA (k:=0) rfl (by simp [hl]) (by simp [hl,hz]) h1 fun w' h'=>?_
 have h':St w0 w' (putH n7 n5 n3 (splice z 0 cs) o cs R):=h'
 rw [splice_whole (by omega)] at h'
 refine h'.ldA (k:=0) (i:=0) rfl (by simp [hl]) ?_
 rw [List.drop_zero,List.take_of_length_le (by omega)]
 exact hK w' h'
theorem ords_snoc' (l:List Ord) (o:Ord):ords (l++[o])=ords l++Ordcs o:=by simp [ords]
theorem put_s7 (hz:z.length=20) (h:St w0 w (putH n7 n5 n3 z o (runCs r x lv ov xv) (LL++(LO++(LX++H))))) (hr:RunIs w0 r lv ov xv LL LO LX) (h7:w0.heap.size≤n7) (h5:w0.heap.size≤n5) (h3:w0.heap.size≤n3)
  (hb:r.L.length < 1000000000∧r.of.length < 1000000000)
  (hK:∀ w' lv' ov' LL' LO',RunIs w0 { r with L:=r.L++[o],of:=r.of++[i] } lv' ov' xv LL' LO' LX→St w0 w' (LL'++(LO'++(LX++H)))→
   K (.tuple [.agg (runCs { r with L:=r.L++[o],of:=r.of++[i] } x lv' ov' xv).toArray,.bool true].toArray) w') :
  f113_s7 (Addr.mk n7 0 none) (Addr.mk n3 0 none) i (Addr.mk n5 0 none) w K:=by
 rw [f113_s7_eq]
 obtain ⟨la,lc,hlv⟩:=hr.sl.form
 obtain ⟨oa,oc,hov⟩:=hr.so.form
 refine ⟨la,_,lc,by rw [h.cell (k:=2) rfl,← hlv]; rfl,?_⟩
 refine h.ldA (k:=1) (i:=0) rfl (by simp [Ordcs]) ⟨⟨rfl,trivial⟩,?_⟩
 refine h.newC fun n71 w1 hn71 g1=>?_
 have g1:St w0 w1 (((n71,Cs (Ordcs o) 99)::putH n7 n5 n3 z o (runCs r x lv ov xv) [])++(LL++(LO++(LX++H)))):=g1
 obtain ⟨g,cap,w2,LL',hru,hS,g2,hN⟩:=St.append (P:=P) 57 57 99 Try.t99 (.agg #[I64 0,I64 0,I64 0,I64 0]) 4 32 Try.underlying57 info99 rfl rfl rfl rfl (by omega) g1 hr.sl hr.nl (j:=0) rfl (by simp [Ordcs]) (by simp [Ordcs,Value.oneCell']) (by simp [maxLen]; omega) (by omega)
 rw [hlv] at hru
 refine ⟨_,_,_,w2,hru,?_⟩
 refine g2.st1 (k:=3) rfl (by simp [runCs]) rfl fun w3 g3=>?_
 generalize hlv':Value.slice (some ⟨g,0,none⟩) (r.L.length+1) cap=lv' at *
 have g3:St w0 w3 ((n71,Cs (Ordcs o) 99)::putH n7 n5 n3 z o (runCs r x lv' ov xv) (LL'++(LO++(LX++H)))):=g3
 refine ⟨oa,_,oc,by rw [add_lit',Nat.zero_add,g3.cell (k:=3) rfl,← hov]; rfl,⟨rfl,trivial⟩,?_⟩
 refine g3.newC fun n79 w4 hn79 g4=>?_
 have g4:St w0 w4 (((n79,Cs [I64 i] 3)::(n71,Cs (Ordcs o) 99)::putH n7 n5 n3 z o (runCs r x lv' ov xv) LL')++(LO++(LX++H))):=by
  have e:((n79,Cs [I64 i] 3)::(n71,Cs (Ordcs o) 99)::putH n7 n5 n3 z o (runCs r x lv' ov xv) LL')++(LO++(LX++H))=(n79,Cs [I64 i] 3)::(n71,Cs (Ordcs o) 99)::putH n7 n5 n3 z o (runCs r x lv' ov xv) (LL'++(LO++(LX++H))):=by simp
  rw [e]
  exact g4
 obtain ⟨g',cap',w5,LO',hru',hS',g5,hN'⟩:=St.append (P:=P) 39 39 3 Try.t3 (I64 0) 1 8 Try.underlying39 info3 rfl rfl rfl rfl (by omega) g4 hr.so hr.no (j:=0) rfl (by simp) (by simp [Value.oneCell']) (by simp [maxLen]; omega) (by omega)
 rw [hov] at hru'
 refine ⟨_,_,_,w5,hru',?_⟩
 have g5:St w0 w5 ((n79,Cs [I64 i] 3)::(n71,Cs (Ordcs o) 99)::putH n7 n5 n3 z o (runCs r x lv' ov xv) (LL'++(LO'++(LX++H)))):=by
  refine g5.perm (perm_by fun c=>?_)
  simp only [List.map_append,List.map_cons,List.sum_append,List.sum_cons]; omega
 simp only [add_lit',Nat.zero_add]
 refine g5.st1 (k:=4) rfl (by simp [runCs]) rfl fun w6 g6=>?_
 generalize hov':Value.slice (some ⟨g',0,none⟩) (r.of.length+1) cap'=ov' at *
 have g6:St w0 w6 ((n79,Cs [I64 i] 3)::(n71,Cs (Ordcs o) 99)::putH n7 n5 n3 z o (runCs r x lv' ov' xv) (LL'++(LO'++(LX++H)))):=g6
 have g7:=(g6.tail hn79).tail hn71
 have hS:SlO 4 99 lv' (r.L++[o]).length (ords (r.L++[o])) LL':=by rw [ords_snoc',List.length_append]; exact hS
 have hS':SlO 1 3 ov' (r.of++[i]).length ((r.of++[i]).map I64) LO':=by rw [List.map_append,List.length_append]; exact hS'
 refine ret20 (b:=true) hz g7 (runCs_len hr.bl hr.el) (runCs_one (slO_one hS) (slO_one hS') (slO_one hr.sx)) fun w8 g8=>?_
 exact hK w8 lv' ov' LL' LO' ⟨hS,hS',hr.sx,hN,hN',hr.nx,hr.bl,hr.el⟩ (((g8.tail h7).tail h5).tail h3)
theorem put_ok (h:St w0 w (LL++(LO++(LX++H)))) (hr:RunIs w0 r lv ov xv LL LO LX) (ho:0≤o.th∧o.th < 8) (hb:r.L.length < 1000000000∧r.of.length < 1000000000)
  (hno:rput r o i=none→∀ w' (cs:List Value),cs.length=20→(∀ v∈cs.toArray.toList,v.oneCell'=true)→St w0 w' H→K (.tuple [.agg cs.toArray,.bool false].toArray) w')
  (hyes:∀ r',rput r o i=some r'→∀ w' lv' ov' LL' LO',RunIs w0 r' lv' ov' xv LL' LO' LX→St w0 w' (LL'++(LO'++(LX++H)))→K (.tuple [.agg (runCs r' x lv' ov' xv).toArray,.bool true].toArray) w') :
  CallL P 113 [.agg (runCs r x lv ov xv).toArray,.agg (Ordcs o).toArray,.int .i64 i] w K:=by
 refine f113_ok _ _ _ _ _ ?_
 obtain ⟨z,hz,hzl⟩:=z113
 rw [f113_eq,hz]
 refine h.newC fun n3 w4 hn3 h4=>h4.newC fun n5 w6 hn5 h6=>h6.newC fun n7 w8 hn7 h8=>?_
 have hl:=runCs_len (x:=x) (lv:=lv) (ov:=ov) (xv:=xv) hr.bl hr.el
 have h1:=runCs_one (r:=r) (x:=x) (slO_one hr.sl) (slO_one hr.so) (slO_one hr.sx)
 have h8:St w0 w8 (putH n7 n5 n3 z o (runCs r x lv ov xv) (LL++(LO++(LX++H)))):=h8
 have bad:∀ w',St w0 w' (putH n7 n5 n3 z o (runCs r x lv ov xv) (LL++(LO++(LX++H))))→barred r o=true→
   LdA 20 (Addr.mk n3 0 none) w' (fun c=>StA 20 (Addr.mk n7 0 none) c w' (fun w'=>LdA 20 (Addr.mk n7 0 none) w' (fun c'=>K (.tuple [.agg c',.bool false].toArray) w'))):=fun w' h' hbad=>
  ret20 hzl h' hl h1 fun w2 h2=>hno (by simp [rput,hbad]) w2 _ hl h1 ((((((h2.tail hn7).tail hn5).tail hn3).sub hr.nl).sub hr.no).sub hr.nx)
 have ro:∀ {w':World} {j:Nat} {v:Value},St w0 w' (putH n7 n5 n3 z o (runCs r x lv ov xv) (LL++(LO++(LX++H))))→(Ordcs o)[j]?=some v→w'.cell? ((Addr.mk n5 0 none).add j)=some v:=fun h' hv=>by
  rw [add_lit',Nat.zero_add,h'.cell (k:=1) rfl]; exact hv
 have ro0:∀ {w':World} {v:Value},St w0 w' (putH n7 n5 n3 z o (runCs r x lv ov xv) (LL++(LO++(LX++H))))→(Ordcs o)[0]?=some v→w'.cell? (Addr.mk n5 0 none)=some v:=fun h' hv=>by
  rw [h'.cell (k:=1) rfl]; exact hv
 have rb:∀ {w':World} {t:Int},St w0 w' (putH n7 n5 n3 z o (runCs r x lv ov xv) (LL++(LO++(LX++H))))→0≤t→t < 8→w'.cell? (((Addr.mk n3 0 none).add 3).add (Int.toNat t * 1))=some (.bool (getB r.begun t)):=fun h' h0 h8=>by
  rw [add_lit',add_lit',Nat.zero_add,Nat.mul_one,h'.cell (k:=2) rfl]; exact bg_cell hr.bl h0 h8
 have re:∀ {w':World} {t:Int},St w0 w' (putH n7 n5 n3 z o (runCs r x lv ov xv) (LL++(LO++(LX++H))))→0≤t→t < 8→w'.cell? (((Addr.mk n3 0 none).add 11).add (Int.toNat t * 1))=some (.bool (getB r.ended t)):=fun h' h0 h8=>by
  rw [add_lit',add_lit',Nat.zero_add,Nat.mul_one,h'.cell (k:=2) rfl]; exact en_cell hr.bl hr.el h0 h8
 refine ⟨_,ro h8 rfl,ho.1,by have:=ho.2; omega,_,rb h8 ho.1 ho.2,?_⟩
 cases hbg:getB r.begun o.th
 ·rw [Bool.not_false,BIf_true,f113_s0_eq,BIf_true]
  exact bad w8 h8 (by simp [barred,hbg])
 rw [Bool.not_true,BIf_false]
 refine ⟨_,ro h8 rfl,ho.1,by have:=ho.2; omega,_,re h8 ho.1 ho.2,?_⟩
 rw [f113_s0_eq]
 cases hen:getB r.ended o.th
 ·rw [BIf_false,f113_s1_eq]
  have s6:∀ w',St w0 w' (putH n7 n5 n3 z o (runCs r x lv ov xv) (LL++(LO++(LX++H))))→barred r o=false→(o.kind=5∨o.kind=6)→0≤o.other→o.other < 8→f113_s6 (Addr.mk n7 0 none) (Addr.mk n3 0 none) i (Addr.mk n5 0 none) w' K:=by
   intro w' h' hbar hk h0 h8
   rw [f113_s6_eq]
   refine ⟨_,ro0 h' rfl,?_⟩
   cases h5:(o.kind == 5)
   ·have h5':¬ o.kind=5:=by simpa using h5
    have h6':o.kind=6:=by omega
    rw [BIf_false]
    refine ⟨_,ro h' rfl,h0,by omega,?_⟩
    rw [add_lit',add_lit',Nat.zero_add,Nat.mul_one]
    refine h'.st1 (k:=2) rfl (by rw [hl]; omega) rfl fun w2 h2=>?_
    have h2:St w0 w2 (putH n7 n5 n3 z o ((runCs r x lv ov xv).set (11+o.other.toNat) (.bool true)) (LL++(LO++(LX++H)))):=h2
    rw [en_set hr.bl hr.el h0 h8] at h2
    refine put_s7 (r:={ r with ended:=r.ended.set o.other.toNat true }) hzl h2 ⟨hr.sl,hr.so,hr.sx,hr.nl,hr.no,hr.nx,hr.bl,by simp [hr.el]⟩ hn7 hn5 hn3 hb fun w3 lv' ov' LL' LO' hr' h3=>?_
    exact hyes _ (by simp [rput,hbar,h5',h6']) w3 lv' ov' LL' LO' hr' h3
   ·have h5':o.kind=5:=by simpa using h5
    rw [BIf_true]
    refine ⟨_,ro h' rfl,h0,by omega,?_⟩
    rw [add_lit',add_lit',Nat.zero_add,Nat.mul_one]
    refine h'.st1 (k:=2) rfl (by rw [hl]; omega) rfl fun w2 h2=>?_
    have h2:St w0 w2 (putH n7 n5 n3 z o ((runCs r x lv ov xv).set (3+o.other.toNat) (.bool true)) (LL++(LO++(LX++H)))):=h2
    rw [bg_set hr.bl h0 h8] at h2
    refine put_s7 (r:={ r with begun:=r.begun.set o.other.toNat true }) hzl h2 ⟨hr.sl,hr.so,hr.sx,hr.nl,hr.no,hr.nx,by simp [hr.bl],hr.el⟩ hn7 hn5 hn3 hb fun w3 lv' ov' LL' LO' hr' h3=>?_
    exact hyes _ (by simp [rput,hbar,h5']) w3 lv' ov' LL' LO' hr' h3
  have s5:∀ b w',St w0 w' (putH n7 n5 n3 z o (runCs r x lv ov xv) (LL++(LO++(LX++H))))→barred r o=b→(o.kind=5∨o.kind=6)→0≤o.other→o.other < 8→f113_s5 b (Addr.mk n7 0 none) (Addr.mk n3 0 none) i (Addr.mk n5 0 none) w' K:=by
   intro b w' h' hbar hk h0 h8
   rw [f113_s5_eq]
   cases b
   ·rw [BIf_false]; exact s6 w' h' hbar hk h0 h8
   ·rw [BIf_true]; exact bad w' h' hbar
  have s2:∀ b,(o.kind == 5 || o.kind == 6)=b→f113_s2 b (Addr.mk n7 0 none) (Addr.mk n3 0 none) i (Addr.mk n5 0 none) w8 K:=by
   intro b hk
   rw [f113_s2_eq]
   cases b
   ·rw [BIf_false]
    have h5':¬ o.kind=5:=fun h=>by simp [h] at hk
    have h6':¬ o.kind=6:=fun h=>by simp [h] at hk
    have hbar:barred r o=false:=by simp [barred,hbg,hen,h5',h6']
    refine put_s7 hzl h8 hr hn7 hn5 hn3 hb fun w3 lv' ov' LL' LO' hr' h3=>?_
    exact hyes _ (by simp [rput,hbar,h5',h6']) w3 lv' ov' LL' LO' hr' h3
   ·rw [BIf_true]
    have hk':o.kind=5∨o.kind=6:=by simpa using hk
    refine ⟨_,ro h8 rfl,?_⟩
    cases h0:decide (o.other < 0)
    ·rw [BIf_false]
     refine ⟨_,ro h8 rfl,?_⟩
     rw [f113_s3_eq]
     cases h88:decide (o.other≥8)
     ·rw [BIf_false,f113_s4_eq]
      have h0':0≤o.other:=by simpa using h0
      have h8':o.other < 8:=by simpa using h88
      have hd:=h8.drew
      have hbar:barred r o=((o.kind == 5 && getB r.begun o.other) || (o.kind == 6 && (!getB r.begun o.other || getB r.ended o.other || o.other == o.th))):=by
       unfold barred
       rw [hbg,hen,hk,h0,h88]
       simp
      refine ⟨_,ro hd rfl,h0',by omega,_,rb hd h0' h8',_,ro hd rfl,h0',by omega,_,re hd h0' h8',_,ro0 hd rfl,?_⟩
      have six:BIf (o.kind == 6) (BIf (!getB r.begun o.other) (f113_s5 true (Addr.mk n7 0 none) (Addr.mk n3 0 none) i (Addr.mk n5 0 none) w8.drew K) (BIf (getB r.ended o.other) (f113_s5 true (Addr.mk n7 0 none) (Addr.mk n3 0 none) i (Addr.mk n5 0 none) w8.drew K)
        (∃ x89:Int,w8.drew.cell? ((Addr.mk n5 0 none).add 2)=some (I64 x89)∧∃ x90:Int,w8.drew.cell? ((Addr.mk n5 0 none).add 1)=some (I64 x90)∧f113_s5 (x89 == x90) (Addr.mk n7 0 none) (Addr.mk n3 0 none) i (Addr.mk n5 0 none) w8.drew K)))
        (f113_s5 false (Addr.mk n7 0 none) (Addr.mk n3 0 none) i (Addr.mk n5 0 none) w8.drew K)∨(o.kind == 5 && getB r.begun o.other)=true:=by
       cases h5b:(o.kind == 5 && getB r.begun o.other)
       ·left
        rw [h5b,Bool.false_or] at hbar
        cases h6:(o.kind == 6)
        ·rw [BIf_false]
         exact s5 _ _ hd (by rw [hbar,h6]; rfl) hk' h0' h8'
        ·rw [BIf_true]
         rw [h6,Bool.true_and] at hbar
         cases hb2:getB r.begun o.other
         ·rw [Bool.not_false,BIf_true]
          exact s5 _ _ hd (by rw [hbar,hb2]; rfl) hk' h0' h8'
         ·rw [Bool.not_true,BIf_false]
          cases he2:getB r.ended o.other
          ·rw [BIf_false]
           refine ⟨_,ro hd rfl,_,ro hd rfl,?_⟩
           exact s5 _ _ hd (by rw [hbar,hb2,he2]; rfl) hk' h0' h8'
          ·rw [BIf_true]
           exact s5 _ _ hd (by rw [hbar,hb2,he2]; rfl) hk' h0' h8'
       ·right; rfl
      cases h5:(o.kind == 5)
      ·rw [BIf_false]
       refine ⟨_,ro0 hd rfl,?_⟩
       rcases six with h | h
       ·exact h
       ·rw [h5] at h; cases h
      ·rw [BIf_true]
       cases hb2:getB r.begun o.other
       ·rw [BIf_false]
        refine ⟨_,ro0 hd rfl,?_⟩
        rcases six with h | h
        ·rw [hb2] at h; exact h
        ·rw [hb2] at h; simp at h
       ·rw [BIf_true]
        exact s5 _ _ hd (by rw [hbar,h5,hb2]; rfl) hk' h0' h8'
     ·rw [BIf_true]
      exact bad w8 h8 (by unfold barred; rw [hk,h88]; simp)
    ·rw [BIf_true,f113_s3_eq,BIf_true]
     exact bad w8 h8 (by unfold barred; rw [hk,h0]; simp)
  refine ⟨_,ro0 h8 rfl,?_⟩
  cases h5:(o.kind == 5)
  ·rw [BIf_false]
   refine ⟨_,ro0 h8 rfl,s2 _ (by rw [h5]; rfl)⟩
  ·rw [BIf_true]
   exact s2 true (by rw [h5]; rfl)
 ·rw [BIf_true]
  exact bad w8 h8 (by simp [barred,hen])
end
end Go.Fx.Try
namespace Go.Fx.Mo
structure Bd (r:RR) (n:Nat):Prop where
 l:r.L.length≤n
 o:r.of.length≤n
 x:r.objs.length≤n
theorem rput_bd {r r':RR} {o:Ord} {i:Int} {n:Nat} (h:rput r o i=some r') (hb:Bd r n):Bd r' (n+1):=by
 unfold rput at h
 split at h
 ·cases h
 ·cases h
  exact ⟨by have:=hb.l; simp; omega,by have:=hb.o; simp; omega,by have:=hb.x; simp; omega⟩
theorem come_bd {r:RR} {x:Ob} {n:Nat} (hb:Bd r n):(come r x).L=r.L∧(come r x).of=r.of∧(come r x).objs.length≤n+1:=by
 unfold come
 split
 ·exact ⟨rfl,rfl,by have:=hb.x; simp; omega⟩
 ·exact ⟨rfl,rfl,by have:=hb.x; omega⟩
theorem rtouch_bd {r r':RR} {k:Int} {e:Ev} {x:Ob} {i:Int} {n:Nat} (h:rtouch r k e x i=some r') (hb:Bd r n):Bd r' (n+1):=by
 unfold rtouch at h
 split at h
 ·cases h
 ·obtain ⟨h1,h2,h3⟩:=come_bd (x:=x) hb
  unfold rput at h
  split at h
  ·cases h
  ·cases h
   refine ⟨?_,?_,h3⟩
   ·simp [h1]; exact hb.l
   ·simp [h2]; exact hb.o
end Go.Fx.Mo
namespace Go.Fx.Try
open Go Go.Fx Go.Fx.Mo
open Go.Proofs
variable {w0 w:World} {H Y:List (Nat × Obj)} {K:Value→World→Prop}
set_option maxRecDepth 20000
def RunS (w0 w:World) (r:RR) (cs:List Value) (H:List (Nat × Obj)):Prop:=
 ∃ lv ov xv LL LO LX,cs=runCs r 0 lv ov xv∧RunIs w0 r lv ov xv LL LO LX∧St w0 w (LL++(LO++(LX++H)))
structure Any20 (cs:List Value):Prop where
 len:cs.length=20
 one:∀ v∈cs.toArray.toList,v.oneCell'=true
theorem RunS.any {r:RR} {cs:List Value} (h:RunS w0 w r cs H):Any20 cs:=by
 obtain ⟨lv,ov,xv,LL,LO,LX,rfl,hr,_⟩:=h
 exact ⟨runCs_len hr.bl hr.el,runCs_one (slO_one hr.sl) (slO_one hr.so) (slO_one hr.sx)⟩
theorem RunS.base {r:RR} {cs:List Value} (h:RunS w0 w r cs H):St w0 w H:=by
 obtain ⟨lv,ov,xv,LL,LO,LX,rfl,hr,hs⟩:=h
 exact ((hs.sub hr.nl).sub hr.no).sub hr.nx
theorem RunS.newC {r:RR} {cs news:List Value} {t:TypeId} {Q:Nat→World→Prop} (h:RunS w0 w r cs H) (hK:∀ n w',w0.heap.size≤n→RunS w0 w' r cs ((n,Cs news t)::H)→Q n w'):NewC news.toArray t w Q:=by
 obtain ⟨lv,ov,xv,LL,LO,LX,rfl,hr,hs⟩:=h
 refine hs.newC fun n w' hn h'=>hK n w' hn ⟨lv,ov,xv,LL,LO,LX,rfl,hr,h'.perm (perm_by fun c=>?_)⟩
 simp only [List.map_append,List.map_cons,List.sum_append,List.sum_cons]; omega
theorem RunS.tail {r:RR} {cs:List Value} {n:Nat} {o:Obj} (h:RunS w0 w r cs ((n,o)::H)) (hn:w0.heap.size≤n):RunS w0 w r cs H:=by
 obtain ⟨lv,ov,xv,LL,LO,LX,rfl,hr,hs⟩:=h
 refine ⟨lv,ov,xv,LL,LO,LX,rfl,hr,St.tail (b:=n) (o:=o) (hs.perm (perm_by fun c=>?_)) hn⟩
 simp only [List.map_append,List.map_cons,List.sum_append,List.sum_cons]; omega
theorem RunS.open' {r:RR} {cs:List Value} (h:RunS w0 w r cs H):∃ Z,New w0 Z∧St w0 w (H++Z)∧∀ w' H',St w0 w' (H'++Z)→RunS w0 w' r cs H':=by
 obtain ⟨lv,ov,xv,LL,LO,LX,rfl,hr,hs⟩:=h
 refine ⟨LL++(LO++LX),?_,hs.perm (perm_by fun c=>?_),fun w' H' h'=>⟨lv,ov,xv,LL,LO,LX,rfl,hr,h'.perm (perm_by fun c=>?_)⟩⟩
 ·intro y hy
  rcases List.mem_append.1 hy with h | h
  ·exact hr.nl y h
  ·rcases List.mem_append.1 h with h | h
   ·exact hr.no y h
   ·exact hr.nx y h
 ·simp only [List.map_append,List.sum_append]; omega
 ·simp only [List.map_append,List.sum_append]; omega
theorem putS_ok {r:RR} {cs:List Value} {o:Ord} {i:Int} {n:Nat} (h:RunS w0 w r cs H) (ho:0≤o.th∧o.th < 8) (hb:Bd r n) (hn:n < 100000000)
  (hno:rput r o i=none→∀ w' cs',Any20 cs'→St w0 w' H→K (.tuple [.agg cs'.toArray,.bool false].toArray) w')
  (hyes:∀ r',rput r o i=some r'→∀ w' cs',RunS w0 w' r' cs' H→K (.tuple [.agg cs'.toArray,.bool true].toArray) w') :
  CallL P 113 [.agg cs.toArray,.agg (Ordcs o).toArray,.int .i64 i] w K:=by
 obtain ⟨lv,ov,xv,LL,LO,LX,rfl,hr,hs⟩:=h
 exact put_ok hs hr ho ⟨by have:=hb.l; omega,by have:=hb.o; omega⟩ (fun h w' cs' h1 h2 h3=>hno h w' cs' ⟨h1,h2⟩ h3) fun r' h w' lv' ov' LL' LO' hr' hs'=>hyes r' h w' _ ⟨lv',ov',xv,LL',LO',LX,rfl,hr',hs'⟩
theorem build99t (k t n:Int) (wq:World):(Instr.build 99 [(0,(Value.int .i64 k)),(1,(Value.int .i64 t)),(3,(Value.int .i64 n))].toArray).run P wq=.ok (.agg (Ordcs ⟨k,t,0,n⟩).toArray) wq:=by kernel_rfl
theorem info199:P.info? 199=some Try.t199:=by kernel_rfl
section
variable {n11 n9 n7 n5:Nat} {z:List Value} {e:Ev} {ob:List Value} {kind i:Int} {r:RR} {x:Ob} {m:Nat}
theorem touch_s1 {cs:List Value} (hz:z.length=20) (h:RunS w0 w r cs ((n11,Cs z 113)::(n9,Cs ob 199)::(n7,Cs (Evcs e) 35)::(n5,Cs cs 113)::H)) (hn:∀ y∈[n11,n9,n7,n5],w0.heap.size≤y) (he:0≤e.th∧e.th < 8) (hb:Bd r m) (hm:m < 100000000)
  (hno:rput r ⟨kind,e.th,0,numb r.objs x⟩ i=none→∀ w' cs',Any20 cs'→St w0 w' H→K (.tuple [.agg cs'.toArray,.bool false].toArray) w')
  (hyes:∀ r',rput r ⟨kind,e.th,0,numb r.objs x⟩ i=some r'→∀ w' cs',RunS w0 w' r' cs' H→K (.tuple [.agg cs'.toArray,.bool true].toArray) w') :
  f112_s1 (Addr.mk n11 0 none) i (numb r.objs x:Nat) (Addr.mk n7 0 none) kind (Addr.mk n5 0 none) w K:=by
 have ha:=h.any
 have h11:=hn n11 (by simp)
 have h9:=hn n9 (by simp)
 have h7:=hn n7 (by simp)
 have h5:=hn n5 (by simp)
 rw [f112_s1_eq]
 obtain ⟨Z,hZ,hs,hback⟩:=h.open'
 refine hs.ldA (k:=3) (i:=0) rfl (by simp [ha.len]) ?_
 rw [List.drop_zero,List.take_of_length_le (by rw [ha.len]; omega)]
 refine ⟨e.th,by rw [add_lit',Nat.zero_add,hs.cell (k:=2) rfl]; rfl,_,fun wq=>build99t kind e.th _ wq,?_⟩
 have tail:∀ (b:Bool) (w':World) (cs':List Value) (J:List (Nat × Obj)),Any20 cs'→St w0 w' ((n11,Cs z 113)::J)→(∀ w2,St w0 w2 ((n11,Cs cs' 113)::J)→K (.tuple [.agg cs'.toArray,.bool b].toArray) w2)→
   StA 20 (Addr.mk n11 0 none) cs'.toArray w' (fun w51=>LdA 20 (Addr.mk n11 0 none) w51 (fun cs52=>K (.tuple [.agg cs52,.bool b].toArray) w51)):=by
  intro b w' cs' J hc h' hk
  refine h'.stA (k:=0) rfl (by simp [hc.len]) (by simp [hz,hc.len]) hc.one fun w2 h2=>?_
  have h2:St w0 w2 ((n11,Cs (splice z 0 cs') 113)::J):=h2
  rw [splice_whole (by rw [hc.len,hz])] at h2
  refine h2.ldA (k:=0) (i:=0) rfl (by simp [hc.len]) ?_
  rw [List.drop_zero,List.take_of_length_le (by rw [hc.len]; omega)]
  exact hk w2 h2
 refine putS_ok (hback w _ hs) he hb hm (fun hf w' cs' hc h'=>⟨_,false,rfl,?_⟩) (fun r' hf w' cs' h'=>⟨_,true,rfl,?_⟩)
 ·refine tail false w' cs' _ hc h' fun w2 h2=>hno hf w2 cs' hc ((((h2.tail h11).tail h9).tail h7).tail h5)
 ·obtain ⟨Z',hZ',hs',hback'⟩:=h'.open'
  refine tail true w' cs' _ h'.any hs' fun w2 h2=>hyes r' hf w2 cs' ((((hback' w2 ((n11,Cs cs' 113)::(n9,Cs ob 199)::(n7,Cs (Evcs e) 35)::(n5,Cs cs 113)::H) h2).tail h11).tail h9 |>.tail h7).tail h5)
end
theorem touch_ok {r:RR} {cs:List Value} {e:Ev} {kind i:Int} {x:Ob} {n:Nat} (h:RunS w0 w r cs H) (he:0≤e.th∧e.th < 8) (hb:Bd r n) (hn:n < 10000000)
  (hno:rtouch r kind e x i=none→∀ w' cs',Any20 cs'→St w0 w' H→K (.tuple [.agg cs'.toArray,.bool false].toArray) w')
  (hyes:∀ r',rtouch r kind e x i=some r'→∀ w' cs',RunS w0 w' r' cs' H→K (.tuple [.agg cs'.toArray,.bool true].toArray) w') :
  CallL P 112 [.agg cs.toArray,.int .i64 kind,.agg (Evcs e).toArray,.agg (Obcs x).toArray,.int .i64 i] w K:=by
 refine f112_ok _ _ _ _ _ _ _ ?_
 obtain ⟨z,hz,hzl⟩:=z113
 rw [f112_eq,hz]
 refine h.newC fun n5 w1 hn5 g1=>g1.newC fun n7 w2 hn7 g2=>g2.newC fun n9 w3 hn9 g3=>g3.newC fun n11 w4 hn11 g4=>?_
 have hall:∀ y∈[n11,n9,n7,n5],w0.heap.size≤y:=by
  intro y hy
  simp at hy
  rcases hy with rfl | rfl | rfl | rfl <;> assumption
 obtain ⟨lv,ov,xv,LL,LO,LX,rfl,hr,hs⟩:=g4
 have hx:=hr.sx
 have hs1:=hs.perm (H':=(n11,Cs z 113)::(n9,Cs (Obcs x) 199)::(n7,Cs (Evcs e) 35)::(n5,Cs (runCs r 0 lv ov xv) 113)::(LX++(LL++(LO++H)))) (perm_by fun c=>by
  simp only [List.map_append,List.map_cons,List.sum_append,List.sum_cons]; omega)
 obtain ⟨xa,xc,hxv⟩:=hx.form
 have rx:∀ {w':World} {J:List (Nat × Obj)},St w0 w' ((n11,Cs z 113)::(n9,Cs (Obcs x) 199)::(n7,Cs (Evcs e) 35)::(n5,Cs (runCs r 0 lv ov xv) 113)::J)→w'.cell? ((Addr.mk n5 0 none).add 2)=some (.slice xa r.objs.length xc):=fun h'=>by
  rw [add_lit',Nat.zero_add,h'.cell (k:=3) rfl,← hxv]; rfl
 refine ⟨xa,_,xc,rx hs1,?_⟩
 refine hs1.ldA (k:=1) (i:=0) rfl (by simp [Obcs]) ?_
 rw [show ((Obcs x).drop 0).take 2=Obcs x from rfl,← hxv]
 have hxl:r.objs.length < 100000000:=by have:=hb.x; omega
 refine numb_ok x hs1 (fun w' h'=>hx.row fun y hy=>h'.has _ _ (by simp [hy])) (by omega) fun w5 h5=>⟨_,rfl,xa,_,xc,rx h5,r.objs.length,fun wq _=>run_len_110 wq,?_⟩
 have fin:∀ w' xv' LX',(come r x).objs.length=(come r x).objs.length→RunIs w0 (come r x) lv ov xv' LL LO LX'→St w0 w' ((n11,Cs z 113)::(n9,Cs (Obcs x) 199)::(n7,Cs (Evcs e) 35)::(n5,Cs (runCs (come r x) 0 lv ov xv') 113)::(LX'++(LL++(LO++H))))→numb (come r x).objs x=numb r.objs x→
   f112_s0 (Addr.mk n11 0 none) (Addr.mk n5 0 none) i (numb r.objs x:Nat) (Addr.mk n7 0 none) kind w' K:=by
  intro w' xv' LX' _ hr' h' hnu
  have hl:=runCs_len (x:=0) (lv:=lv) (ov:=ov) (xv:=xv') hr'.bl hr'.el
  have h1:=runCs_one (r:=come r x) (x:=0) (slO_one hr'.sl) (slO_one hr'.so) (slO_one hr'.sx)
  rw [f112_s0_eq,BIf_iff]
  constructor
  ·intro hge
   have hge:numb r.objs x≥65536:=by simp at hge; omega
   refine h'.ldA (k:=3) (i:=0) rfl (by simp [hl]) ?_
   rw [List.drop_zero,List.take_of_length_le (by omega)]
   refine h'.stA (k:=0) rfl (by simp [hl]) (by simp [hl,hzl]) h1 fun w2 h2=>?_
   have h2:St w0 w2 ((n11,Cs (splice z 0 (runCs (come r x) 0 lv ov xv')) 113)::(n9,Cs (Obcs x) 199)::(n7,Cs (Evcs e) 35)::(n5,Cs (runCs (come r x) 0 lv ov xv') 113)::(LX'++(LL++(LO++H)))):=h2
   rw [splice_whole (by omega)] at h2
   refine h2.ldA (k:=0) (i:=0) rfl (by simp [hl]) ?_
   rw [List.drop_zero,List.take_of_length_le (by omega)]
   exact hno (by unfold rtouch; rw [if_pos hge]) w2 _ ⟨hl,h1⟩ (((((((h2.tail hn11).tail hn9).tail hn7).tail hn5).sub hr'.nx).sub hr'.nl).sub hr'.no)
  ·intro hlt
   have hlt:¬ numb r.objs x≥65536:=by simp at hlt; omega
   obtain ⟨c1,c2,c3⟩:=come_bd (x:=x) hb
   have hb':Bd (come r x) (n+1):=⟨by rw [c1]; have:=hb.l; omega,by rw [c2]; have:=hb.o; omega,c3⟩
   rw [← hnu]
   refine touch_s1 (ob:=Obcs x) (m:=n+1) hzl ⟨lv,ov,xv',LL,LO,LX',rfl,hr',h'.perm (perm_by fun c=>?_)⟩ hall he hb' (by omega) (fun hf=>hno ?_) fun r' hf=>hyes r' ?_
   ·simp only [List.map_append,List.map_cons,List.sum_append,List.sum_cons]; omega
   ·unfold rtouch; rw [if_neg hlt,← hnu]; exact hf
   ·unfold rtouch; rw [if_neg hlt,← hnu]; exact hf
 rw [BIf_iff]
 constructor
 ·intro heq
  have heq:numb r.objs x=r.objs.length:=by simp at heq; omega
  refine ⟨xa,_,xc,rx h5,?_⟩
  refine h5.ldA (k:=1) (i:=0) rfl (by simp [Obcs]) ⟨⟨rfl,trivial⟩,?_⟩
  refine h5.newC fun n25 w6 hn25 h6=>?_
  have h6:St w0 w6 (((n25,Cs (Obcs x) 199)::(n11,Cs z 113)::(n9,Cs (Obcs x) 199)::(n7,Cs (Evcs e) 35)::[(n5,Cs (runCs r 0 lv ov xv) 113)])++(LX++(LL++(LO++H)))):=h6
  obtain ⟨g,cap,w7,LX',hru,hS,g7,hN⟩:=St.append (P:=P) 110 110 199 Try.t199 (.agg #[.bool false,.int .u32 0]) 2 8 Try.underlying110 info199 rfl rfl rfl rfl (by omega) h6 hx hr.nx (j:=0) rfl (by simp [Obcs]) (by simp [Obcs,Value.oneCell']) (by simp [maxLen]; omega) (by omega)
  rw [hxv] at hru
  refine ⟨_,_,_,w7,hru,?_⟩
  rw [add_lit',Nat.zero_add]
  refine g7.st1 (k:=4) rfl (by simp [runCs]) rfl fun w8 g8=>?_
  have hcome:come r x={ r with objs:=r.objs++[x] }:=by unfold come; rw [if_pos heq]
  have hS:SlO 2 199 (.slice (some ⟨g,0,none⟩) (r.objs.length+1) cap) (come r x).objs.length (objsCs (come r x).objs) LX':=by
   rw [hcome]
   show SlO 2 199 _ (r.objs++[x]).length (objsCs (r.objs++[x])) LX'
   rw [List.length_append,show objsCs (r.objs++[x])=objsCs r.objs++Obcs x by simp [objsCs]]
   exact hS
  generalize hxv':Value.slice (some ⟨g,0,none⟩) (r.objs.length+1) cap=xv' at *
  have hni:x ∉ r.objs:=by
   intro hm
   have:=List.idxOf_lt_length_of_mem hm
   unfold numb at heq; omega
  refine fin w8 xv' LX' rfl ⟨by rw [hcome]; exact hr.sl,by rw [hcome]; exact hr.so,hS,hr.nl,hr.no,hN,by rw [hcome]; exact hr.bl,by rw [hcome]; exact hr.el⟩ ?_ ?_
  ·rw [hcome]
   exact g8.tail hn25
  ·rw [hcome]
   show (r.objs++[x]).idxOf x=r.objs.idxOf x
   rw [List.idxOf_append,if_neg hni,List.idxOf_eq_length hni]
   simp
 ·intro hne
  have hne:¬ numb r.objs x=r.objs.length:=by simp at hne; omega
  have hcome:come r x=r:=by unfold come; rw [if_neg hne]
  refine fin w5 xv LX rfl (by rw [hcome]; exact hr) ?_ (by rw [hcome])
  rw [hcome]
  exact h5
end Go.Fx.Try
namespace Go.Fx.Mo
def wordOf (e:Ev) (i:Int):Ob:=(true,w32 ((w32 (e.a+w32 i)).tdiv 4))
def wstep (e:Ev) (l:List Ob) (i:Nat):List Ob:=if l.getLast?=some (wordOf e i) then l else l++[wordOf e i]
def words (e:Ev):List Ob:=(List.range e.n.toNat).foldl (wstep e) []
theorem wstep_len (e:Ev) (l:List Ob) (i:Nat):(wstep e l i).length≤l.length+1:=by
 unfold wstep
 split <;> simp
theorem wfold_len (e:Ev):∀ i:Nat,((List.range i).foldl (wstep e) []).length≤i
 | 0=>by simp
 | i+1=>by
  rw [List.range_succ,List.foldl_append]
  have:=wfold_len e i
  refine Nat.le_trans (wstep_len _ _ _) ?_
  omega
def rtouches (e:Ev) (i:Int):List Ob→RR→Option RR
 | [],r=>some r
 | x::t,r=>match rtouch r 4 e x i with
  | none=>none
  | some r'=>rtouches e i t r'
def rwith (r:RR) (e:Ev) (i:Int):Option RR:=
 if shaped e=false then none else
 if e.kind=4 then rtouches e i (words e) r else
 if e.kind=14 then rtouch r 3 e (false,e.a) i else
 if e.kind=15 then rtouch r 2 e (false,e.a) i else
 if e.kind=11 then rput r ⟨5,e.th,e.n,0⟩ i else
 if e.kind=13 then rput r ⟨6,e.th,e.n,0⟩ i else rput r ⟨1,e.th,0,0⟩ i
theorem rtouches_bd {e:Ev} {i:Int}:∀ {l:List Ob} {r r':RR} {n:Nat},rtouches e i l r=some r'→Bd r n→Bd r' (n+l.length)
 | [],r,r',n,h,hb=>by
  cases h
  exact hb
 | x::t,r,r',n,h,hb=>by
  unfold rtouches at h
  split at h
  ·cases h
  ·rename_i r2 h2
   have:=rtouches_bd h (rtouch_bd h2 hb)
   rw [List.length_cons,show n+(t.length+1)=n+1+t.length by omega]
   exact this
theorem shaped_th {e:Ev} (h:shaped e=true):0≤e.th∧e.th < 8∧(e.kind=4→e.n≤16):=by
 unfold shaped at h
 split at h
 ·cases h
 ·rename_i hk
  refine ⟨by omega,by omega,fun h4=>?_⟩
  rw [if_pos h4] at h
  simp at h
  exact h.2
theorem Bd.more {r:RR} {n m:Nat} (h:Bd r n) (hm:n≤m):Bd r m:=⟨by have:=h.l; omega,by have:=h.o; omega,by have:=h.x; omega⟩
theorem rwith_bd {r r':RR} {e:Ev} {i:Int} {n:Nat} (h:rwith r e i=some r') (hb:Bd r n):Bd r' (n+16):=by
 unfold rwith at h
 cases hs:shaped e
 ·rw [if_pos hs] at h; cases h
 ·rw [if_neg (by simp [hs])] at h
  split at h
  ·rename_i h4
   have h16:=(shaped_th hs).2.2 h4
   refine (rtouches_bd h hb).more ?_
   have:=wfold_len e e.n.toNat
   unfold words
   omega
  ·split at h
   ·exact (rtouch_bd h hb).more (by omega)
   ·split at h
    ·exact (rtouch_bd h hb).more (by omega)
    ·split at h
     ·exact (rput_bd h hb).more (by omega)
     ·split at h
      ·exact (rput_bd h hb).more (by omega)
      ·exact (rput_bd h hb).more (by omega)
end Go.Fx.Mo
namespace Go.Fx.Try
open Go Go.Fx Go.Fx.Mo
open Go.Proofs
variable {w0 w:World} {H Y:List (Nat × Obj)} {K:Value→World→Prop}
set_option maxRecDepth 20000
theorem bs110 (w:World):(Instr.buildSlice 110 0 ([]:List (Nat × Value)).toArray).run P w=.ok (.slice (some ⟨w.heap.size,0,none⟩) 0 0) (w.alloc (.cells #[] 199 (0,0))):=by kernel_rfl
theorem build199 (b:Bool) (x:Int) (wq:World):(Instr.build 199 [(0,(Value.bool b)),(1,(Value.int .u32 x))].toArray).run P wq=.ok (.agg (Obcs (b,x)).toArray) wq:=by kernel_rfl
theorem build199f (x:Int) (wq:World):(Instr.build 199 [(1,(Value.int .u32 x))].toArray).run P wq=.ok (.agg (Obcs (false,x)).toArray) wq:=by kernel_rfl
theorem z199:zcells P 199=#[.bool false,.int .u32 0]:=by kernel_rfl
theorem slO_nil0 (size:Nat) (e:TypeId) (n:Nat):SlO size e (.slice (some ⟨n,0,none⟩) 0 0) 0 [] [(n,Cs [] e)]:=⟨by simp,.inr ⟨n,0,[],rfl,rfl,by omega,by simp [maxLen],by simp,by simp⟩⟩
theorem words_ok {e:Ev} (h:St w0 w H) (h16:e.n≤16) (hK:∀ w' a c Lo,SlO 2 199 (.slice a (words e).length c) (words e).length (objsCs (words e)) Lo→New w0 Lo→St w0 w' (Lo++H)→K (.slice a (words e).length c) w') :
  CallL P 111 [.agg (Evcs e).toArray] w K:=by
 refine f111_ok _ _ _ ?_
 rw [f111_eq,f111_s0_eq]
 refine h.newC fun n2 w1 hn2 h1=>?_
 rw [f111_s1_eq]
 refine ⟨_,_,_,_,bs110 w1,?_⟩
 have h2:=h1.alloc (.cells #[] 199 (0,0))
 have hn:=h1.le
 generalize w1.heap.size=n at h2 hn
 have h2:St w0 (w1.alloc (.cells #[] 199 (0,0))) ([(n,Cs [] 199)]++((n2,Cs (Evcs e) 35)::H)):=h2
 rw [f111_s2_eq,f111_s3_eq]
 refine ⟨fun m ee w=>∃ (i:Nat) (l:List Ob) (a:Option Addr) (c:Nat) (Lt:List (Nat × Obj)),l=(List.range i).foldl (wstep e) []∧i≤e.n.toNat∧m=e.n.toNat - i∧
  ee=Env.mk 38 [(4,(Value.int .i64 i)),(3,(Value.slice a l.length c)),(1,(Value.pointer (some (Addr.mk n2 0 none)))),(2,(Value.slice none 0 0))] []∧
  SlO 2 199 (.slice a l.length c) l.length (objsCs l) Lt∧New w0 Lt∧St w0 w (Lt++((n2,Cs (Evcs e) 35)::H)),
  ⟨e.n.toNat,0,[],_,_,[(n,Cs [] 199)],rfl,by omega,rfl,rfl,slO_nil0 2 199 n,by simpa [New] using hn,h2⟩,?_⟩
 rintro m ee w ⟨i,l,a,c,Lt,hl,hi,rfl,rfl,hS,hN,hw⟩
 show f111_lb4 _ _ _ _ _ _ _ _ _ _ _
 rw [f111_lb4_eq]
 have hln:l.length≤i:=by rw [hl]; exact wfold_len e i
 have rd:∀ {w':World} {Z:List (Nat × Obj)} {j:Nat} {v:Value},St w0 w' (Z++((n2,Cs (Evcs e) 35)::H))→(Evcs e)[j]?=some v→w'.cell? ((Addr.mk n2 0 none).add j)=some v:=fun h' hv=>by
  rw [add_lit',Nat.zero_add,cell_of (h'.has n2 (Cs (Evcs e) 35) (by simp))]; exact hv
 refine ⟨_,rd hw rfl,?_⟩
 rw [BIf_iff]
 constructor
 ·intro hlt
  have hlt:(i:Int) < e.n:=by simpa using hlt
  rw [f111_s5_eq]
  refine ⟨_,rd hw rfl,by decide,_,fun wq=>build199 true _ wq,?_⟩
  rw [z199]
  refine hw.newC fun n35 w3 hn35 h3=>h3.stA (k:=0) rfl rfl (by simp) (by simp [Obcs,Value.oneCell']) fun w4 h4=>?_
  have h4:St w0 w4 ((n35,Cs (Obcs (wordOf e i)) 199)::(Lt++((n2,Cs (Evcs e) 35)::H))):=h4
  have hd:=h4.drew
  generalize hY:(fun e' w'=>∃ m,m < e.n.toNat - i∧∃ (i:Nat) (l:List Ob) (a:Option Addr) (c:Nat) (Lt:List (Nat × Obj)),l=(List.range i).foldl (wstep e) []∧i≤e.n.toNat∧m=e.n.toNat - i∧
   e'=Env.mk 38 [(4,(Value.int .i64 i)),(3,(Value.slice a l.length c)),(1,(Value.pointer (some (Addr.mk n2 0 none)))),(2,(Value.slice none 0 0))] []∧
   SlO 2 199 (.slice a l.length c) l.length (objsCs l) Lt∧New w0 Lt∧St w0 w' (Lt++((n2,Cs (Evcs e) 35)::H)))=Y
  have hstep:(List.range (i+1)).foldl (wstep e) []=wstep e l i:=by rw [List.range_succ,List.foldl_append,← hl]; rfl
  have wr:IntKind.wrap .i64 ((i:Int)+1)=((i+1:Nat):Int):=by rw [wrap_i64 (by omega) (by omega)]; rfl
  have new:∀ w5,St w0 w5 ((n35,Cs (Obcs (wordOf e i)) 199)::(Lt++((n2,Cs (Evcs e) 35)::H)))→l.getLast?≠some (wordOf e i)→f111_s6 true (Addr.mk n2 0 none) none 0 0 (i:Int) (Addr.mk n35 0 none) a l.length c w5 K Y:=by
   intro w5 h5 hne
   rw [f111_s6_eq,BIf_true]
   refine h5.ldA (k:=0) (i:=0) rfl (by simp [Obcs]) ⟨⟨rfl,trivial⟩,?_⟩
   refine h5.newC fun n49 w6 hn49 h6=>?_
   have h6:St w0 w6 (((n49,Cs (Obcs (wordOf e i)) 199)::[(n35,Cs (Obcs (wordOf e i)) 199)])++(Lt++((n2,Cs (Evcs e) 35)::H))):=h6
   obtain ⟨g,cap,w7,L',hru,hS',g7,hN'⟩:=St.append (P:=P) 110 110 199 Try.t199 (.agg #[.bool false,.int .u32 0]) 2 8 Try.underlying110 info199 rfl rfl rfl rfl (by omega) h6 hS hN (j:=0) rfl (by simp [Obcs]) (by simp [Obcs,Value.oneCell']) (by simp [maxLen]; omega) (by omega)
   refine ⟨_,_,_,w7,hru,?_⟩
   have e1:wstep e l i=l++[wordOf e i]:=by unfold wstep; rw [if_neg hne]
   have e2:l.length+1=(l++[wordOf e i]).length:=by simp
   rw [e2] at hS' ⊢
   rw [f111_s7_eq,← hY]
   refine ⟨e.n.toNat - (i+1),by omega,i+1,l++[wordOf e i],some ⟨g,0,none⟩,cap,L',by rw [hstep,e1],by omega,rfl,by rw [wr],?_,hN',(g7.tail hn49).tail hn35⟩
   rw [show objsCs (l++[wordOf e i])=objsCs l++Obcs (wordOf e i) by simp [objsCs]]
   exact hS'
  have old:∀ w5,St w0 w5 ((n35,Cs (Obcs (wordOf e i)) 199)::(Lt++((n2,Cs (Evcs e) 35)::H)))→l.getLast?=some (wordOf e i)→f111_s6 false (Addr.mk n2 0 none) none 0 0 (i:Int) (Addr.mk n35 0 none) a l.length c w5 K Y:=by
   intro w5 h5 heq
   rw [f111_s6_eq,BIf_false,f111_s7_eq,← hY]
   refine ⟨e.n.toNat - (i+1),by omega,i+1,l,a,c,Lt,?_,by omega,rfl,by rw [wr],hS,hN,h5.tail hn35⟩
   rw [hstep]; unfold wstep; rw [if_pos heq]
  refine ⟨l.length,fun wq _=>run_len_110 wq,?_⟩
  rcases List.eq_nil_or_concat l with h0 | ⟨l0,x0,h0⟩
  ·have hl0:l.length=0:=by rw [h0]; rfl
   have hb:(((l.length:Nat):Int) == 0)=true:=by rw [hl0]; rfl
   rw [hb,BIf_true]
   exact new _ hd (by rw [h0]; simp)
  ·have hl0:l.length=l0.length+1:=by rw [h0]; simp
   have hb:(((l.length:Nat):Int) == 0)=false:=by rw [hl0]; simp; omega
   rw [hb,BIf_false]
   refine ⟨l.length,fun wq _=>run_len_110 wq,?_⟩
   have hw1:IntKind.wrap .i64 (((l.length:Nat):Int) - 1)=(l0.length:Int):=by rw [wrap_i64 (by omega) (by omega)]; omega
   rw [hw1]
   obtain ⟨g,cc,hg,hld⟩:=slO_ldA hS (w:=w4.drew) (i:=l0.length) (fun y hy=>hd.has _ _ (by simp [hy])) (by omega)
   obtain ⟨hsa,-⟩:a=some ⟨g,0,none⟩∧c=cc:=by simpa using hg
   subst hsa
   refine ⟨by omega,by omega,hld _ ?_⟩
   have hlast:l[l0.length]'(by omega)=x0:=by subst h0; simp
   rw [objs_at (by omega),hlast]
   refine hd.ldA (k:=0) (i:=0) rfl (by simp [Obcs]) ?_
   rw [show ((Obcs (wordOf e i)).drop 0).take 2=Obcs (wordOf e i) from rfl]
   refine ⟨_,fun wq=>neop199 29 30 wq x0 (wordOf e i),?_⟩
   have hgl:l.getLast?=some x0:=by rw [h0]; simp
   by_cases hx:x0=wordOf e i
   ·rw [decide_eq_true hx,Bool.not_true]
    exact old _ hd (by rw [hgl,hx])
   ·rw [decide_eq_false hx,Bool.not_false]
    exact new _ hd (by rw [hgl]; simpa using hx)
 ·intro hge
  have hge:e.n≤(i:Int):=by simpa using hge
  have:i=e.n.toNat:=by omega
  subst this
  rw [f111_s8_eq]
  have hl:l=words e:=hl
  subst hl
  refine hK w a c Lt hS hN (St.tail (b:=n2) (o:=Cs (Evcs e) 35) (hw.perm List.perm_middle) hn2)
end Go.Fx.Try
namespace Go.Fx.Try
open Go Go.Fx Go.Fx.Mo
open Go.Proofs
variable {w0 w:World} {H Y:List (Nat × Obj)} {K:Value→World→Prop}
set_option maxRecDepth 20000
theorem build99s (k t n:Int) (wq:World):(Instr.build 99 [(0,(Value.int .i64 k)),(1,(Value.int .i64 t)),(2,(Value.int .i64 n))].toArray).run P wq=.ok (.agg (Ordcs ⟨k,t,n,0⟩).toArray) wq:=by kernel_rfl
theorem build99o (k t:Int) (wq:World):(Instr.build 99 [(0,(Value.int .i64 k)),(1,(Value.int .i64 t))].toArray).run P wq=.ok (.agg (Ordcs ⟨k,t,0,0⟩).toArray) wq:=by kernel_rfl
theorem keep20 {n:Nat} {z cs:List Value} {J:List (Nat × Obj)} {Q:Array Value→World→Prop} (hz:z.length=20) (hc:Any20 cs) (h:St w0 w ((n,Cs z 113)::J)) (hk:∀ w2,St w0 w2 ((n,Cs cs 113)::J)→Q cs.toArray w2) :
  StA 20 (Addr.mk n 0 none) cs.toArray w (fun w'=>LdA 20 (Addr.mk n 0 none) w' (fun c=>Q c w')):=by
 refine h.stA (k:=0) rfl (by simp [hc.len]) (by simp [hz,hc.len]) hc.one fun w2 h2=>?_
 have h2:St w0 w2 ((n,Cs (splice z 0 cs) 113)::J):=h2
 rw [splice_whole (by rw [hc.len,hz])] at h2
 refine h2.ldA (k:=0) (i:=0) rfl (by simp [hc.len]) ?_
 rw [List.drop_zero,List.take_of_length_le (by rw [hc.len]; omega)]
 exact hk w2 h2
theorem ld20 {k n:Nat} {cs:List Value} {J:List (Nat × Obj)} {Q:Array Value→Prop} (h:St w0 w J) (hk:J[k]?=some (n,Cs cs 113)) (hc:Any20 cs) (hq:Q cs.toArray):LdA 20 (Addr.mk n 0 none) w Q:=by
 refine h.ldA hk (i:=0) (by simp [hc.len]) ?_
 rw [List.drop_zero,List.take_of_length_le (by rw [hc.len]; omega)]
 exact hq
section
variable {n10 n8 n6:Nat} {z:List Value} {e:Ev} {r:RR} {n:Nat} {i:Int} {ws:List Ob} {Lo:List (Nat × Obj)}
abbrev withH (n10 n8 n6:Nat) (z:List Value) (e:Ev) (cs:List Value) (R:List (Nat × Obj)):List (Nat × Obj):=(n10,Cs z 113)::(n8,Cs (Evcs e) 35)::(n6,Cs cs 113)::R
theorem with_end {Q:Option RR→Prop} {cs:List Value} (hz:z.length=20) (hn:∀ y∈[n10,n8,n6],w0.heap.size≤y) :
  (∀ (b:Bool) w' cs',Any20 cs'→St w0 w' (withH n10 n8 n6 z e cs H)→(∀ w2,St w0 w2 H→K (.tuple [.agg cs'.toArray,.bool b].toArray) w2)→
   StA 20 (Addr.mk n10 0 none) cs'.toArray w' (fun w2=>LdA 20 (Addr.mk n10 0 none) w2 (fun c=>K (.tuple [.agg c,.bool b].toArray) w2)))∧
  (∀ w' cs' r',RunS w0 w' r' cs' (withH n10 n8 n6 z e cs H)→(∀ w2,RunS w0 w2 r' cs' H→K (.tuple [.agg cs'.toArray,.bool true].toArray) w2)→
   StA 20 (Addr.mk n10 0 none) cs'.toArray w' (fun w2=>LdA 20 (Addr.mk n10 0 none) w2 (fun c=>K (.tuple [.agg c,.bool true].toArray) w2))):=by
 have h10:=hn n10 (by simp)
 have h8:=hn n8 (by simp)
 have h6:=hn n6 (by simp)
 refine ⟨fun b w' cs' hc h' hk=>keep20 (Q:=fun c w2=>K (.tuple [.agg c,.bool b].toArray) w2) hz hc h' fun w2 h2=>hk w2 (((h2.tail h10).tail h8).tail h6),fun w' cs' r' h' hk=>?_⟩
 obtain ⟨Z,hZ,hs,hback⟩:=h'.open'
 refine keep20 (Q:=fun c w2=>K (.tuple [.agg c,.bool true].toArray) w2) hz h'.any hs fun w2 h2=>hk w2 ?_
 exact (((hback w2 ((n10,Cs cs' 113)::(n8,Cs (Evcs e) 35)::(n6,Cs cs 113)::H) h2).tail h10).tail h8).tail h6
theorem atomic_loop {cs:List Value} {wa:Option Addr} {wc:Nat} (hz:z.length=20) (hzc:zcells P 113=z.toArray) (hn:∀ y∈[n10,n8,n6],w0.heap.size≤y) (he:0≤e.th∧e.th < 8) (hb:Bd r n) (hm:n < 1000000)
  (hS:SlO 2 199 (.slice wa ws.length wc) ws.length (objsCs ws) Lo) (hN:New w0 Lo) (hwl:ws.length≤16) (h:RunS w0 w r cs (withH n10 n8 n6 z e cs (Lo++H)))
  (hno:rtouches e i ws r=none→∀ w' cs',Any20 cs'→St w0 w' H→K (.tuple [.agg cs'.toArray,.bool false].toArray) w')
  (hyes:∀ r',rtouches e i ws r=some r'→∀ w' cs',RunS w0 w' r' cs' H→K (.tuple [.agg cs'.toArray,.bool true].toArray) w') (b0:Bool) :
  LoopE (f93_lp7 K) (Env.mk 98 [(6,(Value.pointer (some (Addr.mk n10 0 none)))),(2,I64 i),(4,(Value.pointer (some (Addr.mk n8 0 none)))),(3,(Value.pointer (some (Addr.mk n6 0 none)))),(9,I64 0),(8,(Value.slice wa ws.length wc)),(7,(Value.bool b0))] []) w:=by
 have h10:=hn n10 (by simp)
 have h8:=hn n8 (by simp)
 have h6:=hn n6 (by simp)
 refine ⟨fun m ee w=>∃ (j:Nat) (rj:RR) (csj:List Value),j≤ws.length∧m=ws.length - j∧ee=Env.mk 98 [(6,(Value.pointer (some (Addr.mk n10 0 none)))),(2,I64 i),(4,(Value.pointer (some (Addr.mk n8 0 none)))),(3,(Value.pointer (some (Addr.mk n6 0 none)))),(9,I64 (j:Nat)),(8,(Value.slice wa ws.length wc)),(7,(Value.bool b0))] []∧
   rtouches e i (ws.drop j) rj=rtouches e i ws r∧Bd rj (n+j)∧RunS w0 w rj csj (withH n10 n8 n6 z e csj (Lo++H)),
  ⟨ws.length,0,r,cs,by omega,rfl,rfl,rfl,hb,h⟩,?_⟩
 rintro m ee w1 ⟨j,rj,csj,hj,rfl,rfl,hrt,hbj,hw⟩
 show f93_lb7 _ _ _ _ _ _ _ _ _ _ _ _
 rw [f93_lb7_eq]
 refine ⟨ws.length,fun wq _=>run_len_110 wq,?_⟩
 rw [BIf_iff]
 constructor
 ·intro hlt
  have hlt:j < ws.length:=by simpa using hlt
  rw [f93_s8_eq]
  obtain ⟨Z,hZ,hs,hback⟩:=hw.open'
  have hd:=hs.drew
  obtain ⟨g,cc,hg,hld⟩:=slO_ldA hS (w:=w1.drew) (i:=j) (fun y hy=>hd.has _ _ (by simp [hy])) hlt
  obtain ⟨hsa,-⟩:wa=some ⟨g,0,none⟩∧wc=cc:=by simpa using hg
  subst hsa
  refine ⟨by omega,by omega,?_⟩
  refine ld20 hd (k:=2) rfl hw.any ?_
  refine hd.ldA (k:=1) (i:=0) rfl (by simp [Evcs_len]) (hld _ ?_)
  rw [objs_at hlt]
  have hwd:=hback w1.drew _ hd
  have hdrop:ws.drop j=ws[j]::ws.drop (j+1):=List.drop_eq_getElem_cons hlt
  rw [hdrop,rtouches] at hrt
  generalize hY:(fun e' w'=>∃ m,m < ws.length - j∧∃ (j:Nat) (rj:RR) (csj:List Value),j≤ws.length∧m=ws.length - j∧e'=Env.mk 98 [(6,(Value.pointer (some (Addr.mk n10 0 none)))),(2,I64 i),(4,(Value.pointer (some (Addr.mk n8 0 none)))),(3,(Value.pointer (some (Addr.mk n6 0 none)))),(9,I64 (j:Nat)),(8,(Value.slice (some ⟨g,0,none⟩) ws.length wc)),(7,(Value.bool b0))] []∧
   rtouches e i (ws.drop j) rj=rtouches e i ws r∧Bd rj (n+j)∧RunS w0 w' rj csj (withH n10 n8 n6 z e csj (Lo++H)))=Y
  have bad:∀ (w':World) (n99:Nat) (cs':List Value),w0.heap.size≤n99→rtouch rj 4 e ws[j] i=none→Any20 cs'→St w0 w' ((n99,Cs z 113)::withH n10 n8 n6 z e csj (Lo++H))→
    StA 20 (Addr.mk n99 0 none) cs'.toArray w' (fun w2=>f93_s9 (Addr.mk n10 0 none) i (Addr.mk n8 0 none) (Addr.mk n6 0 none) (some ⟨g,0,none⟩) ws.length wc (j:Nat) b0 (Addr.mk n99 0 none) false w2 K Y):=by
   intro w' n99 cs' hn99 hf hc h'
   refine h'.stA (k:=0) rfl (by simp [hc.len]) (by simp [hz,hc.len]) hc.one fun w2 h2=>?_
   have h2:St w0 w2 ((n99,Cs (splice z 0 cs') 113)::withH n10 n8 n6 z e csj (Lo++H)):=h2
   rw [f93_s9_eq,Bool.not_false,BIf_true]
   have h3:=h2.tail hn99
   refine ld20 h3 (k:=2) rfl hw.any ?_
   refine (with_end (Q:=fun _=>True) (H:=Lo++H) hz hn).1 false w2 csj hw.any h3 fun w4 h4=>hno ?_ w4 csj hw.any (h4.sub hN)
   rw [← hrt,hf]
  have good:∀ (w':World) (n99:Nat) (cs':List Value) (r':RR),w0.heap.size≤n99→rtouch rj 4 e ws[j] i=some r'→RunS w0 w' r' cs' ((n99,Cs z 113)::withH n10 n8 n6 z e csj (Lo++H))→
    StA 20 (Addr.mk n99 0 none) cs'.toArray w' (fun w2=>f93_s9 (Addr.mk n10 0 none) i (Addr.mk n8 0 none) (Addr.mk n6 0 none) (some ⟨g,0,none⟩) ws.length wc (j:Nat) b0 (Addr.mk n99 0 none) true w2 K Y):=by
   intro w' n99 cs' r' hn99 hf h'
   have hc:=h'.any
   obtain ⟨Z',hZ',hs',hback'⟩:=h'.open'
   refine hs'.stA (k:=0) rfl (by simp [hc.len]) (by simp [hz,hc.len]) hc.one fun w2 h2=>?_
   have h2:St w0 w2 ((n99,Cs (splice z 0 cs') 113)::(withH n10 n8 n6 z e csj (Lo++H)++Z')):=h2
   rw [splice_whole (by rw [hc.len,hz])] at h2
   rw [f93_s9_eq,Bool.not_true,BIf_false,f93_s10_eq]
   refine ld20 h2 (k:=0) rfl hc ?_
   refine h2.stA (k:=3) rfl (by simp [hc.len]) (by simp [hw.any.len,hc.len]) hc.one fun w3 h3=>?_
   have h3:St w0 w3 ((n99,Cs cs' 113)::(withH n10 n8 n6 z e (splice csj 0 cs') (Lo++H)++Z')):=h3
   rw [splice_whole (by rw [hc.len,hw.any.len])] at h3
   rw [f93_s11_eq,← hY]
   refine ⟨ws.length - (j+1),by omega,j+1,r',cs',by omega,rfl,?_,?_,rtouch_bd hf hbj,hback' w3 _ (h3.tail hn99)⟩
   ·rw [wrap_i64 (by omega) (by omega)]; rfl
   ·rw [← hrt,hf]
  constructor
  ·refine touch_ok hwd he hbj (by omega) (fun hf w' cs' hc h'=>⟨_,false,rfl,?_⟩) (fun r' hf w' cs' h'=>⟨_,true,rfl,?_⟩)
   ·rw [hzc]
    exact h'.newC fun n99 w2 hn99 h2=>bad w2 n99 cs' hn99 hf hc h2
   ·rw [hzc]
    exact h'.newC fun n99 w2 hn99 h2=>good w2 n99 cs' r' hn99 hf h2
  ·rw [hzc]
   refine hwd.newC fun n131 w2 hn131 h2=>?_
   refine touch_ok h2 he hbj (by omega) (fun hf w' cs' hc h'=>⟨_,false,rfl,bad w' n131 cs' hn131 hf hc h'⟩) (fun r' hf w' cs' h'=>⟨_,true,rfl,good w' n131 cs' r' hn131 hf h'⟩)
 ·intro hge
  have hge:ws.length≤j:=by simpa using hge
  have:j=ws.length:=by omega
  subst this
  rw [f93_s12_eq]
  rw [List.drop_length,rtouches] at hrt
  obtain ⟨Z,hZ,hs,hback⟩:=hw.open'
  refine ld20 hs (k:=2) rfl hw.any ?_
  refine (with_end (Q:=fun _=>True) (H:=Lo++H) hz hn).2 w1 csj rj hw fun w2 h2=>hyes rj hrt.symm w2 csj ?_
  obtain ⟨Z',hZ',hs',hback'⟩:=h2.open'
  exact hback' w2 H (St.sub (L:=Lo) (by rw [List.append_assoc] at hs'; exact hs') hN)
end
theorem with_ok {cs:List Value} {r:RR} {e:Ev} {i:Int} {n:Nat} (h:RunS w0 w r cs H) (hb:Bd r n) (hm:n < 1000000)
  (hno:rwith r e i=none→∀ w' cs',Any20 cs'→St w0 w' H→K (.tuple [.agg cs'.toArray,.bool false].toArray) w')
  (hyes:∀ r',rwith r e i=some r'→∀ w' cs',RunS w0 w' r' cs' H→K (.tuple [.agg cs'.toArray,.bool true].toArray) w') :
  CallL P 93 [.agg cs.toArray,.agg (Evcs e).toArray,.int .i64 i] w K:=by
 refine f93_ok _ _ _ _ _ ?_
 obtain ⟨z,hz,hzl⟩:=z113
 rw [f93_eq,f93_s0_eq,hz]
 refine h.newC fun n6 w1 hn6 g1=>g1.newC fun n8 w2 hn8 g2=>g2.newC fun n10 w3 hn10 g3=>?_
 have g3:RunS w0 w3 r cs (withH n10 n8 n6 z e cs H):=g3
 have hn:∀ y∈[n10,n8,n6],w0.heap.size≤y:=by
  intro y hy
  simp at hy
  rcases hy with rfl | rfl | rfl <;> assumption
 obtain ⟨Z,hZ,hs,hback⟩:=g3.open'
 rw [f93_s1_eq]
 refine hs.ldA (k:=1) (i:=0) rfl (by simp [Evcs_len]) ?_
 refine shaped_ok hs e fun w4 h4=>⟨_,rfl,?_⟩
 have g4:=hback w4 _ h4
 have ends:=with_end (w0:=w0) (K:=K) (e:=e) (cs:=cs) (H:=H) (Q:=fun _=>True) hzl hn
 cases hsh:shaped e
 ·rw [Bool.not_false,BIf_true]
  refine ld20 h4 (k:=2) rfl g4.any ?_
  exact ends.1 false w4 cs g4.any g4.base fun w5 h5=>hno (by unfold rwith; rw [if_pos hsh]) w5 cs g4.any h5
 ·rw [Bool.not_true,BIf_false,f93_s2_eq]
  obtain ⟨h0,h8,h16⟩:=shaped_th hsh
  have hsf:¬ shaped e=false:=by simp [hsh]
  unfold rwith at hno hyes
  simp only [if_neg hsf] at hno hyes
  have rd:∀ {j:Nat} {v:Value},(Evcs e)[j]?=some v→w4.cell? ((Addr.mk n8 0 none).add j)=some v:=fun hv=>by
   rw [add_lit',Nat.zero_add,h4.cell (k:=1) rfl]; exact hv
  have rd0:∀ {v:Value},(Evcs e)[0]?=some v→w4.cell? (Addr.mk n8 0 none)=some v:=fun hv=>by
   rw [h4.cell (k:=1) rfl]; exact hv
  refine ⟨_,rd0 rfl,?_⟩
  rw [f93_s3_eq]
  cases k4:(e.kind == 4)
  ·have k4':¬ e.kind=4:=by simpa using k4
   simp only [if_neg k4'] at hno hyes
   rw [BIf_false]
   cases k14:(e.kind == 14)
   ·have k14':¬ e.kind=14:=by simpa using k14
    simp only [if_neg k14'] at hno hyes
    rw [BIf_false]
    cases k15:(e.kind == 15)
    ·have k15':¬ e.kind=15:=by simpa using k15
     simp only [if_neg k15'] at hno hyes
     rw [BIf_false]
     cases k11:(e.kind == 11)
     ·have k11':¬ e.kind=11:=by simpa using k11
      simp only [if_neg k11'] at hno hyes
      rw [BIf_false]
      cases k13:(e.kind == 13)
      ·have k13':¬ e.kind=13:=by simpa using k13
       simp only [if_neg k13'] at hno hyes
       rw [BIf_false,f93_s13_eq]
       refine ld20 h4 (k:=2) rfl g4.any ?_
       refine ⟨_,rd rfl,_,fun wq=>build99o 1 e.th wq,?_⟩
       exact putS_ok g4 ⟨h0,h8⟩ hb (by omega) (fun hf w' cs' hc h'=>⟨_,false,rfl,ends.1 false w' cs' hc h' fun w2 h2=>hno hf w2 cs' hc h2⟩) (fun r' hf w' cs' h'=>⟨_,true,rfl,ends.2 w' cs' r' h' fun w2 h2=>hyes r' hf w2 cs' h2⟩)
      ·have k13':e.kind=13:=by simpa using k13
       simp only [if_pos k13'] at hno hyes
       rw [BIf_true]
       refine ld20 h4 (k:=2) rfl g4.any ?_
       refine ⟨_,rd rfl,_,rd rfl,_,fun wq=>build99s 6 e.th e.n wq,?_⟩
       exact putS_ok g4 ⟨h0,h8⟩ hb (by omega) (fun hf w' cs' hc h'=>⟨_,false,rfl,ends.1 false w' cs' hc h' fun w2 h2=>hno hf w2 cs' hc h2⟩) (fun r' hf w' cs' h'=>⟨_,true,rfl,ends.2 w' cs' r' h' fun w2 h2=>hyes r' hf w2 cs' h2⟩)
     ·have k11':e.kind=11:=by simpa using k11
      simp only [if_pos k11'] at hno hyes
      rw [BIf_true]
      refine ld20 h4 (k:=2) rfl g4.any ?_
      refine ⟨_,rd rfl,_,rd rfl,_,fun wq=>build99s 5 e.th e.n wq,?_⟩
      exact putS_ok g4 ⟨h0,h8⟩ hb (by omega) (fun hf w' cs' hc h'=>⟨_,false,rfl,ends.1 false w' cs' hc h' fun w2 h2=>hno hf w2 cs' hc h2⟩) (fun r' hf w' cs' h'=>⟨_,true,rfl,ends.2 w' cs' r' h' fun w2 h2=>hyes r' hf w2 cs' h2⟩)
    ·have k15':e.kind=15:=by simpa using k15
     simp only [if_pos k15'] at hno hyes
     rw [BIf_true]
     refine ld20 h4 (k:=2) rfl g4.any ?_
     refine h4.ldA (k:=1) (i:=0) rfl (by simp [Evcs_len]) ?_
     refine ⟨_,rd rfl,_,fun wq=>build199f e.a wq,?_⟩
     exact touch_ok g4 ⟨h0,h8⟩ hb (by omega) (fun hf w' cs' hc h'=>⟨_,false,rfl,ends.1 false w' cs' hc h' fun w2 h2=>hno hf w2 cs' hc h2⟩) (fun r' hf w' cs' h'=>⟨_,true,rfl,ends.2 w' cs' r' h' fun w2 h2=>hyes r' hf w2 cs' h2⟩)
   ·have k14':e.kind=14:=by simpa using k14
    simp only [if_pos k14'] at hno hyes
    rw [BIf_true]
    refine ld20 h4 (k:=2) rfl g4.any ?_
    refine h4.ldA (k:=1) (i:=0) rfl (by simp [Evcs_len]) ?_
    refine ⟨_,rd rfl,_,fun wq=>build199f e.a wq,?_⟩
    exact touch_ok g4 ⟨h0,h8⟩ hb (by omega) (fun hf w' cs' hc h'=>⟨_,false,rfl,ends.1 false w' cs' hc h' fun w2 h2=>hno hf w2 cs' hc h2⟩) (fun r' hf w' cs' h'=>⟨_,true,rfl,ends.2 w' cs' r' h' fun w2 h2=>hyes r' hf w2 cs' h2⟩)
  ·have k4':e.kind=4:=by simpa using k4
   simp only [if_pos k4'] at hno hyes
   rw [BIf_true,f93_s4_eq]
   refine h4.ldA (k:=1) (i:=0) rfl (by simp [Evcs_len]) ?_
   refine words_ok h4 (h16 k4') fun w5 a c Lo hS hN h5=>⟨a,_,c,rfl,?_⟩
   rw [f93_s5_eq,f93_s6_eq]
   have hwl:(words e).length≤16:=by
    have:=wfold_len e e.n.toNat
    have:=h16 k4'
    unfold words; omega
   refine atomic_loop hzl hz hn ⟨h0,h8⟩ hb hm hS hN hwl (hback w5 _ (h5.perm (perm_by fun f=>?_))) hno hyes false
   simp only [List.map_append,List.map_cons,List.sum_append,List.sum_cons]; omega
end Go.Fx.Try
namespace Go.Fx.Mo
def rsteps:List Ev→Int→RR→Option RR
 | [],_,r=>some r
 | e::t,i,r=>match rwith r e i with
  | none=>none
  | some r'=>rsteps t (i+1) r'
def rord (l:List Ev):RR ⊕ Int:=if l.length > 20000 then .inr 2 else match rsteps l 0 rr0 with
 | none=>.inr 300
 | some r=>.inl r
end Go.Fx.Mo
namespace Go.Fx.Try
open Go Go.Fx Go.Fx.Mo
open Go.Proofs
variable {w0 w:World} {H Y:List (Nat × Obj)} {K:Value→World→Prop}
set_option maxRecDepth 20000
def errCs (x:Int):List Value:=[nilS,nilS,nilS]++(List.replicate 16 (.bool false)++[I64 x])
theorem z113e:zcells P 113=(errCs 0).toArray:=by kernel_rfl
theorem build113 (wq:World):(Instr.build 113 [].toArray).run P wq=.ok (.agg (errCs 0).toArray) wq:=by kernel_rfl
theorem build113x (x:Int) (wq:World):(Instr.build 113 [(5,(Value.int .i64 x))].toArray).run P wq=.ok (.agg (errCs x).toArray) wq:=by kernel_rfl
theorem errCs_any (x:Int):Any20 (errCs x):=⟨by simp [errCs],fun v hv=>by
 simp [errCs] at hv
 rcases hv with rfl | rfl | rfl <;> rfl⟩
theorem rr0_cs:runCs rr0 0 nilS nilS nilS=(errCs 0).set 3 (.bool true):=by kernel_rfl
theorem start_ok (h:St w0 w H) (hK:∀ w' cs,RunS w0 w' rr0 cs H→K (.agg cs.toArray) w'):CallL P 92 [] w K:=by
 refine f92_ok _ _ ?_
 rw [f92_eq,z113e]
 have h0:=errCs_any 0
 refine h.newC fun n0 w1 hn0 h1=>⟨_,build113,?_⟩
 refine h1.newC fun n3 w2 hn3 h2=>h2.stA (k:=0) rfl (by simp [h0.len]) (by simp [h0.len]) h0.one fun w3 h3=>?_
 have h3:St w0 w3 ((n3,Cs (splice (errCs 0) 0 (errCs 0)) 113)::(n0,Cs (errCs 0) 113)::H):=h3
 rw [splice_whole rfl] at h3
 refine ⟨by decide,by decide,?_⟩
 rw [add_lit',add_lit']
 refine h3.st1 (k:=0) rfl (by rw [h0.len]; decide) rfl fun w4 h4=>?_
 have h4:St w0 w4 ((n3,Cs ((errCs 0).set 3 (.bool true)) 113)::(n0,Cs (errCs 0) 113)::H):=h4
 rw [← rr0_cs] at h4
 have ha:Any20 (runCs rr0 0 nilS nilS nilS):=⟨runCs_len rfl rfl,runCs_one rfl rfl rfl⟩
 refine ld20 h4 (k:=0) rfl ha ?_
 refine h4.stA (k:=1) rfl (by simp [ha.len]) (by simp [ha.len,h0.len]) ha.one fun w5 h5=>?_
 have h5:St w0 w5 ((n3,Cs (runCs rr0 0 nilS nilS nilS) 113)::(n0,Cs (splice (errCs 0) 0 (runCs rr0 0 nilS nilS nilS)) 113)::H):=h5
 rw [splice_whole (by rw [ha.len,h0.len])] at h5
 refine ld20 h5 (k:=1) rfl ha ?_
 exact hK w5 _ ⟨nilS,nilS,nilS,[],[],[],rfl,⟨SlO.nil 4 99,SlO.nil 1 3,SlO.nil 2 199,New.nil _,New.nil _,New.nil _,rfl,rfl⟩,(h5.tail hn3).tail hn0⟩
theorem order_ok' {l:List Ev} {ov:Value} (h:St w0 w H) (hrow:∀ w',St w0 w' H→Row w' 6 ov l.length (evsCs l))
  (hbad:∀ x,rord l=.inr x→x≠0→∀ w',St w0 w' H→K (.agg (errCs x).toArray) w')
  (hok:∀ r,rord l=.inl r→l.length≤20000→Bd r (16 * l.length)→∀ w' cs,RunS w0 w' r cs H→K (.agg cs.toArray) w'):CallL P 60 [ov] w K:=by
 obtain ⟨sa,sc,hov⟩:=(hrow w h).form
 rw [hov]
 refine f60_ok _ _ _ _ _ ?_
 rw [f60_eq,f60_s0_eq,z113e]
 have h0:=errCs_any 0
 refine h.newC fun n2 w1 hn2 h1=>?_
 rw [f60_s1_eq]
 refine ⟨l.length,fun wq _=>run_len_22 wq,?_⟩
 rw [BIf_iff]
 have giveup:∀ (x:Int) (w':World) (z:List Value) (J:List (Nat × Obj)),Any20 z→St w0 w' ((n2,Cs z 113)::J)→(∀ w2,St w0 w2 ((n2,Cs (errCs x) 113)::J)→K (.agg (errCs x).toArray) w2)→
   StA 20 (Addr.mk n2 0 none) (errCs x).toArray w' (fun w8=>LdA 20 (Addr.mk n2 0 none) w8 (fun cs9=>K (Value.agg cs9) w8)):=fun x w' z J hz h' hk=>
  keep20 (Q:=fun c w2=>K (.agg c) w2) hz.len (errCs_any x) h' hk
 constructor
 ·intro hgt
  have hgt:l.length > 20000:=by simp at hgt; omega
  refine ⟨_,build113x 2,giveup 2 w1 _ _ h0 h1 fun w2 h2=>hbad 2 (by unfold rord; rw [if_pos hgt]) (by decide) w2 (h2.tail hn2)⟩
 ·intro hle
  have hle:l.length≤20000:=by simp at hle; omega
  rw [f60_s2_eq]
  refine start_ok h1 fun w2 cs0 g2=>⟨_,rfl,?_⟩
  rw [z113e]
  refine g2.newC fun n15 w3 hn15 g3=>?_
  obtain ⟨Z,hZ,hs,hback⟩:=g3.open'
  refine hs.stA (k:=0) rfl (by simp [g2.any.len]) (by simp [g2.any.len,h0.len]) g2.any.one fun w4 h4=>?_
  have h4:St w0 w4 ((n15,Cs (splice (errCs 0) 0 cs0) 113)::((n2,Cs (errCs 0) 113)::H++Z)):=h4
  rw [splice_whole (by rw [g2.any.len,h0.len])] at h4
  have g4:RunS w0 w4 rr0 cs0 ((n15,Cs cs0 113)::(n2,Cs (errCs 0) 113)::H):=hback w4 _ h4
  rw [f60_s3_eq,f60_s4_eq]
  have hrr:rord l=match rsteps l 0 rr0 with
    | none=>.inr 300
    | some r=>.inl r:=by unfold rord; rw [if_neg (by omega)]
  refine ⟨fun m ee w=>∃ (j:Nat) (rj:RR) (csj:List Value),j≤l.length∧m=l.length - j∧ee=Env.mk 33 [(2,(Value.pointer (some (Addr.mk n2 0 none)))),(3,(Value.pointer (some (Addr.mk n15 0 none)))),(4,I64 (j:Nat)),(0,(Value.slice sa l.length sc))] []∧
    rsteps (l.drop j) (j:Nat) rj=rsteps l 0 rr0∧Bd rj (16 * j)∧RunS w0 w rj csj ((n15,Cs csj 113)::(n2,Cs (errCs 0) 113)::H),
   ⟨l.length,0,rr0,cs0,by omega,rfl,rfl,rfl,⟨by simp [rr0],by simp [rr0],by simp [rr0]⟩,g4⟩,?_⟩
  rintro m ee w5 ⟨j,rj,csj,hj,rfl,rfl,hrt,hbj,hw⟩
  show f60_lb5 _ _ _ _ _ _ _ _ _
  rw [f60_lb5_eq]
  refine ⟨l.length,fun wq _=>run_len_22 wq,?_⟩
  rw [BIf_iff]
  constructor
  ·intro hlt
   have hlt:j < l.length:=by simpa using hlt
   rw [f60_s6_eq]
   obtain ⟨Z',hZ',hs',hback'⟩:=hw.open'
   have hd:=hs'.drew
   obtain ⟨a,c,hac,hld⟩:=(hrow _ (((hback' w5.drew _ hd).tail hn15).tail hn2).base).ldA hlt
   rw [hov] at hac
   obtain ⟨hsa,-⟩:sa=some a∧sc=c:=by simpa using hac
   subst hsa
   refine ⟨by omega,by omega,?_⟩
   refine ld20 hd (k:=0) rfl hw.any (hld _ ?_)
   rw [evs_at hlt]
   have hwd:=hback' w5.drew _ hd
   have hdrop:l.drop j=l[j]::l.drop (j+1):=List.drop_eq_getElem_cons hlt
   rw [hdrop,rsteps] at hrt
   generalize hY:(fun e' w'=>∃ m,m < l.length - j∧∃ (j:Nat) (rj:RR) (csj:List Value),j≤l.length∧m=l.length - j∧e'=Env.mk 33 [(2,(Value.pointer (some (Addr.mk n2 0 none)))),(3,(Value.pointer (some (Addr.mk n15 0 none)))),(4,I64 (j:Nat)),(0,(Value.slice (some a) l.length sc))] []∧
    rsteps (l.drop j) (j:Nat) rj=rsteps l 0 rr0∧Bd rj (16 * j)∧RunS w0 w' rj csj ((n15,Cs csj 113)::(n2,Cs (errCs 0) 113)::H))=Y
   have bad:∀ (w':World) (n99:Nat) (cs':List Value),w0.heap.size≤n99→rwith rj l[j] (j:Nat)=none→Any20 cs'→St w0 w' ((n99,Cs (errCs 0) 113)::(n15,Cs csj 113)::(n2,Cs (errCs 0) 113)::H)→
     StA 20 (Addr.mk n99 0 none) cs'.toArray w' (fun w2=>f60_s7 (Addr.mk n2 0 none) (Addr.mk n15 0 none) (some a) l.length sc (j:Nat) (Addr.mk n99 0 none) false w2 K Y):=by
    intro w' n99 cs' hn99 hf hc h'
    refine h'.stA (k:=0) rfl (by simp [hc.len]) (by simp [h0.len,hc.len]) hc.one fun w2 h2=>?_
    have h2:St w0 w2 ((n99,Cs (splice (errCs 0) 0 cs') 113)::(n15,Cs csj 113)::(n2,Cs (errCs 0) 113)::H):=h2
    rw [f60_s7_eq,Bool.not_false,BIf_true]
    have h3:=(h2.tail hn99).tail hn15
    refine ⟨_,build113x 300,giveup 300 w2 _ _ h0 h3 fun w3 h4=>hbad 300 ?_ (by decide) w3 (h4.tail hn2)⟩
    rw [hrr,← hrt,hf]
   have good:∀ (w':World) (n99:Nat) (cs':List Value) (r':RR),w0.heap.size≤n99→rwith rj l[j] (j:Nat)=some r'→RunS w0 w' r' cs' ((n99,Cs (errCs 0) 113)::(n15,Cs csj 113)::(n2,Cs (errCs 0) 113)::H)→
     StA 20 (Addr.mk n99 0 none) cs'.toArray w' (fun w2=>f60_s7 (Addr.mk n2 0 none) (Addr.mk n15 0 none) (some a) l.length sc (j:Nat) (Addr.mk n99 0 none) true w2 K Y):=by
    intro w' n99 cs' r' hn99 hf h'
    have hc:=h'.any
    obtain ⟨Z2,hZ2,hs2,hback2⟩:=h'.open'
    refine hs2.stA (k:=0) rfl (by simp [hc.len]) (by simp [h0.len,hc.len]) hc.one fun w2 h2=>?_
    have h2:St w0 w2 ((n99,Cs (splice (errCs 0) 0 cs') 113)::((n15,Cs csj 113)::(n2,Cs (errCs 0) 113)::H++Z2)):=h2
    rw [splice_whole (by rw [hc.len,h0.len])] at h2
    rw [f60_s7_eq,Bool.not_true,BIf_false,f60_s8_eq]
    refine ld20 h2 (k:=0) rfl hc ?_
    refine h2.stA (k:=1) rfl (by simp [hc.len]) (by simp [hw.any.len,hc.len]) hc.one fun w3 h3=>?_
    have h3:St w0 w3 ((n99,Cs cs' 113)::((n15,Cs (splice csj 0 cs') 113)::(n2,Cs (errCs 0) 113)::H++Z2)):=h3
    rw [splice_whole (by rw [hc.len,hw.any.len])] at h3
    rw [f60_s9_eq,← hY]
    refine ⟨l.length - (j+1),by omega,j+1,r',cs',by omega,rfl,?_,?_,(rwith_bd hf hbj).more (by omega),hback2 w3 _ (h3.tail hn99)⟩
    ·rw [wrap_i64 (by omega) (by omega)]; rfl
    ·rw [← hrt,hf]; rfl
   constructor
   ·refine with_ok hwd hbj (by omega) (fun hf w' cs' hc h'=>⟨_,false,rfl,?_⟩) (fun r' hf w' cs' h'=>⟨_,true,rfl,?_⟩)
    ·rw [z113e]
     exact h'.newC fun n99 w2 hn99 h2=>bad w2 n99 cs' hn99 hf hc h2
    ·rw [z113e]
     exact h'.newC fun n99 w2 hn99 h2=>good w2 n99 cs' r' hn99 hf h2
   ·rw [z113e]
    refine hwd.newC fun n131 w2 hn131 h2=>?_
    exact with_ok h2 hbj (by omega) (fun hf w' cs' hc h'=>⟨_,false,rfl,bad w' n131 cs' hn131 hf hc h'⟩) (fun r' hf w' cs' h'=>⟨_,true,rfl,good w' n131 cs' r' hn131 hf h'⟩)
  ·intro hge
   have hge:l.length≤j:=by simpa using hge
   have:j=l.length:=by omega
   subst this
   rw [f60_s10_eq]
   rw [List.drop_length,rsteps] at hrt
   obtain ⟨Z',hZ',hs',hback'⟩:=hw.open'
   refine ld20 hs' (k:=0) rfl hw.any ?_
   have hs2:=hs'.perm (H':=(n2,Cs (errCs 0) 113)::(n15,Cs csj 113)::(H++Z')) (List.Perm.swap ..)
   refine keep20 (Q:=fun c w2=>K (.agg c) w2) h0.len hw.any hs2 fun w6 h6=>hok rj (by rw [hrr,← hrt]) hle hbj w6 csj ?_
   have h6:St w0 w6 (((n2,Cs csj 113)::(n15,Cs csj 113)::H)++Z'):=h6
   exact ((hback' w6 _ h6).tail hn2).tail hn15
end Go.Fx.Try
namespace Go.Fx.Try
set_option maxRecDepth 100000
open Go Go.Fx
noncomputable def c108:Code:=match Go.Proofs.Try.f108.body with
 | some c=>c
 | none=>.skip
noncomputable def rs108:List ResultVar:=Go.Proofs.Try.f108.results.toList
abbrev f108_kb (K:KT):Exit→YT:=bodyK P rs108 K
def f108 (a:Option Addr) (b c:Nat) (d:Int) (w:World) (K:KT):Prop:=CS P c108 none [4] [4] (f108_kb K) (env0 54 [(VS a b c),(VI d)]) w
def f108_s0 (a:Option Addr) (b c:Nat) (d:Int) (w:World) (K:KT):Prop:=CS P (cA c108 1) none [4] [4] (f108_kb K) (Env.mk 54 [(0,(VS a b c)),(1,(VI d))] []) w
abbrev f108_k0 (K:KT):Exit→YT:=kseq P (cA c108 2) (cA c108 3) none [4] [4] (f108_kb K)
def f108_s1 (a:Option Addr) (b c:Nat) (d:Option Addr) (e f:Nat) (g:Int) (w:World) (K:KT):Prop:=CS P (cA c108 3) none [4] [4] (f108_kb K) (Env.mk 54 [(4,(VS a b c)),(0,(VS d e f)),(1,(VI g))] []) w
abbrev f108_k1 (K:KT):Exit→YT:=kseq P (cA c108 6) (cA c108 7) none [4] [4] (f108_kb K)
def f108_s2 (a:Option Addr) (b c:Nat) (d:Option Addr) (e f:Nat) (g:Int) (h:Option Addr) (i j:Nat) (k:Option Addr) (l m:Nat) (n:Option Addr) (o p:Nat) (q:Int) (w:World) (K:KT):Prop:=CS P (cA c108 7) none [4] [4] (f108_kb K) (Env.mk 54 [(5,(VS a b c)),(11,(VS d e f)),(10,(VI g)),(9,(VS h i j)),(4,(VS k l m)),(0,(VS n o p)),(1,(VI q))] []) w
abbrev f108_k2 (K:KT):Exit→YT:=kseq P (cA c108 14) (cA c108 15) none [4] [4] (f108_kb K)
def f108_s3 (a:Option Addr) (b c:Nat) (d:Option Addr) (e f:Nat) (g:Int) (h:Option Addr) (i j:Nat) (k:Option Addr) (l m:Nat) (n:Option Addr) (o p:Nat) (q:Int) (r:Option Addr) (s t:Nat) (u:Option Addr) (v x:Nat) (y:Option Addr) (z a0:Nat) (b0:Int) (w:World) (K:KT):Prop:=CS P (cA c108 15) none [4] [4] (f108_kb K) (Env.mk 54 [(6,(VS a b c)),(14,(VS d e f)),(13,(VI g)),(12,(VS h i j)),(5,(VS k l m)),(11,(VS n o p)),(10,(VI q)),(9,(VS r s t)),(4,(VS u v x)),(0,(VS y z a0)),(1,(VI b0))] []) w
abbrev f108_k3 (K:KT):Exit→YT:=kseq P (cA c108 30) (cA c108 31) none [4] [4] (f108_kb K)
def f108_s4 (a:Addr) (b:Int) (c:Option Addr) (d e:Nat) (f:Option Addr) (g h:Nat) (i:Option Addr) (j k:Nat) (l:Int) (m:Option Addr) (n o:Nat) (p:Option Addr) (q r:Nat) (s:Option Addr) (t u:Nat) (v:Int) (x:Option Addr) (y z:Nat) (a0:Option Addr) (b0 c0:Nat) (d0:Option Addr) (e0 f0:Nat) (g0:Int) (w:World) (K:KT):Prop:=CS P (cA c108 31) none [4] [4] (f108_kb K) (Env.mk 54 [(17,(VP (some a))),(16,(VI b)),(15,(VS c d e)),(6,(VS f g h)),(14,(VS i j k)),(13,(VI l)),(12,(VS m n o)),(5,(VS p q r)),(11,(VS s t u)),(10,(VI v)),(9,(VS x y z)),(4,(VS a0 b0 c0)),(0,(VS d0 e0 f0)),(1,(VI g0))] []) w
abbrev f108_k4 (K:KT):Exit→YT:=kseq P (cA c108 62) (cA c108 63) none [4] [4] (f108_kb K)
abbrev f108_k5 (K:KT):Exit→YT:=kseq P (cA c108 124) (cA c108 125) none [5] [4] (f108_k4 K)
def f108_s5 (a b:Int) (c:Addr) (d:Int) (e:Option Addr) (f g:Nat) (h:Option Addr) (i j:Nat) (k:Option Addr) (l m:Nat) (n:Int) (o:Option Addr) (p q:Nat) (r:Option Addr) (s t:Nat) (u:Option Addr) (v x:Nat) (y:Int) (z:Option Addr) (a0 b0:Nat) (c0:Option Addr) (d0 e0:Nat) (f0:Option Addr) (g0 h0:Nat) (i0:Int) (w:World) (K:KT):Prop:=CS P (cA c108 125) none [5] [4] (f108_k4 K) (Env.mk 54 [(7,(VI a)),(18,(VI b)),(17,(VP (some c))),(16,(VI d)),(15,(VS e f g)),(6,(VS h i j)),(14,(VS k l m)),(13,(VI n)),(12,(VS o p q)),(5,(VS r s t)),(11,(VS u v x)),(10,(VI y)),(9,(VS z a0 b0)),(4,(VS c0 d0 e0)),(0,(VS f0 g0 h0)),(1,(VI i0))] []) w
abbrev f108_k6 (K:KT):Exit→YT:=kblock 0 (f108_k4 K)
def f108_lp6 (K:KT) (Y6:YT) (e:Env) (w:World):Prop:=Join (fun e w=>CS P (cA c108 500) none [4,5,7,6,0] [4,5] (kloop [4,5,7,6,0] Y6 (f108_k6 K)) e w) e w
abbrev f108_kl6 (K:KT) (Y6:YT):Exit→YT:=kloop [4,5,7,6,0] Y6 (f108_k6 K)
def f108_lb6 (a:Option Addr) (b c:Nat) (d:Option Addr) (f g:Nat) (h:Int) (i:Option Addr) (j k:Nat) (l:Option Addr) (m n:Nat) (w:World) (K:KT) (Y6:YT):Prop:=Join (fun e w=>CS P (cA c108 500) none [4,5,7,6,0] [4,5] (f108_kl6 K Y6) e w) (Env.mk 54 [(4,(VS a b c)),(5,(VS d f g)),(7,(VI h)),(6,(VS i j k)),(0,(VS l m n))] []) w
abbrev f108_k7 (K:KT) (Y6:YT):Exit→YT:=kseq P (cA c108 1000) (cA c108 1001) none [4,5,7,6,0] [4,5] (f108_kl6 K Y6)
abbrev f108_k8 (K:KT) (Y6:YT):Exit→YT:=kseq P (cA c108 2000) (cA c108 2001) none [4,5,6,0,7] [4,5] (f108_k7 K Y6)
def f108_s7 (a:Option Addr) (b c:Nat) (d:Option Addr) (f g:Nat) (h:Option Addr) (i j:Nat) (k:Option Addr) (l m:Nat) (n:Int) (w:World) (K:KT) (Y6:YT):Prop:=Join (fun e w=>CS P (cA c108 1001) none [4,5,7,6,0] [4,5] (f108_kl6 K Y6) e w) (Env.mk 54 [(4,(VS a b c)),(5,(VS d f g)),(6,(VS h i j)),(0,(VS k l m)),(7,(VI n))] []) w
abbrev f108_k9 (K:KT) (Y6:YT):Exit→YT:=kseq P (cA c108 2002) (cA c108 2003) none [4,5,7,6,0] [4,5] (f108_kl6 K Y6)
abbrev f108_k10 (K:KT) (Y6:YT):Exit→YT:=kblock 1 (f108_k9 K Y6)
abbrev f108_k11 (K:KT) (Y6:YT):Exit→YT:=kseq P (cA c108 8008) (cA c108 8009) none [4,5,6,0,7] [4,5,6,0,7] (f108_k10 K Y6)
abbrev f108_k12 (K:KT) (Y6:YT):Exit→YT:=kseq P (cA c108 16016) (cA c108 16017) none [5,6,0,7,4] [4,5,6,0,7] (f108_k11 K Y6)
def f108_s8 (a:Option Addr) (b c:Nat) (d:Option Addr) (f g:Nat) (h:Option Addr) (i j:Nat) (k:Option Addr) (l m:Nat) (n:Int) (w:World) (K:KT) (Y6:YT):Prop:=Join (fun e w=>CS P (cA c108 2003) none [4,5,7,6,0] [4,5] (f108_kl6 K Y6) e w) (Env.mk 54 [(4,(VS a b c)),(5,(VS d f g)),(6,(VS h i j)),(0,(VS k l m)),(7,(VI n))] []) w
theorem f108_s8_eq (a:Option Addr) (c d:Nat) (e:Option Addr) (f g:Nat) (h:Option Addr) (i j:Nat) (k:Option Addr) (l m:Nat) (n:Int) (w:World) (K:KT) (Y6:YT):f108_s8 a c d e f g h i j k l m n w K Y6=(Y6 (Env.mk 54 [(4,(Value.slice a c d)),(5,(Value.slice e f g)),(7,(Value.int .i64 (IntKind.wrap .i64 ((n:Int)+1)))),(6,(Value.slice h i j)),(0,(Value.slice k l m))] []) w):=Eq.trans (b:=CS P (cA c108 2003) none [4,5,7,6,0] [4,5] (f108_kl6 K Y6) (Env.mk 54 [(4,(VS a c d)),(5,(VS e f g)),(6,(VS h i j)),(0,(VS k l m)),(7,(VI n))] []) w) (by kernel_rfl) (by kernel_rfl)
def f108_s9 (a:Option Addr) (b c:Nat) (d:Option Addr) (f g:Nat) (h:Option Addr) (i j:Nat) (k:Int) (l:Option Addr) (m n:Nat) (w:World) (K:KT) (Y6:YT):Prop:=Join (fun e w=>CS P (cA c108 8009) none [4,5,6,0,7] [4,5,6,0,7] (f108_k10 K Y6) e w) (Env.mk 54 [(5,(VS a b c)),(6,(VS d f g)),(0,(VS h i j)),(7,(VI k)),(4,(VS l m n))] []) w
abbrev f108_k13 (K:KT) (Y6:YT):Exit→YT:=kseq P (cA c108 16018) (cA c108 16019) none [4,5,6,0,7] [4,5,6,0,7] (f108_k10 K Y6)
def f108_s10 (a b c:Int) (d:Option Addr) (e f:Nat) (g:Option Addr) (h i:Nat) (j:Option Addr) (k l:Nat) (m:Int) (n:Option Addr) (o p:Nat) (w:World) (K:KT) (Y6:YT):Prop:=CS P (cA c108 16019) none [4,5,6,0,7] [4,5,6,0,7] (f108_k10 K Y6) (Env.mk 54 [(8,(VI a)),(31,(VI b)),(30,(VI c)),(5,(VS d e f)),(6,(VS g h i)),(0,(VS j k l)),(7,(VI m)),(4,(VS n o p))] []) w
abbrev f108_k14 (K:KT) (Y6:YT):Exit→YT:=kblock 2 (f108_k10 K Y6)
def f108_lp11 (K:KT) (Y6 Y11:YT) (e:Env) (w:World):Prop:=Join (fun e w=>CS P (cA c108 64076) none [8,5,6,0,7,4] [4,5,6,0,7] (kloop [8,5,6,0,7,4] Y11 (f108_k14 K Y6)) e w) e w
abbrev f108_kl11 (K:KT) (Y6 Y11:YT):Exit→YT:=kloop [8,5,6,0,7,4] Y11 (f108_k14 K Y6)
def f108_lb11 (a:Int) (b:Option Addr) (c d:Nat) (f:Option Addr) (g h:Nat) (i:Option Addr) (j k:Nat) (l:Int) (m:Option Addr) (n o:Nat) (w:World) (K:KT) (Y6 Y11:YT):Prop:=Join (fun e w=>CS P (cA c108 64076) none [8,5,6,0,7,4] [4,5,6,0,7] (f108_kl11 K Y6 Y11) e w) (Env.mk 54 [(8,(VI a)),(5,(VS b c d)),(6,(VS f g h)),(0,(VS i j k)),(7,(VI l)),(4,(VS m n o))] []) w
abbrev f108_k15 (K:KT) (Y6 Y11:YT):Exit→YT:=kseq P (cA c108 128152) (cA c108 128153) none [8,5,6,0,7,4] [4,5,6,0,7] (f108_kl11 K Y6 Y11)
abbrev f108_k16 (K:KT) (Y6 Y11:YT):Exit→YT:=kseq P (cA c108 256304) (cA c108 256305) none [5,6,0,7,4,8] [4,5,6,0,7] (f108_k15 K Y6 Y11)
def f108_s12 (a:Option Addr) (b c:Nat) (d:Option Addr) (f g:Nat) (h:Option Addr) (i j:Nat) (k:Int) (l:Option Addr) (m n:Nat) (o:Int) (w:World) (K:KT) (Y6 Y11:YT):Prop:=Join (fun e w=>CS P (cA c108 128153) none [8,5,6,0,7,4] [4,5,6,0,7] (f108_kl11 K Y6 Y11) e w) (Env.mk 54 [(5,(VS a b c)),(6,(VS d f g)),(0,(VS h i j)),(7,(VI k)),(4,(VS l m n)),(8,(VI o))] []) w
abbrev f108_k17 (K:KT) (Y6 Y11:YT):Exit→YT:=kseq P (cA c108 256306) (cA c108 256307) none [8,5,6,0,7,4] [4,5,6,0,7] (f108_kl11 K Y6 Y11)
abbrev f108_k18 (K:KT) (Y6 Y11:YT):Exit→YT:=kblock 3 (f108_k17 K Y6 Y11)
abbrev f108_k19 (K:KT) (Y6 Y11:YT):Exit→YT:=kseq P (cA c108 1025224) (cA c108 1025225) none [5,6,0,7,4,8] [4,5,6,0,7,8] (f108_k18 K Y6 Y11)
def f108_s13 (a:Bool) (b:Option Addr) (c d:Nat) (f:Option Addr) (g h:Nat) (i:Option Addr) (j k:Nat) (l:Int) (m:Option Addr) (n o:Nat) (p:Int) (w:World) (K:KT) (Y6 Y11:YT):Prop:=Join (fun e w=>CS P (cA c108 1025225) none [5,6,0,7,4,8] [4,5,6,0,7,8] (f108_k18 K Y6 Y11) e w) (Env.mk 54 [(46,(VB a)),(5,(VS b c d)),(6,(VS f g h)),(0,(VS i j k)),(7,(VI l)),(4,(VS m n o)),(8,(VI p))] []) w
def f108_s14 (a:Option Addr) (b c:Nat) (d:Option Addr) (f g:Nat) (h:Option Addr) (i j:Nat) (k:Int) (l:Option Addr) (m n:Nat) (o:Int) (w:World) (K:KT) (Y6 Y11:YT):Prop:=Join (fun e w=>CS P (cA c108 256307) none [8,5,6,0,7,4] [4,5,6,0,7] (f108_kl11 K Y6 Y11) e w) (Env.mk 54 [(5,(VS a b c)),(6,(VS d f g)),(0,(VS h i j)),(7,(VI k)),(4,(VS l m n)),(8,(VI o))] []) w
theorem f108_s14_eq (a:Option Addr) (c d:Nat) (e:Option Addr) (f g:Nat) (h:Option Addr) (i j:Nat) (k:Int) (l:Option Addr) (m n:Nat) (o:Int) (w:World) (K:KT) (Y6 Y11:YT):f108_s14 a c d e f g h i j k l m n o w K Y6 Y11=(Y11 (Env.mk 54 [(8,(Value.int .i64 (IntKind.wrap .i64 ((o:Int)+1)))),(5,(Value.slice a c d)),(6,(Value.slice e f g)),(0,(Value.slice h i j)),(7,(Value.int .i64 k)),(4,(Value.slice l m n))] []) w):=Eq.trans (b:=CS P (cA c108 256307) none [8,5,6,0,7,4] [4,5,6,0,7] (f108_kl11 K Y6 Y11) (Env.mk 54 [(5,(VS a c d)),(6,(VS e f g)),(0,(VS h i j)),(7,(VI k)),(4,(VS l m n)),(8,(VI o))] []) w) (by kernel_rfl) (by kernel_rfl)
theorem f108_s13_eq (p:Bool) (c:Option Addr) (d g:Nat) (e:Option Addr) (f h:Nat) (i:Option Addr) (j k:Nat) (l:Int) (m:Option Addr) (n o:Nat) (a:Int) (w:World) (K:KT) (Y6 Y11:YT):f108_s13 p c d g e f h i j k l m n o a w K Y6 Y11=(BIf p (optS e (fun q=>0≤(a:Int)∧(a:Int) < (f:Nat)∧St1 (q.add (Int.toNat a * 1)) (Value.bool true) w (fun r=>optS c (fun s=>0≤(a:Int)∧(a:Int) < (d:Nat)∧St1 (s.add (Int.toNat a * 1)) (Value.bool true) r (fun t=>f108_s14 c d g e f h i j k l m n o a t K Y6 Y11))))) (f108_s14 c d g e f h i j k l m n o a w K Y6 Y11)):=Eq.trans (b:=CS P (cA c108 1025225) none [5,6,0,7,4,8] [4,5,6,0,7,8] (f108_k18 K Y6 Y11) (Env.mk 54 [(46,(VB p)),(5,(VS c d g)),(6,(VS e f h)),(0,(VS i j k)),(7,(VI l)),(4,(VS m n o)),(8,(VI a))] []) w) (by kernel_rfl) (by kernel_rfl)
theorem f108_s12_eq (g:Option Addr) (h i:Nat) (j:Option Addr) (k l:Nat) (e:Option Addr) (f m:Nat) (c:Int) (n:Option Addr) (o p:Nat) (d:Int) (w:World) (K:KT) (Y6 Y11:YT):f108_s12 g h i j k l e f m c n o p d w K Y6 Y11=(optS e (fun r=>0≤(c:Int)∧(c:Int) < (f:Nat)∧optS e (fun s=>0≤(d:Int)∧(d:Int) < (f:Nat)∧LdA 4 (r.add (Int.toNat c * 4)) w.drew (fun t=>LdA 4 (s.add (Int.toNat d * 4)) w.drew (fun u=>CallL P 125 [(Value.agg t),(Value.agg u)] w.drew (fun v x=>∃ q:Bool,v=(Value.bool q)∧f108_s13 q g h i j k l e f m c n o p d x K Y6 Y11)))))):=Eq.trans (b:=CS P (cA c108 128153) none [8,5,6,0,7,4] [4,5,6,0,7] (f108_kl11 K Y6 Y11) (Env.mk 54 [(5,(VS g h i)),(6,(VS j k l)),(0,(VS e f m)),(7,(VI c)),(4,(VS n o p)),(8,(VI d))] []) w) (by kernel_rfl) (Eq.trans (CSs (cA c108 256306) (cA c108 256307) [5,6,0,7,4,8] (f108_k17 K Y6 Y11) (by kernel_rfl) (by kernel_rfl) (by kernel_rfl)) (Eq.trans (CSb 3 (cA c108 512612) [4,5,6,0,7,8] (f108_k18 K Y6 Y11) (by kernel_rfl) (by kernel_rfl) (by kernel_rfl)) (Eq.trans (CSs (cA c108 1025224) (cA c108 1025225) [46,5,6,0,7,4,8] (f108_k19 K Y6 Y11) (by kernel_rfl) (by kernel_rfl) (by kernel_rfl)) (by kernel_rfl))))
theorem f108_lb11_eq (f:Int) (g:Option Addr) (h i:Nat) (j:Option Addr) (k l:Nat) (c:Option Addr) (d e:Nat) (m:Int) (n:Option Addr) (o p:Nat) (w:World) (K:KT) (Y6 Y11:YT):f108_lb11 f g h i j k l c d e m n o p w K Y6 Y11=(∃ q:Int,(∀ wq,Ext w wq→(Builtin.len_ #[57] 3 [(Value.slice c d e)].toArray).run P wq=.ok (Value.int .i64 q) wq)∧BIf (decide ((f:Int) < q)) (f108_s12 g h i j k l c d e m n o p f w K Y6 Y11) (f108_s8 n o p g h i j k l c d e m w K Y6)):=Eq.trans (b:=CS P (cA c108 64076) none [8,5,6,0,7,4] [4,5,6,0,7] (f108_kl11 K Y6 Y11) (Env.mk 54 [(8,(VI f)),(5,(VS g h i)),(6,(VS j k l)),(0,(VS c d e)),(7,(VI m)),(4,(VS n o p))] []) w) (by kernel_rfl) (Eq.trans (CSs (cA c108 128152) (cA c108 128153) [5,6,0,7,4,8] (f108_k15 K Y6 Y11) (by kernel_rfl) (by kernel_rfl) (by kernel_rfl)) (Eq.trans (CSs (cA c108 256304) (cA c108 256305) [35,5,6,0,7,4,8] (f108_k16 K Y6 Y11) (by kernel_rfl) (by kernel_rfl) (by kernel_rfl)) (by kernel_rfl)))
theorem f108_s10_eq (a p q:Int) (c:Option Addr) (d e:Nat) (f:Option Addr) (g h:Nat) (i:Option Addr) (j k:Nat) (l:Int) (m:Option Addr) (n o:Nat) (w:World) (K:KT) (Y6:YT):f108_s10 a p q c d e f g h i j k l m n o w K Y6=(LoopE (f108_lp11 K Y6) (Env.mk 54 [(8,(Value.int .i64 a)),(5,(Value.slice c d e)),(6,(Value.slice f g h)),(0,(Value.slice i j k)),(7,(Value.int .i64 l)),(4,(Value.slice m n o))] []) w):=Eq.trans (b:=CS P (cA c108 16019) none [4,5,6,0,7] [4,5,6,0,7] (f108_k10 K Y6) (Env.mk 54 [(8,(VI a)),(31,(VI p)),(30,(VI q)),(5,(VS c d e)),(6,(VS f g h)),(0,(VS i j k)),(7,(VI l)),(4,(VS m n o))] []) w) (by kernel_rfl) (Eq.trans (CSb 2 (cA c108 32038) [4,5,6,0,7] (f108_k14 K Y6) (by kernel_rfl) (by kernel_rfl) (by kernel_rfl)) ((CS_loop' (b:=(cA c108 64076)) (X':=[4,5,6,0,7]) (H:=[8,5,6,0,7,4]) (by kernel_rfl) (by kernel_rfl) (by kernel_rfl)).trans (by kernel_rfl)))
theorem f108_s9_eq (d:Option Addr) (e f:Nat) (g:Option Addr) (h i:Nat) (j:Option Addr) (k l:Nat) (c:Int) (m:Option Addr) (n o:Nat) (w:World) (K:KT) (Y6:YT):f108_s9 d e f g h i j k l c m n o w K Y6=(f108_s10 (IntKind.wrap .i64 ((c:Int)+1)) (IntKind.wrap .i64 ((c:Int)+1)) c d e f g h i j k l c m n o w K Y6):=Eq.trans (b:=CS P (cA c108 8009) none [4,5,6,0,7] [4,5,6,0,7] (f108_k10 K Y6) (Env.mk 54 [(5,(VS d e f)),(6,(VS g h i)),(0,(VS j k l)),(7,(VI c)),(4,(VS m n o))] []) w) (by kernel_rfl) (Eq.trans (CSs (cA c108 16018) (cA c108 16019) [8,5,6,0,7,4] (f108_k13 K Y6) (by kernel_rfl) (by kernel_rfl) (by kernel_rfl)) (by kernel_rfl))
theorem f108_s7_eq (f:Option Addr) (g h:Nat) (i:Option Addr) (j k:Nat) (d:Option Addr) (e l:Nat) (m:Option Addr) (n o:Nat) (c:Int) (w:World) (K:KT) (Y6:YT):f108_s7 f g h i j k d e l m n o c w K Y6=(optS d (fun q=>0≤(c:Int)∧(c:Int) < (e:Nat)∧∃ p:Bool,w.cell? (q.add (Int.toNat c * 1))=some (Value.bool p)∧BIf (!p) (f108_s8 f g h i j k d e l m n o c w K Y6) (f108_s9 i j k d e l m n o c f g h w K Y6))):=Eq.trans (b:=CS P (cA c108 1001) none [4,5,7,6,0] [4,5] (f108_kl6 K Y6) (Env.mk 54 [(4,(VS f g h)),(5,(VS i j k)),(6,(VS d e l)),(0,(VS m n o)),(7,(VI c))] []) w) (by kernel_rfl) (Eq.trans (CSs (cA c108 2002) (cA c108 2003) [4,5,6,0,7] (f108_k9 K Y6) (by kernel_rfl) (by kernel_rfl) (by kernel_rfl)) (Eq.trans (CSb 1 (cA c108 4004) [4,5,6,0,7] (f108_k10 K Y6) (by kernel_rfl) (by kernel_rfl) (by kernel_rfl)) (Eq.trans (CSs (cA c108 8008) (cA c108 8009) [5,6,0,7,4] (f108_k11 K Y6) (by kernel_rfl) (by kernel_rfl) (by kernel_rfl)) (Eq.trans (CSs (cA c108 16016) (cA c108 16017) [29,4,5,6,0,7] (f108_k12 K Y6) (by kernel_rfl) (by kernel_rfl) (by kernel_rfl)) (by kernel_rfl)))))
def f108_s15 (a:Option Addr) (b c:Nat) (w:World) (K:KT):Prop:=Join (fun e w=>CS P (cA c108 63) none [4] [4] (f108_kb K) e w) (Env.mk 54 [(5,(VS a b c))] []) w
abbrev f108_k21 (K:KT):Exit→YT:=kseq P (cA c108 126) (cA c108 127) none [4] [4] (f108_kb K)
theorem f108_s15_eq (c:Option Addr) (d e:Nat) (w:World) (K:KT):f108_s15 c d e w K=(K (Value.slice c d e) w):=Eq.trans (b:=CS P (cA c108 63) none [4] [4] (f108_kb K) (Env.mk 54 [(5,(VS c d e))] []) w) (by kernel_rfl) (Eq.trans (CSs (cA c108 126) (cA c108 127) [4] (f108_k21 K) (by kernel_rfl) (by kernel_rfl) (by kernel_rfl)) (by kernel_rfl))
theorem f108_lb6_eq (j:Option Addr) (k l:Nat) (c:Option Addr) (d e:Nat) (f:Int) (m:Option Addr) (n o:Nat) (g:Option Addr) (h i:Nat) (w:World) (K:KT) (Y6:YT):f108_lb6 j k l c d e f m n o g h i w K Y6=(∃ p:Int,(∀ wq,Ext w wq→(Builtin.len_ #[57] 3 [(Value.slice g h i)].toArray).run P wq=.ok (Value.int .i64 p) wq)∧BIf (decide ((f:Int) < p)) (f108_s7 j k l c d e m n o g h i f w K Y6) (f108_s15 c d e w K)):=Eq.trans (b:=CS P (cA c108 500) none [4,5,7,6,0] [4,5] (f108_kl6 K Y6) (Env.mk 54 [(4,(VS j k l)),(5,(VS c d e)),(7,(VI f)),(6,(VS m n o)),(0,(VS g h i))] []) w) (by kernel_rfl) (Eq.trans (CSs (cA c108 1000) (cA c108 1001) [4,5,6,0,7] (f108_k7 K Y6) (by kernel_rfl) (by kernel_rfl) (by kernel_rfl)) (Eq.trans (CSs (cA c108 2000) (cA c108 2001) [22,4,5,6,0,7] (f108_k8 K Y6) (by kernel_rfl) (by kernel_rfl) (by kernel_rfl)) (by kernel_rfl)))
theorem f108_s5_eq (a o:Int) (p:Addr) (q:Int) (r:Option Addr) (s t:Nat) (c:Option Addr) (d e:Nat) (u:Option Addr) (v x:Nat) (y:Int) (z:Option Addr) (a0 b0:Nat) (f:Option Addr) (g h:Nat) (c0:Option Addr) (d0 e0:Nat) (f0:Int) (g0:Option Addr) (h0 i0:Nat) (i:Option Addr) (j k:Nat) (l:Option Addr) (m n:Nat) (j0:Int) (w:World) (K:KT):f108_s5 a o p q r s t c d e u v x y z a0 b0 f g h c0 d0 e0 f0 g0 h0 i0 i j k l m n j0 w K=(LoopE (f108_lp6 K) (Env.mk 54 [(4,(Value.slice i j k)),(5,(Value.slice f g h)),(7,(Value.int .i64 a)),(6,(Value.slice c d e)),(0,(Value.slice l m n))] []) w):=Eq.trans (b:=CS P (cA c108 125) none [5] [4] (f108_k4 K) (Env.mk 54 [(7,(VI a)),(18,(VI o)),(17,(VP (some p))),(16,(VI q)),(15,(VS r s t)),(6,(VS c d e)),(14,(VS u v x)),(13,(VI y)),(12,(VS z a0 b0)),(5,(VS f g h)),(11,(VS c0 d0 e0)),(10,(VI f0)),(9,(VS g0 h0 i0)),(4,(VS i j k)),(0,(VS l m n)),(1,(VI j0))] []) w) (by kernel_rfl) (Eq.trans (CSb 0 (cA c108 250) [4,5] (f108_k6 K) (by kernel_rfl) (by kernel_rfl) (by kernel_rfl)) ((CS_loop' (b:=(cA c108 500)) (X':=[4,5]) (H:=[4,5,7,6,0]) (by kernel_rfl) (by kernel_rfl) (by kernel_rfl)).trans (by kernel_rfl)))
theorem f108_s4_eq (d:Addr) (e:Int) (f:Option Addr) (g h:Nat) (i:Option Addr) (j k:Nat) (l:Option Addr) (m n:Nat) (o:Int) (p:Option Addr) (q r:Nat) (s:Option Addr) (t u:Nat) (v:Option Addr) (x y:Nat) (z:Int) (a0:Option Addr) (b0 c0:Nat) (d0:Option Addr) (e0 f0:Nat) (g0:Option Addr) (h0 i0:Nat) (c:Int) (w:World) (K:KT):f108_s4 d e f g h i j k l m n o p q r s t u v x y z a0 b0 c0 d0 e0 f0 g0 h0 i0 c w K=(f108_s5 c c d e f g h i j k l m n o p q r s t u v x y z a0 b0 c0 d0 e0 f0 g0 h0 i0 c w K):=Eq.trans (b:=CS P (cA c108 31) none [4] [4] (f108_kb K) (Env.mk 54 [(17,(VP (some d))),(16,(VI e)),(15,(VS f g h)),(6,(VS i j k)),(14,(VS l m n)),(13,(VI o)),(12,(VS p q r)),(5,(VS s t u)),(11,(VS v x y)),(10,(VI z)),(9,(VS a0 b0 c0)),(4,(VS d0 e0 f0)),(0,(VS g0 h0 i0)),(1,(VI c))] []) w) (by kernel_rfl) (Eq.trans (CSs (cA c108 62) (cA c108 63) [5] (f108_k4 K) (by kernel_rfl) (by kernel_rfl) (by kernel_rfl)) (Eq.trans (CSs (cA c108 124) (cA c108 125) [4,5,7,6,0] (f108_k5 K) (by kernel_rfl) (by kernel_rfl) (by kernel_rfl)) (by kernel_rfl)))
theorem f108_s3_eq (d:Option Addr) (e f:Nat) (g:Option Addr) (h i:Nat) (j:Int) (k:Option Addr) (l m:Nat) (n:Option Addr) (o p:Nat) (q:Option Addr) (r s:Nat) (t:Int) (u:Option Addr) (v x:Nat) (y:Option Addr) (z a0:Nat) (b0:Option Addr) (c0 d0:Nat) (c:Int) (w:World) (K:KT):f108_s3 d e f g h i j k l m n o p q r s t u v x y z a0 b0 c0 d0 c w K=(optS d (fun e0=>0≤(c:Int)∧(c:Int) < (e:Nat)∧St1 (e0.add (Int.toNat c * 1)) (Value.bool true) w (fun f0=>f108_s4 (e0.add (Int.toNat c * 1)) c d e f d e f g h i j k l m n o p q r s t u v x y z a0 b0 c0 d0 c f0 K))):=Eq.trans (b:=CS P (cA c108 15) none [4] [4] (f108_kb K) (Env.mk 54 [(6,(VS d e f)),(14,(VS g h i)),(13,(VI j)),(12,(VS k l m)),(5,(VS n o p)),(11,(VS q r s)),(10,(VI t)),(9,(VS u v x)),(4,(VS y z a0)),(0,(VS b0 c0 d0)),(1,(VI c))] []) w) (by kernel_rfl) (Eq.trans (CSs (cA c108 30) (cA c108 31) [4,5,6,0,1] (f108_k3 K) (by kernel_rfl) (by kernel_rfl) (by kernel_rfl)) (by kernel_rfl))
theorem f108_s2_eq (f:Option Addr) (g h:Nat) (i:Option Addr) (j k:Nat) (l:Int) (m:Option Addr) (n o:Nat) (p:Option Addr) (q r:Nat) (c:Option Addr) (d e:Nat) (s:Int) (w:World) (K:KT):f108_s2 f g h i j k l m n o p q r c d e s w K=(∃ t:Int,(∀ wq,Ext w wq→(Builtin.len_ #[57] 3 [(Value.slice c d e)].toArray).run P wq=.ok (Value.int .i64 t) wq)∧∃ (u:Option Addr) (v x:Nat),∃ y:World,(Instr.makeSlice 66 (Value.int .i64 t) (Value.int .i64 t)).run P w=.ok (Value.slice u v x) y∧f108_s3 u v x u v x t c d e f g h i j k l m n o p q r c d e s y K):=Eq.trans (b:=CS P (cA c108 7) none [4] [4] (f108_kb K) (Env.mk 54 [(5,(VS f g h)),(11,(VS i j k)),(10,(VI l)),(9,(VS m n o)),(4,(VS p q r)),(0,(VS c d e)),(1,(VI s))] []) w) (by kernel_rfl) (Eq.trans (CSs (cA c108 14) (cA c108 15) [4,5,6,0,1] (f108_k2 K) (by kernel_rfl) (by kernel_rfl) (by kernel_rfl)) (by kernel_rfl))
theorem f108_s1_eq (f:Option Addr) (g h:Nat) (c:Option Addr) (d e:Nat) (i:Int) (w:World) (K:KT):f108_s1 f g h c d e i w K=(∃ j:Int,(∀ wq,Ext w wq→(Builtin.len_ #[57] 3 [(Value.slice c d e)].toArray).run P wq=.ok (Value.int .i64 j) wq)∧∃ (k:Option Addr) (l m:Nat),∃ n:World,(Instr.makeSlice 66 (Value.int .i64 j) (Value.int .i64 j)).run P w=.ok (Value.slice k l m) n∧f108_s2 k l m k l m j c d e f g h c d e i n K):=Eq.trans (b:=CS P (cA c108 3) none [4] [4] (f108_kb K) (Env.mk 54 [(4,(VS f g h)),(0,(VS c d e)),(1,(VI i))] []) w) (by kernel_rfl) (Eq.trans (CSs (cA c108 6) (cA c108 7) [4,5,0,1] (f108_k1 K) (by kernel_rfl) (by kernel_rfl) (by kernel_rfl)) (by kernel_rfl))
theorem f108_s0_eq (c:Option Addr) (d e:Nat) (f:Int) (w:World) (K:KT):f108_s0 c d e f w K=(f108_s1 none 0 0 c d e f w K):=Eq.trans (b:=CS P (cA c108 1) none [4] [4] (f108_kb K) (Env.mk 54 [(0,(VS c d e)),(1,(VI f))] []) w) (by kernel_rfl) (Eq.trans (CSs (cA c108 2) (cA c108 3) [4,0,1] (f108_k0 K) (by kernel_rfl) (by kernel_rfl) (by kernel_rfl)) (by kernel_rfl))
theorem f108_eq (a:Option Addr) (b c:Nat) (d:Int) (w:World) (K:KT):f108 a b c d w K=(f108_s0 a b c d w K):=by kernel_rfl
theorem c108_eq:Go.Proofs.Try.f108.body=some c108:=by kernel_rfl
theorem f108_un (a:Option Addr) (b c:Nat) (d:Int) (w:World) (K:KT):f108 a b c d w K=CS P c108 none (resT Go.Proofs.Try.f108.results.toList) (resT Go.Proofs.Try.f108.results.toList) (bodyK P Go.Proofs.Try.f108.results.toList K) (env0 Go.Proofs.Try.f108.ntmps [(Value.slice a b c),(Value.int .i64 d)]) w:=by kernel_rfl
theorem f108_ok (a:Option Addr) (b c:Nat) (d:Int) (w:World) (K:KT) (h:f108 a b c d w K):CallL P 108 [(Value.slice a b c),(Value.int .i64 d)] w K:=calls_of_CS Go.Proofs.Try.func108 c108_eq (Eq.mp (f108_un a b c d w K) h)
noncomputable def c88:Code:=match Go.Proofs.Try.f88.body with
 | some c=>c
 | none=>.skip
noncomputable def rs88:List ResultVar:=Go.Proofs.Try.f88.results.toList
abbrev f88_kb (K:KT):Exit→YT:=bodyK P rs88 K
def f88 (a:Array Value) (b c:Int) (w:World) (K:KT):Prop:=CS P c88 none [6] [6] (f88_kb K) (env0 59 [(Value.agg a),(VI b),(VI c)]) w
def f88_s0 (a:Array Value) (b c:Int) (w:World) (K:KT):Prop:=CS P (cA c88 1) none [6] [6] (f88_kb K) (Env.mk 59 [(0,(Value.agg a)),(1,(VI b)),(2,(VI c))] []) w
abbrev f88_k0 (K:KT):Exit→YT:=kseq P (cA c88 2) (cA c88 3) none [6] [6] (f88_kb K)
def f88_s1 (a:Option Addr) (b c:Nat) (d:Addr) (e:Array Value) (f g:Int) (w:World) (K:KT):Prop:=CS P (cA c88 3) none [6] [6] (f88_kb K) (Env.mk 59 [(6,(VS a b c)),(3,(VP (some d))),(0,(Value.agg e)),(1,(VI f)),(2,(VI g))] []) w
abbrev f88_k1 (K:KT):Exit→YT:=kseq P (cA c88 6) (cA c88 7) none [6] [6] (f88_kb K)
def f88_s2 (a:Option Addr) (b c:Nat) (d:Option Addr) (e f:Nat) (g:Int) (h:Option Addr) (i j:Nat) (k:Addr) (l:Array Value) (m n:Int) (w:World) (K:KT):Prop:=CS P (cA c88 7) none [6] [6] (f88_kb K) (Env.mk 59 [(7,(VS a b c)),(12,(VS d e f)),(11,(VI g)),(6,(VS h i j)),(3,(VP (some k))),(0,(Value.agg l)),(1,(VI m)),(2,(VI n))] []) w
abbrev f88_k2 (K:KT):Exit→YT:=kseq P (cA c88 14) (cA c88 15) none [6] [6] (f88_kb K)
abbrev f88_k3 (K:KT):Exit→YT:=kseq P (cA c88 28) (cA c88 29) none [7] [6] (f88_k2 K)
def f88_s3 (a:Int) (b:Option Addr) (c d:Nat) (e:Option Addr) (f g:Nat) (h:Int) (i:Option Addr) (j k:Nat) (l:Addr) (m:Array Value) (n o:Int) (w:World) (K:KT):Prop:=CS P (cA c88 29) none [7] [6] (f88_k2 K) (Env.mk 59 [(8,(VI a)),(7,(VS b c d)),(12,(VS e f g)),(11,(VI h)),(6,(VS i j k)),(3,(VP (some l))),(0,(Value.agg m)),(1,(VI n)),(2,(VI o))] []) w
abbrev f88_k4 (K:KT):Exit→YT:=kblock 0 (f88_k2 K)
def f88_lp4 (K:KT) (Y4:YT) (e:Env) (w:World):Prop:=Join (fun e w=>CS P (cA c88 116) none [6,7,8,3,1] [6,7] (kloop [6,7,8,3,1] Y4 (f88_k4 K)) e w) e w
abbrev f88_kl4 (K:KT) (Y4:YT):Exit→YT:=kloop [6,7,8,3,1] Y4 (f88_k4 K)
def f88_lb4 (a:Option Addr) (b c:Nat) (d:Option Addr) (f g:Nat) (h:Int) (i:Addr) (j:Int) (w:World) (K:KT) (Y4:YT):Prop:=Join (fun e w=>CS P (cA c88 116) none [6,7,8,3,1] [6,7] (f88_kl4 K Y4) e w) (Env.mk 59 [(6,(VS a b c)),(7,(VS d f g)),(8,(VI h)),(3,(VP (some i))),(1,(VI j))] []) w
abbrev f88_k5 (K:KT) (Y4:YT):Exit→YT:=kseq P (cA c88 232) (cA c88 233) none [6,7,8,3,1] [6,7] (f88_kl4 K Y4)
abbrev f88_k6 (K:KT) (Y4:YT):Exit→YT:=kseq P (cA c88 464) (cA c88 465) none [6,7,3,1,8] [6,7] (f88_k5 K Y4)
def f88_s5 (a:Option Addr) (b c:Nat) (d:Option Addr) (f g:Nat) (h:Addr) (i j:Int) (w:World) (K:KT) (Y4:YT):Prop:=Join (fun e w=>CS P (cA c88 233) none [6,7,8,3,1] [6,7] (f88_kl4 K Y4) e w) (Env.mk 59 [(6,(VS a b c)),(7,(VS d f g)),(3,(VP (some h))),(1,(VI i)),(8,(VI j))] []) w
abbrev f88_k7 (K:KT) (Y4:YT):Exit→YT:=kseq P (cA c88 466) (cA c88 467) none [6,7,8,3,1] [6,7] (f88_kl4 K Y4)
abbrev f88_k8 (K:KT) (Y4:YT):Exit→YT:=kblock 1 (f88_k7 K Y4)
abbrev f88_k9 (K:KT) (Y4:YT):Exit→YT:=kseq P (cA c88 1864) (cA c88 1865) none [6,7,3,1,8] [6,7,3,1,8] (f88_k8 K Y4)
abbrev f88_k10 (K:KT) (Y4:YT):Exit→YT:=kseq P (cA c88 3728) (cA c88 3729) none [3,7,1,6,8] [6,7,3,1,8] (f88_k9 K Y4)
def f88_s6 (a:Option Addr) (b c:Nat) (d:Option Addr) (f g:Nat) (h:Addr) (i j:Int) (w:World) (K:KT) (Y4:YT):Prop:=Join (fun e w=>CS P (cA c88 467) none [6,7,8,3,1] [6,7] (f88_kl4 K Y4) e w) (Env.mk 59 [(6,(VS a b c)),(7,(VS d f g)),(3,(VP (some h))),(1,(VI i)),(8,(VI j))] []) w
theorem f88_s6_eq (a:Option Addr) (c d:Nat) (e:Option Addr) (f g:Nat) (h:Addr) (i j:Int) (w:World) (K:KT) (Y4:YT):f88_s6 a c d e f g h i j w K Y4=(Y4 (Env.mk 59 [(6,(Value.slice a c d)),(7,(Value.slice e f g)),(8,(Value.int .i64 (IntKind.wrap .i64 ((j:Int)+1)))),(3,(Value.pointer (some h))),(1,(Value.int .i64 i))] []) w):=Eq.trans (b:=CS P (cA c88 467) none [6,7,8,3,1] [6,7] (f88_kl4 K Y4) (Env.mk 59 [(6,(VS a c d)),(7,(VS e f g)),(3,(VP (some h))),(1,(VI i)),(8,(VI j))] []) w) (by kernel_rfl) (by kernel_rfl)
def f88_s7 (a:Addr) (b:Option Addr) (c d:Nat) (f:Int) (g:Option Addr) (h i:Nat) (j:Int) (w:World) (K:KT) (Y4:YT):Prop:=Join (fun e w=>CS P (cA c88 1865) none [6,7,3,1,8] [6,7,3,1,8] (f88_k8 K Y4) e w) (Env.mk 59 [(3,(VP (some a))),(7,(VS b c d)),(1,(VI f)),(6,(VS g h i)),(8,(VI j))] []) w
abbrev f88_k11 (K:KT) (Y4:YT):Exit→YT:=kseq P (cA c88 3730) (cA c88 3731) none [6,7,3,1,8] [6,7,3,1,8] (f88_k8 K Y4)
def f88_s8 (a:Option Addr) (b c:Nat) (d:Option Addr) (e f:Nat) (g:Int) (h:Option Addr) (i j:Nat) (k l:Addr) (m:Option Addr) (n o:Nat) (p:Int) (q:Option Addr) (r s:Nat) (t:Int) (w:World) (K:KT) (Y4:YT):Prop:=CS P (cA c88 3731) none [6,7,3,1,8] [6,7,3,1,8] (f88_k8 K Y4) (Env.mk 59 [(9,(VS a b c)),(30,(VS d e f)),(29,(VI g)),(28,(VS h i j)),(27,(VP (some k))),(3,(VP (some l))),(7,(VS m n o)),(1,(VI p)),(6,(VS q r s)),(8,(VI t))] []) w
abbrev f88_k12 (K:KT) (Y4:YT):Exit→YT:=kseq P (cA c88 7462) (cA c88 7463) none [6,7,3,1,8] [6,7,3,1,8] (f88_k8 K Y4)
def f88_s9 (a:Int) (b:Option Addr) (c d:Nat) (e:Option Addr) (f g:Nat) (h:Int) (i:Option Addr) (j k:Nat) (l m:Addr) (n:Option Addr) (o p:Nat) (q:Int) (r:Option Addr) (s t:Nat) (u:Int) (w:World) (K:KT) (Y4:YT):Prop:=CS P (cA c88 7463) none [6,7,3,1,8] [6,7,3,1,8] (f88_k8 K Y4) (Env.mk 59 [(10,(VI a)),(9,(VS b c d)),(30,(VS e f g)),(29,(VI h)),(28,(VS i j k)),(27,(VP (some l))),(3,(VP (some m))),(7,(VS n o p)),(1,(VI q)),(6,(VS r s t)),(8,(VI u))] []) w
abbrev f88_k13 (K:KT) (Y4:YT):Exit→YT:=kblock 2 (f88_k8 K Y4)
def f88_lp10 (K:KT) (Y4 Y10:YT) (e:Env) (w:World):Prop:=Join (fun e w=>CS P (cA c88 29852) none [10,3,7,1,9,6,8] [6,7,3,1,8] (kloop [10,3,7,1,9,6,8] Y10 (f88_k13 K Y4)) e w) e w
abbrev f88_kl10 (K:KT) (Y4 Y10:YT):Exit→YT:=kloop [10,3,7,1,9,6,8] Y10 (f88_k13 K Y4)
def f88_lb10 (a:Int) (b:Addr) (c:Option Addr) (d f:Nat) (g:Int) (h:Option Addr) (i j:Nat) (k:Option Addr) (l m:Nat) (n:Int) (w:World) (K:KT) (Y4 Y10:YT):Prop:=Join (fun e w=>CS P (cA c88 29852) none [10,3,7,1,9,6,8] [6,7,3,1,8] (f88_kl10 K Y4 Y10) e w) (Env.mk 59 [(10,(VI a)),(3,(VP (some b))),(7,(VS c d f)),(1,(VI g)),(9,(VS h i j)),(6,(VS k l m)),(8,(VI n))] []) w
abbrev f88_k14 (K:KT) (Y4 Y10:YT):Exit→YT:=kseq P (cA c88 59704) (cA c88 59705) none [10,3,7,1,9,6,8] [6,7,3,1,8] (f88_kl10 K Y4 Y10)
abbrev f88_k15 (K:KT) (Y4 Y10:YT):Exit→YT:=kseq P (cA c88 119408) (cA c88 119409) none [3,7,1,9,6,8,10] [6,7,3,1,8] (f88_k14 K Y4 Y10)
def f88_s11 (a:Addr) (b:Option Addr) (c d:Nat) (f:Int) (g:Option Addr) (h i:Nat) (j:Option Addr) (k l:Nat) (m n:Int) (w:World) (K:KT) (Y4 Y10:YT):Prop:=Join (fun e w=>CS P (cA c88 59705) none [10,3,7,1,9,6,8] [6,7,3,1,8] (f88_kl10 K Y4 Y10) e w) (Env.mk 59 [(3,(VP (some a))),(7,(VS b c d)),(1,(VI f)),(9,(VS g h i)),(6,(VS j k l)),(8,(VI m)),(10,(VI n))] []) w
abbrev f88_k16 (K:KT) (Y4 Y10:YT):Exit→YT:=kseq P (cA c88 119410) (cA c88 119411) none [10,3,7,1,9,6,8] [6,7,3,1,8] (f88_kl10 K Y4 Y10)
abbrev f88_k17 (K:KT) (Y4 Y10:YT):Exit→YT:=kblock 3 (f88_k16 K Y4 Y10)
abbrev f88_k18 (K:KT) (Y4 Y10:YT):Exit→YT:=kseq P (cA c88 477640) (cA c88 477641) none [3,7,1,9,6,8,10] [6,7,3,1,8,9,10] (f88_k17 K Y4 Y10)
def f88_s12 (a:Bool) (b:Addr) (c:Option Addr) (d f:Nat) (g:Int) (h:Option Addr) (i j:Nat) (k:Option Addr) (l m:Nat) (n o:Int) (w:World) (K:KT) (Y4 Y10:YT):Prop:=Join (fun e w=>CS P (cA c88 477641) none [3,7,1,9,6,8,10] [6,7,3,1,8,9,10] (f88_k17 K Y4 Y10) e w) (Env.mk 59 [(50,(VB a)),(3,(VP (some b))),(7,(VS c d f)),(1,(VI g)),(9,(VS h i j)),(6,(VS k l m)),(8,(VI n)),(10,(VI o))] []) w
def f88_s13 (a:Addr) (b:Option Addr) (c d:Nat) (f:Int) (g:Option Addr) (h i:Nat) (j:Option Addr) (k l:Nat) (m n:Int) (w:World) (K:KT) (Y4 Y10:YT):Prop:=Join (fun e w=>CS P (cA c88 119411) none [10,3,7,1,9,6,8] [6,7,3,1,8] (f88_kl10 K Y4 Y10) e w) (Env.mk 59 [(3,(VP (some a))),(7,(VS b c d)),(1,(VI f)),(9,(VS g h i)),(6,(VS j k l)),(8,(VI m)),(10,(VI n))] []) w
theorem f88_s13_eq (a:Addr) (c:Option Addr) (d e:Nat) (f:Int) (g:Option Addr) (h i:Nat) (j:Option Addr) (k l:Nat) (m n:Int) (w:World) (K:KT) (Y4 Y10:YT):f88_s13 a c d e f g h i j k l m n w K Y4 Y10=(Y10 (Env.mk 59 [(10,(Value.int .i64 (IntKind.wrap .i64 ((n:Int)+1)))),(3,(Value.pointer (some a))),(7,(Value.slice c d e)),(1,(Value.int .i64 f)),(9,(Value.slice g h i)),(6,(Value.slice j k l)),(8,(Value.int .i64 m))] []) w):=Eq.trans (b:=CS P (cA c88 119411) none [10,3,7,1,9,6,8] [6,7,3,1,8] (f88_kl10 K Y4 Y10) (Env.mk 59 [(3,(VP (some a))),(7,(VS c d e)),(1,(VI f)),(9,(VS g h i)),(6,(VS j k l)),(8,(VI m)),(10,(VI n))] []) w) (by kernel_rfl) (by kernel_rfl)
theorem f88_s12_eq (p:Bool) (c:Addr) (d:Option Addr) (e f:Nat) (g:Int) (h:Option Addr) (i j:Nat) (k:Option Addr) (l m:Nat) (n a:Int) (w:World) (K:KT) (Y4 Y10:YT):f88_s12 p c d e f g h i j k l m n a w K Y4 Y10=(BIf p (∃ (q:Option Addr) (r s:Nat),w.cell? (c.add 1)=some (Value.slice q r s)∧optS q (fun t=>0≤(a:Int)∧(a:Int) < (r:Nat)∧∃ o:Int,w.cell? (t.add (Int.toNat a * 1))=some (Value.int .i64 o)∧optS d (fun u=>0≤(o:Int)∧(o:Int) < (e:Nat)∧St1 (u.add (Int.toNat o * 1)) (Value.bool true) w (fun v=>f88_s13 c d e f g h i j k l m n a v K Y4 Y10)))) (f88_s13 c d e f g h i j k l m n a w K Y4 Y10)):=Eq.trans (b:=CS P (cA c88 477641) none [3,7,1,9,6,8,10] [6,7,3,1,8,9,10] (f88_k17 K Y4 Y10) (Env.mk 59 [(50,(VB p)),(3,(VP (some c))),(7,(VS d e f)),(1,(VI g)),(9,(VS h i j)),(6,(VS k l m)),(8,(VI n)),(10,(VI a))] []) w) (by kernel_rfl) (by kernel_rfl)
theorem f88_s11_eq (d:Addr) (h:Option Addr) (i j:Nat) (e:Int) (f:Option Addr) (g k:Nat) (l:Option Addr) (m n:Nat) (o c:Int) (w:World) (K:KT) (Y4 Y10:YT):f88_s11 d h i j e f g k l m n o c w K Y4 Y10=(optS f (fun t=>0≤(c:Int)∧(c:Int) < (g:Nat)∧∃ p:Bool,w.cell? (t.add (Int.toNat c * 1))=some (Value.bool p)∧BIf p (∃ (q:Option Addr) (r u:Nat),w.cell? (d.add 1)=some (Value.slice q r u)∧optS q (fun v=>0≤(c:Int)∧(c:Int) < (r:Nat)∧∃ s:Int,w.cell? (v.add (Int.toNat c * 1))=some (Value.int .i64 s)∧f88_s12 (decide ((s:Int) > e)) d h i j e f g k l m n o c w K Y4 Y10)) (f88_s12 false d h i j e f g k l m n o c w K Y4 Y10))):=Eq.trans (b:=CS P (cA c88 59705) none [10,3,7,1,9,6,8] [6,7,3,1,8] (f88_kl10 K Y4 Y10) (Env.mk 59 [(3,(VP (some d))),(7,(VS h i j)),(1,(VI e)),(9,(VS f g k)),(6,(VS l m n)),(8,(VI o)),(10,(VI c))] []) w) (by kernel_rfl) (Eq.trans (CSs (cA c88 119410) (cA c88 119411) [3,7,1,9,6,8,10] (f88_k16 K Y4 Y10) (by kernel_rfl) (by kernel_rfl) (by kernel_rfl)) (Eq.trans (CSb 3 (cA c88 238820) [6,7,3,1,8,9,10] (f88_k17 K Y4 Y10) (by kernel_rfl) (by kernel_rfl) (by kernel_rfl)) (Eq.trans (CSs (cA c88 477640) (cA c88 477641) [50,3,7,1,9,6,8,10] (f88_k18 K Y4 Y10) (by kernel_rfl) (by kernel_rfl) (by kernel_rfl)) (by kernel_rfl))))
theorem f88_lb10_eq (d:Int) (c:Addr) (e:Option Addr) (f g:Nat) (h:Int) (m:Option Addr) (n o:Nat) (i:Option Addr) (j k:Nat) (l:Int) (w:World) (K:KT) (Y4 Y10:YT):f88_lb10 d c e f g h m n o i j k l w K Y4 Y10=(∃ (p:Option Addr) (q r:Nat),w.cell? c=some (Value.slice p q r)∧∃ s:Int,(∀ wq,Ext w wq→(Builtin.len_ #[57] 3 [(Value.slice p q r)].toArray).run P wq=.ok (Value.int .i64 s) wq)∧BIf (decide ((d:Int) < s)) (f88_s11 c e f g h m n o i j k l d w K Y4 Y10) (f88_s6 i j k e f g c h l w K Y4)):=Eq.trans (b:=CS P (cA c88 29852) none [10,3,7,1,9,6,8] [6,7,3,1,8] (f88_kl10 K Y4 Y10) (Env.mk 59 [(10,(VI d)),(3,(VP (some c))),(7,(VS e f g)),(1,(VI h)),(9,(VS m n o)),(6,(VS i j k)),(8,(VI l))] []) w) (by kernel_rfl) (Eq.trans (CSs (cA c88 59704) (cA c88 59705) [3,7,1,9,6,8,10] (f88_k14 K Y4 Y10) (by kernel_rfl) (by kernel_rfl) (by kernel_rfl)) (Eq.trans (CSs (cA c88 119408) (cA c88 119409) [35,3,7,1,9,6,8,10] (f88_k15 K Y4 Y10) (by kernel_rfl) (by kernel_rfl) (by kernel_rfl)) (by kernel_rfl)))
theorem f88_s9_eq (a:Int) (c:Option Addr) (d e:Nat) (o:Option Addr) (p q:Nat) (r:Int) (s:Option Addr) (t u:Nat) (v f:Addr) (g:Option Addr) (h i:Nat) (j:Int) (k:Option Addr) (l m:Nat) (n:Int) (w:World) (K:KT) (Y4:YT):f88_s9 a c d e o p q r s t u v f g h i j k l m n w K Y4=(LoopE (f88_lp10 K Y4) (Env.mk 59 [(10,(Value.int .i64 a)),(3,(Value.pointer (some f))),(7,(Value.slice g h i)),(1,(Value.int .i64 j)),(9,(Value.slice c d e)),(6,(Value.slice k l m)),(8,(Value.int .i64 n))] []) w):=Eq.trans (b:=CS P (cA c88 7463) none [6,7,3,1,8] [6,7,3,1,8] (f88_k8 K Y4) (Env.mk 59 [(10,(VI a)),(9,(VS c d e)),(30,(VS o p q)),(29,(VI r)),(28,(VS s t u)),(27,(VP (some v))),(3,(VP (some f))),(7,(VS g h i)),(1,(VI j)),(6,(VS k l m)),(8,(VI n))] []) w) (by kernel_rfl) (Eq.trans (CSb 2 (cA c88 14926) [6,7,3,1,8] (f88_k13 K Y4) (by kernel_rfl) (by kernel_rfl) (by kernel_rfl)) ((CS_loop' (b:=(cA c88 29852)) (X':=[6,7,3,1,8]) (H:=[10,3,7,1,9,6,8]) (by kernel_rfl) (by kernel_rfl) (by kernel_rfl)).trans (by kernel_rfl)))
theorem f88_s8_eq (c:Option Addr) (d e:Nat) (f:Option Addr) (g h:Nat) (i:Int) (j:Option Addr) (k l:Nat) (m n:Addr) (o:Option Addr) (p q:Nat) (r:Int) (s:Option Addr) (t u:Nat) (v:Int) (w:World) (K:KT) (Y4:YT):f88_s8 c d e f g h i j k l m n o p q r s t u v w K Y4=(f88_s9 0 c d e f g h i j k l m n o p q r s t u v w K Y4):=Eq.trans (b:=CS P (cA c88 3731) none [6,7,3,1,8] [6,7,3,1,8] (f88_k8 K Y4) (Env.mk 59 [(9,(VS c d e)),(30,(VS f g h)),(29,(VI i)),(28,(VS j k l)),(27,(VP (some m))),(3,(VP (some n))),(7,(VS o p q)),(1,(VI r)),(6,(VS s t u)),(8,(VI v))] []) w) (by kernel_rfl) (Eq.trans (CSs (cA c88 7462) (cA c88 7463) [10,3,7,1,9,6,8] (f88_k12 K Y4) (by kernel_rfl) (by kernel_rfl) (by kernel_rfl)) (by kernel_rfl))
theorem f88_s7_eq (c:Addr) (e:Option Addr) (f g:Nat) (h:Int) (i:Option Addr) (j k:Nat) (d:Int) (w:World) (K:KT) (Y4:YT):f88_s7 c e f g h i j k d w K Y4=(∃ (l:Option Addr) (m n:Nat),w.cell? c=some (Value.slice l m n)∧CallL P 108 [(Value.slice l m n),(Value.int .i64 d)] w (fun r s=>∃ (o:Option Addr) (p q:Nat),r=(Value.slice o p q)∧f88_s8 o p q o p q d l m n c c e f g h i j k d s K Y4)):=Eq.trans (b:=CS P (cA c88 1865) none [6,7,3,1,8] [6,7,3,1,8] (f88_k8 K Y4) (Env.mk 59 [(3,(VP (some c))),(7,(VS e f g)),(1,(VI h)),(6,(VS i j k)),(8,(VI d))] []) w) (by kernel_rfl) (Eq.trans (CSs (cA c88 3730) (cA c88 3731) [3,7,1,9,6,8] (f88_k11 K Y4) (by kernel_rfl) (by kernel_rfl) (by kernel_rfl)) (by kernel_rfl))
theorem f88_s5_eq (f:Option Addr) (g h:Nat) (i:Option Addr) (j k:Nat) (d:Addr) (e c:Int) (w:World) (K:KT) (Y4:YT):f88_s5 f g h i j k d e c w K Y4=(∃ (l:Option Addr) (m o:Nat),w.cell? (d.add 1)=some (Value.slice l m o)∧optS l (fun p=>0≤(c:Int)∧(c:Int) < (m:Nat)∧∃ n:Int,w.cell? (p.add (Int.toNat c * 1))=some (Value.int .i64 n)∧BIf ((n:Int) != e) (f88_s6 f g h i j k d e c w K Y4) (f88_s7 d i j k e f g h c w K Y4))):=Eq.trans (b:=CS P (cA c88 233) none [6,7,8,3,1] [6,7] (f88_kl4 K Y4) (Env.mk 59 [(6,(VS f g h)),(7,(VS i j k)),(3,(VP (some d))),(1,(VI e)),(8,(VI c))] []) w) (by kernel_rfl) (Eq.trans (CSs (cA c88 466) (cA c88 467) [6,7,3,1,8] (f88_k7 K Y4) (by kernel_rfl) (by kernel_rfl) (by kernel_rfl)) (Eq.trans (CSb 1 (cA c88 932) [6,7,3,1,8] (f88_k8 K Y4) (by kernel_rfl) (by kernel_rfl) (by kernel_rfl)) (Eq.trans (CSs (cA c88 1864) (cA c88 1865) [3,7,1,6,8] (f88_k9 K Y4) (by kernel_rfl) (by kernel_rfl) (by kernel_rfl)) (Eq.trans (CSs (cA c88 3728) (cA c88 3729) [26,6,7,3,1,8] (f88_k10 K Y4) (by kernel_rfl) (by kernel_rfl) (by kernel_rfl)) (by kernel_rfl)))))
def f88_s14 (a:Option Addr) (b c:Nat) (w:World) (K:KT):Prop:=Join (fun e w=>CS P (cA c88 15) none [6] [6] (f88_kb K) e w) (Env.mk 59 [(7,(VS a b c))] []) w
abbrev f88_k19 (K:KT):Exit→YT:=kseq P (cA c88 30) (cA c88 31) none [6] [6] (f88_kb K)
theorem f88_s14_eq (c:Option Addr) (d e:Nat) (w:World) (K:KT):f88_s14 c d e w K=(K (Value.slice c d e) w):=Eq.trans (b:=CS P (cA c88 15) none [6] [6] (f88_kb K) (Env.mk 59 [(7,(VS c d e))] []) w) (by kernel_rfl) (Eq.trans (CSs (cA c88 30) (cA c88 31) [6] (f88_k19 K) (by kernel_rfl) (by kernel_rfl) (by kernel_rfl)) (by kernel_rfl))
theorem f88_lb4_eq (h:Option Addr) (i j:Nat) (c:Option Addr) (d e:Nat) (f:Int) (g:Addr) (k:Int) (w:World) (K:KT) (Y4:YT):f88_lb4 h i j c d e f g k w K Y4=(∃ (l:Option Addr) (m n:Nat),w.cell? g=some (Value.slice l m n)∧∃ o:Int,(∀ wq,Ext w wq→(Builtin.len_ #[57] 3 [(Value.slice l m n)].toArray).run P wq=.ok (Value.int .i64 o) wq)∧BIf (decide ((f:Int) < o)) (f88_s5 h i j c d e g k f w K Y4) (f88_s14 c d e w K)):=Eq.trans (b:=CS P (cA c88 116) none [6,7,8,3,1] [6,7] (f88_kl4 K Y4) (Env.mk 59 [(6,(VS h i j)),(7,(VS c d e)),(8,(VI f)),(3,(VP (some g))),(1,(VI k))] []) w) (by kernel_rfl) (Eq.trans (CSs (cA c88 232) (cA c88 233) [6,7,3,1,8] (f88_k5 K Y4) (by kernel_rfl) (by kernel_rfl) (by kernel_rfl)) (Eq.trans (CSs (cA c88 464) (cA c88 465) [17,6,7,3,1,8] (f88_k6 K Y4) (by kernel_rfl) (by kernel_rfl) (by kernel_rfl)) (by kernel_rfl)))
theorem f88_s3_eq (a:Int) (c:Option Addr) (d e:Nat) (k:Option Addr) (l m:Nat) (n:Int) (f:Option Addr) (g h:Nat) (i:Addr) (o:Array Value) (j p:Int) (w:World) (K:KT):f88_s3 a c d e k l m n f g h i o j p w K=(LoopE (f88_lp4 K) (Env.mk 59 [(6,(Value.slice f g h)),(7,(Value.slice c d e)),(8,(Value.int .i64 a)),(3,(Value.pointer (some i))),(1,(Value.int .i64 j))] []) w):=Eq.trans (b:=CS P (cA c88 29) none [7] [6] (f88_k2 K) (Env.mk 59 [(8,(VI a)),(7,(VS c d e)),(12,(VS k l m)),(11,(VI n)),(6,(VS f g h)),(3,(VP (some i))),(0,(Value.agg o)),(1,(VI j)),(2,(VI p))] []) w) (by kernel_rfl) (Eq.trans (CSb 0 (cA c88 58) [6,7] (f88_k4 K) (by kernel_rfl) (by kernel_rfl) (by kernel_rfl)) ((CS_loop' (b:=(cA c88 116)) (X':=[6,7]) (H:=[6,7,8,3,1]) (by kernel_rfl) (by kernel_rfl) (by kernel_rfl)).trans (by kernel_rfl)))
theorem f88_s2_eq (c:Option Addr) (d e:Nat) (f:Option Addr) (g h:Nat) (i:Int) (j:Option Addr) (k l:Nat) (m:Addr) (n:Array Value) (o p:Int) (w:World) (K:KT):f88_s2 c d e f g h i j k l m n o p w K=(f88_s3 0 c d e f g h i j k l m n o p w K):=Eq.trans (b:=CS P (cA c88 7) none [6] [6] (f88_kb K) (Env.mk 59 [(7,(VS c d e)),(12,(VS f g h)),(11,(VI i)),(6,(VS j k l)),(3,(VP (some m))),(0,(Value.agg n)),(1,(VI o)),(2,(VI p))] []) w) (by kernel_rfl) (Eq.trans (CSs (cA c88 14) (cA c88 15) [7] (f88_k2 K) (by kernel_rfl) (by kernel_rfl) (by kernel_rfl)) (Eq.trans (CSs (cA c88 28) (cA c88 29) [6,7,8,3,1] (f88_k3 K) (by kernel_rfl) (by kernel_rfl) (by kernel_rfl)) (by kernel_rfl)))
theorem f88_s1_eq (d:Option Addr) (e f:Nat) (g:Addr) (h:Array Value) (i c:Int) (w:World) (K:KT):f88_s1 d e f g h i c w K=(∃ (j:Option Addr) (k l:Nat),∃ m:World,(Instr.makeSlice 66 (Value.int .i64 c) (Value.int .i64 c)).run P w=.ok (Value.slice j k l) m∧f88_s2 j k l j k l c d e f g h i c m K):=Eq.trans (b:=CS P (cA c88 3) none [6] [6] (f88_kb K) (Env.mk 59 [(6,(VS d e f)),(3,(VP (some g))),(0,(Value.agg h)),(1,(VI i)),(2,(VI c))] []) w) (by kernel_rfl) (Eq.trans (CSs (cA c88 6) (cA c88 7) [6,7,3,1] (f88_k1 K) (by kernel_rfl) (by kernel_rfl) (by kernel_rfl)) (by kernel_rfl))
theorem f88_s0_eq (c:Array Value) (d e:Int) (w:World) (K:KT):f88_s0 c d e w K=(NewC c 113 w (fun f g=>f88_s1 none 0 0 (Addr.mk f 0 none) c d e g K)):=Eq.trans (b:=CS P (cA c88 1) none [6] [6] (f88_kb K) (Env.mk 59 [(0,(Value.agg c)),(1,(VI d)),(2,(VI e))] []) w) (by kernel_rfl) (Eq.trans (CSs (cA c88 2) (cA c88 3) [6,3,1,2] (f88_k0 K) (by kernel_rfl) (by kernel_rfl) (by kernel_rfl)) (by kernel_rfl))
theorem f88_eq (a:Array Value) (b c:Int) (w:World) (K:KT):f88 a b c w K=(f88_s0 a b c w K):=by kernel_rfl
theorem c88_eq:Go.Proofs.Try.f88.body=some c88:=by kernel_rfl
theorem f88_un (a:Array Value) (b c:Int) (w:World) (K:KT):f88 a b c w K=CS P c88 none (resT Go.Proofs.Try.f88.results.toList) (resT Go.Proofs.Try.f88.results.toList) (bodyK P Go.Proofs.Try.f88.results.toList K) (env0 Go.Proofs.Try.f88.ntmps [(Value.agg a),(Value.int .i64 b),(Value.int .i64 c)]) w:=by kernel_rfl
theorem f88_ok (a:Array Value) (b c:Int) (w:World) (K:KT) (h:f88 a b c w K):CallL P 88 [(Value.agg a),(Value.int .i64 b),(Value.int .i64 c)] w K:=calls_of_CS Go.Proofs.Try.func88 c88_eq (Eq.mp (f88_un a b c w K) h)
noncomputable def c56:Code:=match Go.Proofs.Try.f56.body with
 | some c=>c
 | none=>.skip
noncomputable def rs56:List ResultVar:=Go.Proofs.Try.f56.results.toList
abbrev f56_kb (K:KT):Exit→YT:=bodyK P rs56 K
def f56 (a:Option Addr) (b c:Nat) (w:World) (K:KT):Prop:=CS P c56 none [2] [2] (f56_kb K) (env0 24 [(VS a b c)]) w
def f56_s0 (a:Option Addr) (b c:Nat) (w:World) (K:KT):Prop:=CS P (cA c56 1) none [2] [2] (f56_kb K) (Env.mk 24 [(0,(VS a b c))] []) w
abbrev f56_k0 (K:KT):Exit→YT:=kseq P (cA c56 2) (cA c56 3) none [2] [2] (f56_kb K)
def f56_s1 (a:Option Addr) (b c:Nat) (d:Option Addr) (e f:Nat) (w:World) (K:KT):Prop:=CS P (cA c56 3) none [2] [2] (f56_kb K) (Env.mk 24 [(2,(VS a b c)),(0,(VS d e f))] []) w
abbrev f56_k1 (K:KT):Exit→YT:=kseq P (cA c56 6) (cA c56 7) none [2] [2] (f56_kb K)
def f56_s2 (a:Addr) (b:Array Value) (c:Option Addr) (d e:Nat) (f:Option Addr) (g h:Nat) (i:Option Addr) (j k:Nat) (w:World) (K:KT):Prop:=CS P (cA c56 7) none [2] [2] (f56_kb K) (Env.mk 24 [(3,(VP (some a))),(7,(Value.agg b)),(6,(VS c d e)),(2,(VS f g h)),(0,(VS i j k))] []) w
abbrev f56_k2 (K:KT):Exit→YT:=kseq P (cA c56 14) (cA c56 15) none [2] [2] (f56_kb K)
def f56_s3 (a:Option Addr) (b c:Nat) (d:Option Addr) (e f:Nat) (g:Addr) (h:Array Value) (i:Option Addr) (j k:Nat) (l:Option Addr) (m n:Nat) (o:Option Addr) (p q:Nat) (w:World) (K:KT):Prop:=CS P (cA c56 15) none [2] [2] (f56_kb K) (Env.mk 24 [(4,(VS a b c)),(8,(VS d e f)),(3,(VP (some g))),(7,(Value.agg h)),(6,(VS i j k)),(2,(VS l m n)),(0,(VS o p q))] []) w
abbrev f56_k3 (K:KT):Exit→YT:=kseq P (cA c56 30) (cA c56 31) none [2] [2] (f56_kb K)
abbrev f56_k4 (K:KT):Exit→YT:=kseq P (cA c56 60) (cA c56 61) none [4] [2] (f56_k3 K)
def f56_s4 (a:Int) (b:Option Addr) (c d:Nat) (e:Option Addr) (f g:Nat) (h:Addr) (i:Array Value) (j:Option Addr) (k l:Nat) (m:Option Addr) (n o:Nat) (p:Option Addr) (q r:Nat) (w:World) (K:KT):Prop:=CS P (cA c56 61) none [4] [2] (f56_k3 K) (Env.mk 24 [(5,(VI a)),(4,(VS b c d)),(8,(VS e f g)),(3,(VP (some h))),(7,(Value.agg i)),(6,(VS j k l)),(2,(VS m n o)),(0,(VS p q r))] []) w
abbrev f56_k5 (K:KT):Exit→YT:=kblock 0 (f56_k3 K)
def f56_lp5 (K:KT) (Y5:YT) (e:Env) (w:World):Prop:=Join (fun e w=>CS P (cA c56 244) none [5,0,3,4,2] [2,4] (kloop [5,0,3,4,2] Y5 (f56_k5 K)) e w) e w
abbrev f56_kl5 (K:KT) (Y5:YT):Exit→YT:=kloop [5,0,3,4,2] Y5 (f56_k5 K)
def f56_lb5 (a:Int) (b:Option Addr) (c d:Nat) (f:Addr) (g:Option Addr) (h i:Nat) (j:Option Addr) (k l:Nat) (w:World) (K:KT) (Y5:YT):Prop:=Join (fun e w=>CS P (cA c56 244) none [5,0,3,4,2] [2,4] (f56_kl5 K Y5) e w) (Env.mk 24 [(5,(VI a)),(0,(VS b c d)),(3,(VP (some f))),(4,(VS g h i)),(2,(VS j k l))] []) w
abbrev f56_k6 (K:KT) (Y5:YT):Exit→YT:=kseq P (cA c56 488) (cA c56 489) none [5,0,3,4,2] [2,4] (f56_kl5 K Y5)
abbrev f56_k7 (K:KT) (Y5:YT):Exit→YT:=kseq P (cA c56 976) (cA c56 977) none [0,3,2,5,4] [2,4] (f56_k6 K Y5)
def f56_s6 (a:Option Addr) (b c:Nat) (d:Addr) (f:Option Addr) (g h:Nat) (i:Int) (j:Option Addr) (k l:Nat) (w:World) (K:KT) (Y5:YT):Prop:=Join (fun e w=>CS P (cA c56 489) none [5,0,3,4,2] [2,4] (f56_kl5 K Y5) e w) (Env.mk 24 [(0,(VS a b c)),(3,(VP (some d))),(2,(VS f g h)),(5,(VI i)),(4,(VS j k l))] []) w
abbrev f56_k8 (K:KT) (Y5:YT):Exit→YT:=kseq P (cA c56 978) (cA c56 979) none [5,0,3,4,2] [2,4] (f56_kl5 K Y5)
abbrev f56_k9 (K:KT) (Y5:YT):Exit→YT:=kblock 1 (f56_k8 K Y5)
def f56_s7 (a:Option Addr) (b c:Nat) (d:Addr) (f:Option Addr) (g h:Nat) (i:Option Addr) (j k:Nat) (l:Int) (w:World) (K:KT) (Y5:YT):Prop:=Join (fun e w=>CS P (cA c56 979) none [5,0,3,4,2] [2,4] (f56_kl5 K Y5) e w) (Env.mk 24 [(0,(VS a b c)),(3,(VP (some d))),(4,(VS f g h)),(2,(VS i j k)),(5,(VI l))] []) w
theorem f56_s7_eq (a:Option Addr) (c d:Nat) (e:Addr) (f:Option Addr) (g h:Nat) (i:Option Addr) (j k:Nat) (l:Int) (w:World) (K:KT) (Y5:YT):f56_s7 a c d e f g h i j k l w K Y5=(Y5 (Env.mk 24 [(5,(Value.int .i64 (IntKind.wrap .i64 ((l:Int)+1)))),(0,(Value.slice a c d)),(3,(Value.pointer (some e))),(4,(Value.slice f g h)),(2,(Value.slice i j k))] []) w):=Eq.trans (b:=CS P (cA c56 979) none [5,0,3,4,2] [2,4] (f56_kl5 K Y5) (Env.mk 24 [(0,(VS a c d)),(3,(VP (some e))),(4,(VS f g h)),(2,(VS i j k)),(5,(VI l))] []) w) (by kernel_rfl) (by kernel_rfl)
theorem f56_s6_eq (c:Option Addr) (d e:Nat) (f:Addr) (h:Option Addr) (i j:Nat) (g:Int) (k:Option Addr) (l m:Nat) (w:World) (K:KT) (Y5:YT):f56_s6 c d e f h i j g k l m w K Y5=(LdA 20 f w (fun x=>∃ q:Int,(∀ wq,Ext w wq→(Builtin.len_ #[22] 3 [(Value.slice c d e)].toArray).run P wq=.ok (Value.int .i64 q) wq)∧CallL P 88 [(Value.agg x),(Value.int .i64 g),(Value.int .i64 q)] w (fun y z=>∃ (n:Option Addr) (o p:Nat),y=(Value.slice n o p)∧sizesAre 1 [(Value.slice n o p)]∧NewC (([(Value.slice n o p)].map fun (v:Value)=>v.cells.toList).flatten.toArray) 66 z (fun a0 b0=>∃ (r:Option Addr) (s t:Nat),∃ u:World,(Builtin.append_ #[61,61] 61 [(Value.slice k l m),(Value.slice (some (Addr.mk a0 0 none)) 1 1)].toArray).run P b0=.ok (Value.slice r s t) u∧f56_s7 c d e f r s t h i j g u K Y5)))):=Eq.trans (b:=CS P (cA c56 489) none [5,0,3,4,2] [2,4] (f56_kl5 K Y5) (Env.mk 24 [(0,(VS c d e)),(3,(VP (some f))),(2,(VS h i j)),(5,(VI g)),(4,(VS k l m))] []) w) (by kernel_rfl) (Eq.trans (CSs (cA c56 978) (cA c56 979) [0,3,4,2,5] (f56_k8 K Y5) (by kernel_rfl) (by kernel_rfl) (by kernel_rfl)) (Eq.trans (CSb 1 (cA c56 1956) [2,4,0,3,5] (f56_k9 K Y5) (by kernel_rfl) (by kernel_rfl) (by kernel_rfl)) (by kernel_rfl)))
def f56_s8 (a:Option Addr) (b c:Nat) (w:World) (K:KT):Prop:=Join (fun e w=>CS P (cA c56 31) none [2] [2] (f56_kb K) e w) (Env.mk 24 [(4,(VS a b c))] []) w
abbrev f56_k10 (K:KT):Exit→YT:=kseq P (cA c56 62) (cA c56 63) none [2] [2] (f56_kb K)
theorem f56_s8_eq (c:Option Addr) (d e:Nat) (w:World) (K:KT):f56_s8 c d e w K=(K (Value.slice c d e) w):=Eq.trans (b:=CS P (cA c56 31) none [2] [2] (f56_kb K) (Env.mk 24 [(4,(VS c d e))] []) w) (by kernel_rfl) (Eq.trans (CSs (cA c56 62) (cA c56 63) [2] (f56_k10 K) (by kernel_rfl) (by kernel_rfl) (by kernel_rfl)) (by kernel_rfl))
theorem f56_lb5_eq (c:Int) (d:Option Addr) (e f:Nat) (j:Addr) (g:Option Addr) (h i:Nat) (k:Option Addr) (l m:Nat) (w:World) (K:KT) (Y5:YT):f56_lb5 c d e f j g h i k l m w K Y5=(∃ n:Int,(∀ wq,Ext w wq→(Builtin.len_ #[22] 3 [(Value.slice d e f)].toArray).run P wq=.ok (Value.int .i64 n) wq)∧BIf (decide ((c:Int) < n)) (f56_s6 d e f j k l m c g h i w K Y5) (f56_s8 g h i w K)):=Eq.trans (b:=CS P (cA c56 244) none [5,0,3,4,2] [2,4] (f56_kl5 K Y5) (Env.mk 24 [(5,(VI c)),(0,(VS d e f)),(3,(VP (some j))),(4,(VS g h i)),(2,(VS k l m))] []) w) (by kernel_rfl) (Eq.trans (CSs (cA c56 488) (cA c56 489) [0,3,2,5,4] (f56_k6 K Y5) (by kernel_rfl) (by kernel_rfl) (by kernel_rfl)) (Eq.trans (CSs (cA c56 976) (cA c56 977) [12,0,3,2,5,4] (f56_k7 K Y5) (by kernel_rfl) (by kernel_rfl) (by kernel_rfl)) (by kernel_rfl)))
theorem f56_s4_eq (a:Int) (c:Option Addr) (d e:Nat) (m:Option Addr) (n o:Nat) (f:Addr) (p:Array Value) (q:Option Addr) (r s:Nat) (g:Option Addr) (h i:Nat) (j:Option Addr) (k l:Nat) (w:World) (K:KT):f56_s4 a c d e m n o f p q r s g h i j k l w K=(LoopE (f56_lp5 K) (Env.mk 24 [(5,(Value.int .i64 a)),(0,(Value.slice j k l)),(3,(Value.pointer (some f))),(4,(Value.slice c d e)),(2,(Value.slice g h i))] []) w):=Eq.trans (b:=CS P (cA c56 61) none [4] [2] (f56_k3 K) (Env.mk 24 [(5,(VI a)),(4,(VS c d e)),(8,(VS m n o)),(3,(VP (some f))),(7,(Value.agg p)),(6,(VS q r s)),(2,(VS g h i)),(0,(VS j k l))] []) w) (by kernel_rfl) (Eq.trans (CSb 0 (cA c56 122) [2,4] (f56_k5 K) (by kernel_rfl) (by kernel_rfl) (by kernel_rfl)) ((CS_loop' (b:=(cA c56 244)) (X':=[2,4]) (H:=[5,0,3,4,2]) (by kernel_rfl) (by kernel_rfl) (by kernel_rfl)).trans (by kernel_rfl)))
theorem f56_s3_eq (c:Option Addr) (d e:Nat) (f:Option Addr) (g h:Nat) (i:Addr) (j:Array Value) (k:Option Addr) (l m:Nat) (n:Option Addr) (o p:Nat) (q:Option Addr) (r s:Nat) (w:World) (K:KT):f56_s3 c d e f g h i j k l m n o p q r s w K=(f56_s4 0 c d e f g h i j k l m n o p q r s w K):=Eq.trans (b:=CS P (cA c56 15) none [2] [2] (f56_kb K) (Env.mk 24 [(4,(VS c d e)),(8,(VS f g h)),(3,(VP (some i))),(7,(Value.agg j)),(6,(VS k l m)),(2,(VS n o p)),(0,(VS q r s))] []) w) (by kernel_rfl) (Eq.trans (CSs (cA c56 30) (cA c56 31) [4] (f56_k3 K) (by kernel_rfl) (by kernel_rfl) (by kernel_rfl)) (Eq.trans (CSs (cA c56 60) (cA c56 61) [5,0,3,4,2] (f56_k4 K) (by kernel_rfl) (by kernel_rfl) (by kernel_rfl)) (by kernel_rfl)))
theorem f56_s2_eq (c:Addr) (d:Array Value) (e:Option Addr) (f g:Nat) (h:Option Addr) (i j:Nat) (k:Option Addr) (l m:Nat) (w:World) (K:KT):f56_s2 c d e f g h i j k l m w K=(∃ (n:Option Addr) (o p:Nat),∃ q:World,(Instr.buildSlice 61 0 ([]:List (Nat × Value)).toArray).run P w=.ok (Value.slice n o p) q∧f56_s3 n o p n o p c d e f g h i j k l m q K):=Eq.trans (b:=CS P (cA c56 7) none [2] [2] (f56_kb K) (Env.mk 24 [(3,(VP (some c))),(7,(Value.agg d)),(6,(VS e f g)),(2,(VS h i j)),(0,(VS k l m))] []) w) (by kernel_rfl) (Eq.trans (CSs (cA c56 14) (cA c56 15) [0,3,4,2] (f56_k2 K) (by kernel_rfl) (by kernel_rfl) (by kernel_rfl)) (by kernel_rfl))
theorem f56_s1_eq (f:Option Addr) (g h:Nat) (c:Option Addr) (d e:Nat) (w:World) (K:KT):f56_s1 f g h c d e w K=(CallL P 60 [(Value.slice c d e)] w (fun k l=>∃ i:Array Value,k=(Value.agg i)∧NewC (zcells P 113) 113 l (fun j m=>StA 20 (Addr.mk j 0 none) i m (fun n=>f56_s2 (Addr.mk j 0 none) i c d e f g h c d e n K)))):=Eq.trans (b:=CS P (cA c56 3) none [2] [2] (f56_kb K) (Env.mk 24 [(2,(VS f g h)),(0,(VS c d e))] []) w) (by kernel_rfl) (Eq.trans (CSs (cA c56 6) (cA c56 7) [0,3,2] (f56_k1 K) (by kernel_rfl) (by kernel_rfl) (by kernel_rfl)) (by kernel_rfl))
theorem f56_s0_eq (c:Option Addr) (d e:Nat) (w:World) (K:KT):f56_s0 c d e w K=(f56_s1 none 0 0 c d e w K):=Eq.trans (b:=CS P (cA c56 1) none [2] [2] (f56_kb K) (Env.mk 24 [(0,(VS c d e))] []) w) (by kernel_rfl) (Eq.trans (CSs (cA c56 2) (cA c56 3) [0,2] (f56_k0 K) (by kernel_rfl) (by kernel_rfl) (by kernel_rfl)) (by kernel_rfl))
theorem f56_eq (a:Option Addr) (b c:Nat) (w:World) (K:KT):f56 a b c w K=(f56_s0 a b c w K):=by kernel_rfl
theorem c56_eq:Go.Proofs.Try.f56.body=some c56:=by kernel_rfl
theorem f56_un (a:Option Addr) (b c:Nat) (w:World) (K:KT):f56 a b c w K=CS P c56 none (resT Go.Proofs.Try.f56.results.toList) (resT Go.Proofs.Try.f56.results.toList) (bodyK P Go.Proofs.Try.f56.results.toList K) (env0 Go.Proofs.Try.f56.ntmps [(Value.slice a b c)]) w:=by kernel_rfl
theorem f56_ok (a:Option Addr) (b c:Nat) (w:World) (K:KT) (h:f56 a b c w K):CallL P 56 [(Value.slice a b c)] w K:=calls_of_CS Go.Proofs.Try.func56 c56_eq (Eq.mp (f56_un a b c w K) h)
noncomputable def c57:Code:=match Go.Proofs.Try.f57.body with
 | some c=>c
 | none=>.skip
noncomputable def rs57:List ResultVar:=Go.Proofs.Try.f57.results.toList
abbrev f57_kb (K:KT):Exit→YT:=bodyK P rs57 K
def f57 (a:Option Addr) (b c:Nat) (d:Option Addr) (e f:Nat) (g:Int) (w:World) (K:KT):Prop:=CS P c57 none [6] [6] (f57_kb K) (env0 72 [(VS a b c),(VS d e f),(Value.int .u32 g)]) w
def f57_s0 (a:Option Addr) (b c:Nat) (d:Option Addr) (e f:Nat) (g:Int) (w:World) (K:KT):Prop:=CS P (cA c57 1) none [6] [6] (f57_kb K) (Env.mk 72 [(0,(VS a b c)),(1,(VS d e f)),(2,(Value.int .u32 g))] []) w
abbrev f57_k0 (K:KT):Exit→YT:=kseq P (cA c57 2) (cA c57 3) none [6] [6] (f57_kb K)
def f57_s1 (a:Option Addr) (b c:Nat) (d:Option Addr) (e f:Nat) (g:Option Addr) (h i:Nat) (j:Int) (w:World) (K:KT):Prop:=CS P (cA c57 3) none [6] [6] (f57_kb K) (Env.mk 72 [(6,(VS a b c)),(0,(VS d e f)),(1,(VS g h i)),(2,(Value.int .u32 j))] []) w
abbrev f57_k1 (K:KT):Exit→YT:=kseq P (cA c57 6) (cA c57 7) none [6] [6] (f57_kb K)
def f57_s2 (a:Option Addr) (b c:Nat) (d:Option Addr) (e f:Nat) (g:Option Addr) (h i:Nat) (j:Option Addr) (k l:Nat) (m:Option Addr) (n o:Nat) (p:Int) (w:World) (K:KT):Prop:=CS P (cA c57 7) none [6] [6] (f57_kb K) (Env.mk 72 [(7,(VS a b c)),(12,(VS d e f)),(6,(VS g h i)),(0,(VS j k l)),(1,(VS m n o)),(2,(Value.int .u32 p))] []) w
abbrev f57_k2 (K:KT):Exit→YT:=kseq P (cA c57 14) (cA c57 15) none [6] [6] (f57_kb K)
abbrev f57_k3 (K:KT):Exit→YT:=kseq P (cA c57 28) (cA c57 29) none [7] [6] (f57_k2 K)
def f57_s3 (a:Int) (b:Option Addr) (c d:Nat) (e:Option Addr) (f g:Nat) (h:Option Addr) (i j:Nat) (k:Option Addr) (l m:Nat) (n:Option Addr) (o p:Nat) (q:Int) (w:World) (K:KT):Prop:=CS P (cA c57 29) none [7] [6] (f57_k2 K) (Env.mk 72 [(8,(VI a)),(7,(VS b c d)),(12,(VS e f g)),(6,(VS h i j)),(0,(VS k l m)),(1,(VS n o p)),(2,(Value.int .u32 q))] []) w
abbrev f57_k4 (K:KT):Exit→YT:=kblock 0 (f57_k2 K)
def f57_lp4 (K:KT) (Y4:YT) (e:Env) (w:World):Prop:=Join (fun e w=>CS P (cA c57 116) none [6,7,8,2,0,1] [6,7] (kloop [6,7,8,2,0,1] Y4 (f57_k4 K)) e w) e w
abbrev f57_kl4 (K:KT) (Y4:YT):Exit→YT:=kloop [6,7,8,2,0,1] Y4 (f57_k4 K)
def f57_lb4 (a:Option Addr) (b c:Nat) (d:Option Addr) (f g:Nat) (h i:Int) (j:Option Addr) (k l:Nat) (m:Option Addr) (n o:Nat) (w:World) (K:KT) (Y4:YT):Prop:=Join (fun e w=>CS P (cA c57 116) none [6,7,8,2,0,1] [6,7] (f57_kl4 K Y4) e w) (Env.mk 72 [(6,(VS a b c)),(7,(VS d f g)),(8,(VI h)),(2,(Value.int .u32 i)),(0,(VS j k l)),(1,(VS m n o))] []) w
abbrev f57_k5 (K:KT) (Y4:YT):Exit→YT:=kseq P (cA c57 232) (cA c57 233) none [6,7,8,2,0,1] [6,7] (f57_kl4 K Y4)
abbrev f57_k6 (K:KT) (Y4:YT):Exit→YT:=kseq P (cA c57 464) (cA c57 465) none [6,7,2,0,1,8] [6,7] (f57_k5 K Y4)
def f57_s5 (a:Option Addr) (b c:Nat) (d:Option Addr) (f g:Nat) (h:Int) (i:Option Addr) (j k:Nat) (l:Option Addr) (m n:Nat) (o:Int) (w:World) (K:KT) (Y4:YT):Prop:=Join (fun e w=>CS P (cA c57 233) none [6,7,8,2,0,1] [6,7] (f57_kl4 K Y4) e w) (Env.mk 72 [(6,(VS a b c)),(7,(VS d f g)),(2,(Value.int .u32 h)),(0,(VS i j k)),(1,(VS l m n)),(8,(VI o))] []) w
abbrev f57_k7 (K:KT) (Y4:YT):Exit→YT:=kseq P (cA c57 466) (cA c57 467) none [6,7,8,2,0,1] [6,7] (f57_kl4 K Y4)
abbrev f57_k8 (K:KT) (Y4:YT):Exit→YT:=kblock 1 (f57_k7 K Y4)
abbrev f57_k9 (K:KT) (Y4:YT):Exit→YT:=kseq P (cA c57 1864) (cA c57 1865) none [6,7,2,0,1,8] [6,7,2,0,1,8] (f57_k8 K Y4)
def f57_s6 (a:Int) (b:Option Addr) (c d:Nat) (e:Option Addr) (f g:Nat) (h:Int) (i:Option Addr) (j k:Nat) (l:Option Addr) (m n:Nat) (o:Int) (w:World) (K:KT) (Y4:YT):Prop:=CS P (cA c57 1865) none [6,7,2,0,1,8] [6,7,2,0,1,8] (f57_k8 K Y4) (Env.mk 72 [(9,(VI a)),(6,(VS b c d)),(7,(VS e f g)),(2,(Value.int .u32 h)),(0,(VS i j k)),(1,(VS l m n)),(8,(VI o))] []) w
abbrev f57_k10 (K:KT) (Y4:YT):Exit→YT:=kblock 2 (f57_k8 K Y4)
def f57_lp7 (K:KT) (Y4 Y7:YT) (e:Env) (w:World):Prop:=Join (fun e w=>CS P (cA c57 7460) none [6,7,2,0,1,8,9] [6,7,2,0,1,8] (kloop [6,7,2,0,1,8,9] Y7 (f57_k10 K Y4)) e w) e w
abbrev f57_kl7 (K:KT) (Y4 Y7:YT):Exit→YT:=kloop [6,7,2,0,1,8,9] Y7 (f57_k10 K Y4)
def f57_lb7 (a:Option Addr) (b c:Nat) (d:Option Addr) (f g:Nat) (h:Int) (i:Option Addr) (j k:Nat) (l:Option Addr) (m n:Nat) (o p:Int) (w:World) (K:KT) (Y4 Y7:YT):Prop:=Join (fun e w=>CS P (cA c57 7460) none [6,7,2,0,1,8,9] [6,7,2,0,1,8] (f57_kl7 K Y4 Y7) e w) (Env.mk 72 [(6,(VS a b c)),(7,(VS d f g)),(2,(Value.int .u32 h)),(0,(VS i j k)),(1,(VS l m n)),(8,(VI o)),(9,(VI p))] []) w
abbrev f57_k11 (K:KT) (Y4 Y7:YT):Exit→YT:=kseq P (cA c57 14920) (cA c57 14921) none [6,7,2,0,1,8,9] [6,7,2,0,1,8] (f57_kl7 K Y4 Y7)
abbrev f57_k12 (K:KT) (Y4 Y7:YT):Exit→YT:=kseq P (cA c57 29840) (cA c57 29841) none [6,7,2,0,1,8,9] [6,7,2,0,1,8] (f57_k11 K Y4 Y7)
def f57_s8 (a:Option Addr) (b c:Nat) (d:Option Addr) (f g:Nat) (h:Int) (i:Option Addr) (j k:Nat) (l:Option Addr) (m n:Nat) (o p:Int) (w:World) (K:KT) (Y4 Y7:YT):Prop:=Join (fun e w=>CS P (cA c57 14921) none [6,7,2,0,1,8,9] [6,7,2,0,1,8] (f57_kl7 K Y4 Y7) e w) (Env.mk 72 [(6,(VS a b c)),(7,(VS d f g)),(2,(Value.int .u32 h)),(0,(VS i j k)),(1,(VS l m n)),(8,(VI o)),(9,(VI p))] []) w
abbrev f57_k13 (K:KT) (Y4 Y7:YT):Exit→YT:=kseq P (cA c57 29842) (cA c57 29843) none [6,7,2,0,1,8,9] [6,7,2,0,1,8] (f57_kl7 K Y4 Y7)
abbrev f57_k14 (K:KT) (Y4 Y7:YT):Exit→YT:=kblock 3 (f57_k13 K Y4 Y7)
abbrev f57_k15 (K:KT) (Y4 Y7:YT):Exit→YT:=kseq P (cA c57 119368) (cA c57 119369) none [6,7,2,0,1,8,9] [6,7,2,0,1,8,9] (f57_k14 K Y4 Y7)
abbrev f57_k16 (K:KT) (Y4 Y7:YT):Exit→YT:=kseq P (cA c57 238736) (cA c57 238737) none [6,2,0,1,8,9,7] [6,7,2,0,1,8,9] (f57_k15 K Y4 Y7)
def f57_s9 (a:Bool) (b:Option Addr) (c d:Nat) (f:Option Addr) (g h:Nat) (i:Int) (j:Option Addr) (k l:Nat) (m:Option Addr) (n o:Nat) (p q:Int) (w:World) (K:KT) (Y4 Y7:YT):Prop:=Join (fun e w=>CS P (cA c57 238737) none [6,2,0,1,8,9,7] [6,7,2,0,1,8,9] (f57_k15 K Y4 Y7) e w) (Env.mk 72 [(48,(VB a)),(6,(VS b c d)),(7,(VS f g h)),(2,(Value.int .u32 i)),(0,(VS j k l)),(1,(VS m n o)),(8,(VI p)),(9,(VI q))] []) w
def f57_s10 (a:Option Addr) (b c:Nat) (d:Option Addr) (f g:Nat) (h:Int) (i:Option Addr) (j k:Nat) (l:Option Addr) (m n:Nat) (o p:Int) (w:World) (K:KT) (Y4 Y7:YT):Prop:=Join (fun e w=>CS P (cA c57 29843) none [6,7,2,0,1,8,9] [6,7,2,0,1,8] (f57_kl7 K Y4 Y7) e w) (Env.mk 72 [(6,(VS a b c)),(7,(VS d f g)),(2,(Value.int .u32 h)),(0,(VS i j k)),(1,(VS l m n)),(8,(VI o)),(9,(VI p))] []) w
theorem f57_s10_eq (a:Option Addr) (c d:Nat) (e:Option Addr) (f g:Nat) (h:Int) (i:Option Addr) (j k:Nat) (l:Option Addr) (m n:Nat) (o p:Int) (w:World) (K:KT) (Y4 Y7:YT):f57_s10 a c d e f g h i j k l m n o p w K Y4 Y7=(Y7 (Env.mk 72 [(6,(Value.slice a c d)),(7,(Value.slice e f g)),(2,(Value.int .u32 h)),(0,(Value.slice i j k)),(1,(Value.slice l m n)),(8,(Value.int .i64 o)),(9,(Value.int .i64 (IntKind.wrap .i64 ((p:Int)+1))))] []) w):=Eq.trans (b:=CS P (cA c57 29843) none [6,7,2,0,1,8,9] [6,7,2,0,1,8] (f57_kl7 K Y4 Y7) (Env.mk 72 [(6,(VS a c d)),(7,(VS e f g)),(2,(Value.int .u32 h)),(0,(VS i j k)),(1,(VS l m n)),(8,(VI o)),(9,(VI p))] []) w) (by kernel_rfl) (by kernel_rfl)
def f57_s11 (a:Option Addr) (b c:Nat) (d:Int) (f:Option Addr) (g h:Nat) (i:Option Addr) (j k:Nat) (l m:Int) (n:Option Addr) (o p:Nat) (w:World) (K:KT) (Y4 Y7:YT):Prop:=Join (fun e w=>CS P (cA c57 119369) none [6,7,2,0,1,8,9] [6,7,2,0,1,8,9] (f57_k14 K Y4 Y7) e w) (Env.mk 72 [(6,(VS a b c)),(2,(Value.int .u32 d)),(0,(VS f g h)),(1,(VS i j k)),(8,(VI l)),(9,(VI m)),(7,(VS n o p))] []) w
abbrev f57_k17 (K:KT) (Y4 Y7:YT):Exit→YT:=kseq P (cA c57 238738) (cA c57 238739) none [6,7,2,0,1,8,9] [6,7,2,0,1,8,9] (f57_k14 K Y4 Y7)
def f57_s12 (a:Option Addr) (b c:Nat) (d:Int) (f:Option Addr) (g h:Nat) (i:Option Addr) (j k:Nat) (l m:Int) (n o:Addr) (p:Option Addr) (q r:Nat) (w:World) (K:KT) (Y4 Y7:YT):Prop:=Join (fun e w=>CS P (cA c57 238739) none [6,7,2,0,1,8,9] [6,7,2,0,1,8,9] (f57_k14 K Y4 Y7) e w) (Env.mk 72 [(6,(VS a b c)),(2,(Value.int .u32 d)),(0,(VS f g h)),(1,(VS i j k)),(8,(VI l)),(9,(VI m)),(11,(VP (some n))),(10,(VP (some o))),(7,(VS p q r))] []) w
abbrev f57_k18 (K:KT) (Y4 Y7:YT):Exit→YT:=kseq P (cA c57 477478) (cA c57 477479) none [6,7,2,0,1,8,9] [6,7,2,0,1,8,9] (f57_k14 K Y4 Y7)
theorem f57_s12_eq (d:Option Addr) (e f:Nat) (c:Int) (g:Option Addr) (h i:Nat) (j:Option Addr) (k l:Nat) (m n:Int) (o p:Addr) (q:Option Addr) (r s:Nat) (w:World) (K:KT) (Y4 Y7:YT):f57_s12 d e f c g h i j k l m n o p q r s w K Y4 Y7=(LdA 5 p w (fun c0=>LdA 5 o w (fun d0=>CallL P 91 [(Value.agg c0),(Value.agg d0)] w (fun e0 t=>∃ x:Bool,e0=(Value.bool x)∧BIf x (LdA 5 p t (fun f0=>LdA 5 o t (fun g0=>∃ u:Array Value,(∀ wq,(Instr.build 47 [(0,(Value.int .u32 c)),(1,(Value.agg f0)),(2,(Value.agg g0))].toArray).run P wq=.ok (Value.agg u) wq)∧sizesAre 11 [(Value.agg u)]∧NewC (([(Value.agg u)].map fun (v:Value)=>v.cells.toList).flatten.toArray) 47 t (fun h0 i0=>∃ (y:Option Addr) (z a0:Nat),∃ b0:World,(Builtin.append_ #[25,25] 25 [(Value.slice q r s),(Value.slice (some (Addr.mk h0 0 none)) 1 1)].toArray).run P i0=.ok (Value.slice y z a0) b0∧f57_s10 d e f y z a0 c g h i j k l m n b0 K Y4 Y7)))) (f57_s10 d e f q r s c g h i j k l m n t K Y4 Y7))))):=Eq.trans (b:=CS P (cA c57 238739) none [6,7,2,0,1,8,9] [6,7,2,0,1,8,9] (f57_k14 K Y4 Y7) (Env.mk 72 [(6,(VS d e f)),(2,(Value.int .u32 c)),(0,(VS g h i)),(1,(VS j k l)),(8,(VI m)),(9,(VI n)),(11,(VP (some o))),(10,(VP (some p))),(7,(VS q r s))] []) w) (by kernel_rfl) (Eq.trans (CSs (cA c57 477478) (cA c57 477479) [63,6,2,0,1,8,9,11,10,7] (f57_k18 K Y4 Y7) (by kernel_rfl) (by kernel_rfl) (by kernel_rfl)) (by kernel_rfl))
theorem f57_s11_eq (g:Option Addr) (h i:Nat) (j:Int) (e:Option Addr) (f k:Nat) (l:Option Addr) (m n:Nat) (c d:Int) (o:Option Addr) (p q:Nat) (w:World) (K:KT) (Y4 Y7:YT):f57_s11 g h i j e f k l m n c d o p q w K Y4 Y7=(optS e (fun p2=>0≤(d:Int)∧(d:Int) < (f:Nat)∧optS e (fun v=>0≤(c:Int)∧(c:Int) < (f:Nat)∧LdA 6 (p2.add (Int.toNat d * 6)) w.drew (fun r=>(CallL P 90 [(Value.agg r),(Value.int .i64 d)] w.drew (fun q2 e0=>∃ x:Array Value,q2=(Value.agg x)∧LdA 6 (v.add (Int.toNat c * 6)) e0 (fun b0=>(CallL P 90 [(Value.agg b0),(Value.int .i64 c)] e0 (fun r2 C0=>∃ m0:Array Value,r2=(Value.agg m0)∧(NewC (zcells P 45) 45 C0 (fun D0 s2=>NewC (zcells P 45) 45 s2 (fun E0 t2=>StA 5 (Addr.mk D0 0 none) x t2 (fun u2=>StA 5 (Addr.mk E0 0 none) m0 u2 (fun v2=>f57_s12 g h i j e f k l m n c d (Addr.mk E0 0 none) (Addr.mk D0 0 none) o p q v2 K Y4 Y7)))))∧(NewC (zcells P 45) 45 C0 (fun F0 x2=>NewC (zcells P 45) 45 x2 (fun G0 y2=>StA 5 (Addr.mk G0 0 none) x y2 (fun z2=>StA 5 (Addr.mk F0 0 none) m0 z2 (fun A2=>f57_s12 g h i j e f k l m n c d (Addr.mk F0 0 none) (Addr.mk G0 0 none) o p q A2 K Y4 Y7)))))))∧(NewC (zcells P 45) 45 e0 (fun f0 H0=>(CallL P 90 [(Value.agg b0),(Value.int .i64 c)] H0 (fun B2 C2=>∃ I0:Array Value,B2=(Value.agg I0)∧NewC (zcells P 45) 45 C2 (fun J0 D2=>StA 5 (Addr.mk f0 0 none) x D2 (fun E2=>StA 5 (Addr.mk J0 0 none) I0 E2 (fun F2=>f57_s12 g h i j e f k l m n c d (Addr.mk J0 0 none) (Addr.mk f0 0 none) o p q F2 K Y4 Y7)))))∧(NewC (zcells P 45) 45 H0 (fun L0 G2=>CallL P 90 [(Value.agg b0),(Value.int .i64 c)] G2 (fun H2 I2=>∃ M0:Array Value,H2=(Value.agg M0)∧StA 5 (Addr.mk f0 0 none) x I2 (fun J2=>StA 5 (Addr.mk L0 0 none) M0 J2 (fun L2=>f57_s12 g h i j e f k l m n c d (Addr.mk L0 0 none) (Addr.mk f0 0 none) o p q L2 K Y4 Y7)))))))∧(NewC (zcells P 45) 45 e0 (fun g0 N0=>(CallL P 90 [(Value.agg b0),(Value.int .i64 c)] N0 (fun M2 N2=>∃ O0:Array Value,M2=(Value.agg O0)∧NewC (zcells P 45) 45 N2 (fun Q0 O2=>StA 5 (Addr.mk Q0 0 none) x O2 (fun Q2=>StA 5 (Addr.mk g0 0 none) O0 Q2 (fun R2=>f57_s12 g h i j e f k l m n c d (Addr.mk g0 0 none) (Addr.mk Q0 0 none) o p q R2 K Y4 Y7)))))∧(NewC (zcells P 45) 45 N0 (fun R0 S2=>CallL P 90 [(Value.agg b0),(Value.int .i64 c)] S2 (fun T2 U2=>∃ S0:Array Value,T2=(Value.agg S0)∧StA 5 (Addr.mk R0 0 none) x U2 (fun V2=>StA 5 (Addr.mk g0 0 none) S0 V2 (fun W2=>f57_s12 g h i j e f k l m n c d (Addr.mk g0 0 none) (Addr.mk R0 0 none) o p q W2 K Y4 Y7))))))))))∧(LdA 6 (v.add (Int.toNat c * 6)) w.drew (fun u=>(CallL P 90 [(Value.agg r),(Value.int .i64 d)] w.drew (fun X2 n0=>∃ y:Array Value,X2=(Value.agg y)∧(CallL P 90 [(Value.agg u),(Value.int .i64 c)] n0 (fun Y2 T0=>∃ o0:Array Value,Y2=(Value.agg o0)∧(NewC (zcells P 45) 45 T0 (fun U0 Z2=>NewC (zcells P 45) 45 Z2 (fun V0 a3=>StA 5 (Addr.mk U0 0 none) y a3 (fun b3=>StA 5 (Addr.mk V0 0 none) o0 b3 (fun c3=>f57_s12 g h i j e f k l m n c d (Addr.mk V0 0 none) (Addr.mk U0 0 none) o p q c3 K Y4 Y7)))))∧(NewC (zcells P 45) 45 T0 (fun W0 d3=>NewC (zcells P 45) 45 d3 (fun X0 e3=>StA 5 (Addr.mk X0 0 none) y e3 (fun f3=>StA 5 (Addr.mk W0 0 none) o0 f3 (fun g3=>f57_s12 g h i j e f k l m n c d (Addr.mk W0 0 none) (Addr.mk X0 0 none) o p q g3 K Y4 Y7)))))))∧(NewC (zcells P 45) 45 n0 (fun h0 Y0=>(CallL P 90 [(Value.agg u),(Value.int .i64 c)] Y0 (fun h3 i3=>∃ Z0:Array Value,h3=(Value.agg Z0)∧NewC (zcells P 45) 45 i3 (fun a1 j3=>StA 5 (Addr.mk h0 0 none) y j3 (fun l3=>StA 5 (Addr.mk a1 0 none) Z0 l3 (fun m3=>f57_s12 g h i j e f k l m n c d (Addr.mk a1 0 none) (Addr.mk h0 0 none) o p q m3 K Y4 Y7)))))∧(NewC (zcells P 45) 45 Y0 (fun b1 n3=>CallL P 90 [(Value.agg u),(Value.int .i64 c)] n3 (fun o3 p3=>∃ c1:Array Value,o3=(Value.agg c1)∧StA 5 (Addr.mk h0 0 none) y p3 (fun q3=>StA 5 (Addr.mk b1 0 none) c1 q3 (fun r3=>f57_s12 g h i j e f k l m n c d (Addr.mk b1 0 none) (Addr.mk h0 0 none) o p q r3 K Y4 Y7)))))))∧(NewC (zcells P 45) 45 n0 (fun i0 d1=>(CallL P 90 [(Value.agg u),(Value.int .i64 c)] d1 (fun s3 t3=>∃ e1:Array Value,s3=(Value.agg e1)∧NewC (zcells P 45) 45 t3 (fun f1 u3=>StA 5 (Addr.mk f1 0 none) y u3 (fun v3=>StA 5 (Addr.mk i0 0 none) e1 v3 (fun x3=>f57_s12 g h i j e f k l m n c d (Addr.mk i0 0 none) (Addr.mk f1 0 none) o p q x3 K Y4 Y7)))))∧(NewC (zcells P 45) 45 d1 (fun g1 y3=>CallL P 90 [(Value.agg u),(Value.int .i64 c)] y3 (fun z3 A3=>∃ h1:Array Value,z3=(Value.agg h1)∧StA 5 (Addr.mk g1 0 none) y A3 (fun B3=>StA 5 (Addr.mk i0 0 none) h1 B3 (fun C3=>f57_s12 g h i j e f k l m n c d (Addr.mk i0 0 none) (Addr.mk g1 0 none) o p q C3 K Y4 Y7)))))))))∧(NewC (zcells P 45) 45 w.drew (fun z i1=>(CallL P 90 [(Value.agg r),(Value.int .i64 d)] i1 (fun D3 j1=>∃ p0:Array Value,D3=(Value.agg p0)∧(CallL P 90 [(Value.agg u),(Value.int .i64 c)] j1 (fun E3 F3=>∃ l1:Array Value,E3=(Value.agg l1)∧NewC (zcells P 45) 45 F3 (fun m1 G3=>StA 5 (Addr.mk z 0 none) p0 G3 (fun H3=>StA 5 (Addr.mk m1 0 none) l1 H3 (fun I3=>f57_s12 g h i j e f k l m n c d (Addr.mk m1 0 none) (Addr.mk z 0 none) o p q I3 K Y4 Y7)))))∧(NewC (zcells P 45) 45 j1 (fun n1 J3=>CallL P 90 [(Value.agg u),(Value.int .i64 c)] J3 (fun L3 M3=>∃ o1:Array Value,L3=(Value.agg o1)∧StA 5 (Addr.mk z 0 none) p0 M3 (fun N3=>StA 5 (Addr.mk n1 0 none) o1 N3 (fun O3=>f57_s12 g h i j e f k l m n c d (Addr.mk n1 0 none) (Addr.mk z 0 none) o p q O3 K Y4 Y7)))))))∧(NewC (zcells P 45) 45 i1 (fun p1 Q3=>CallL P 90 [(Value.agg r),(Value.int .i64 d)] Q3 (fun R3 S3=>∃ q1:Array Value,R3=(Value.agg q1)∧CallL P 90 [(Value.agg u),(Value.int .i64 c)] S3 (fun T3 U3=>∃ r1:Array Value,T3=(Value.agg r1)∧StA 5 (Addr.mk z 0 none) q1 U3 (fun V3=>StA 5 (Addr.mk p1 0 none) r1 V3 (fun W3=>f57_s12 g h i j e f k l m n c d (Addr.mk p1 0 none) (Addr.mk z 0 none) o p q W3 K Y4 Y7))))))))∧(NewC (zcells P 45) 45 w.drew (fun a0 s1=>(CallL P 90 [(Value.agg r),(Value.int .i64 d)] s1 (fun X3 t1=>∃ q0:Array Value,X3=(Value.agg q0)∧(CallL P 90 [(Value.agg u),(Value.int .i64 c)] t1 (fun Y3 Z3=>∃ u1:Array Value,Y3=(Value.agg u1)∧NewC (zcells P 45) 45 Z3 (fun v1 a4=>StA 5 (Addr.mk v1 0 none) q0 a4 (fun b4=>StA 5 (Addr.mk a0 0 none) u1 b4 (fun c4=>f57_s12 g h i j e f k l m n c d (Addr.mk a0 0 none) (Addr.mk v1 0 none) o p q c4 K Y4 Y7)))))∧(NewC (zcells P 45) 45 t1 (fun x1 d4=>CallL P 90 [(Value.agg u),(Value.int .i64 c)] d4 (fun e4 f4=>∃ y1:Array Value,e4=(Value.agg y1)∧StA 5 (Addr.mk x1 0 none) q0 f4 (fun g4=>StA 5 (Addr.mk a0 0 none) y1 g4 (fun h4=>f57_s12 g h i j e f k l m n c d (Addr.mk a0 0 none) (Addr.mk x1 0 none) o p q h4 K Y4 Y7)))))))∧(NewC (zcells P 45) 45 s1 (fun z1 i4=>CallL P 90 [(Value.agg r),(Value.int .i64 d)] i4 (fun j4 l4=>∃ A1:Array Value,j4=(Value.agg A1)∧CallL P 90 [(Value.agg u),(Value.int .i64 c)] l4 (fun m4 n4=>∃ B1:Array Value,m4=(Value.agg B1)∧StA 5 (Addr.mk z1 0 none) A1 n4 (fun o4=>StA 5 (Addr.mk a0 0 none) B1 o4 (fun p4=>f57_s12 g h i j e f k l m n c d (Addr.mk a0 0 none) (Addr.mk z1 0 none) o p q p4 K Y4 Y7))))))))))∧(NewC (zcells P 45) 45 w.drew (fun s c0=>(CallL P 90 [(Value.agg r),(Value.int .i64 d)] c0 (fun q4 r0=>∃ s0:Array Value,q4=(Value.agg s0)∧LdA 6 (v.add (Int.toNat c * 6)) r0 (fun C1=>(CallL P 90 [(Value.agg C1),(Value.int .i64 c)] r0 (fun r4 s4=>∃ D1:Array Value,r4=(Value.agg D1)∧NewC (zcells P 45) 45 s4 (fun E1 t4=>StA 5 (Addr.mk s 0 none) s0 t4 (fun u4=>StA 5 (Addr.mk E1 0 none) D1 u4 (fun v4=>f57_s12 g h i j e f k l m n c d (Addr.mk E1 0 none) (Addr.mk s 0 none) o p q v4 K Y4 Y7)))))∧(NewC (zcells P 45) 45 r0 (fun F1 x4=>CallL P 90 [(Value.agg C1),(Value.int .i64 c)] x4 (fun y4 z4=>∃ G1:Array Value,y4=(Value.agg G1)∧StA 5 (Addr.mk s 0 none) s0 z4 (fun A4=>StA 5 (Addr.mk F1 0 none) G1 A4 (fun B4=>f57_s12 g h i j e f k l m n c d (Addr.mk F1 0 none) (Addr.mk s 0 none) o p q B4 K Y4 Y7))))))))∧(LdA 6 (v.add (Int.toNat c * 6)) c0 (fun t0=>(CallL P 90 [(Value.agg r),(Value.int .i64 d)] c0 (fun C4 H1=>∃ u0:Array Value,C4=(Value.agg u0)∧(CallL P 90 [(Value.agg t0),(Value.int .i64 c)] H1 (fun D4 E4=>∃ I1:Array Value,D4=(Value.agg I1)∧NewC (zcells P 45) 45 E4 (fun J1 F4=>StA 5 (Addr.mk s 0 none) u0 F4 (fun G4=>StA 5 (Addr.mk J1 0 none) I1 G4 (fun H4=>f57_s12 g h i j e f k l m n c d (Addr.mk J1 0 none) (Addr.mk s 0 none) o p q H4 K Y4 Y7)))))∧(NewC (zcells P 45) 45 H1 (fun L1 I4=>CallL P 90 [(Value.agg t0),(Value.int .i64 c)] I4 (fun J4 L4=>∃ M1:Array Value,J4=(Value.agg M1)∧StA 5 (Addr.mk s 0 none) u0 L4 (fun M4=>StA 5 (Addr.mk L1 0 none) M1 M4 (fun N4=>f57_s12 g h i j e f k l m n c d (Addr.mk L1 0 none) (Addr.mk s 0 none) o p q N4 K Y4 Y7)))))))∧(NewC (zcells P 45) 45 c0 (fun N1 O4=>CallL P 90 [(Value.agg r),(Value.int .i64 d)] O4 (fun Q4 R4=>∃ O1:Array Value,Q4=(Value.agg O1)∧CallL P 90 [(Value.agg t0),(Value.int .i64 c)] R4 (fun S4 T4=>∃ Q1:Array Value,S4=(Value.agg Q1)∧StA 5 (Addr.mk s 0 none) O1 T4 (fun U4=>StA 5 (Addr.mk N1 0 none) Q1 U4 (fun V4=>f57_s12 g h i j e f k l m n c d (Addr.mk N1 0 none) (Addr.mk s 0 none) o p q V4 K Y4 Y7))))))))∧(NewC (zcells P 45) 45 c0 (fun j0 v0=>(CallL P 90 [(Value.agg r),(Value.int .i64 d)] v0 (fun W4 R1=>∃ S1:Array Value,W4=(Value.agg S1)∧LdA 6 (v.add (Int.toNat c * 6)) R1 (fun X4=>CallL P 90 [(Value.agg X4),(Value.int .i64 c)] R1 (fun Z4 a5=>∃ T1:Array Value,Z4=(Value.agg T1)∧StA 5 (Addr.mk s 0 none) S1 a5 (fun b5=>StA 5 (Addr.mk j0 0 none) T1 b5 (fun c5=>f57_s12 g h i j e f k l m n c d (Addr.mk j0 0 none) (Addr.mk s 0 none) o p q c5 K Y4 Y7))))))∧(LdA 6 (v.add (Int.toNat c * 6)) v0 (fun d5=>CallL P 90 [(Value.agg r),(Value.int .i64 d)] v0 (fun e5 f5=>∃ U1:Array Value,e5=(Value.agg U1)∧CallL P 90 [(Value.agg d5),(Value.int .i64 c)] f5 (fun g5 h5=>∃ V1:Array Value,g5=(Value.agg V1)∧StA 5 (Addr.mk s 0 none) U1 h5 (fun i5=>StA 5 (Addr.mk j0 0 none) V1 i5 (fun j5=>f57_s12 g h i j e f k l m n c d (Addr.mk j0 0 none) (Addr.mk s 0 none) o p q j5 K Y4 Y7))))))))))∧(NewC (zcells P 45) 45 w.drew (fun t d0=>(CallL P 90 [(Value.agg r),(Value.int .i64 d)] d0 (fun l5 x0=>∃ y0:Array Value,l5=(Value.agg y0)∧LdA 6 (v.add (Int.toNat c * 6)) x0 (fun W1=>(CallL P 90 [(Value.agg W1),(Value.int .i64 c)] x0 (fun m5 n5=>∃ X1:Array Value,m5=(Value.agg X1)∧NewC (zcells P 45) 45 n5 (fun Y1 o5=>StA 5 (Addr.mk Y1 0 none) y0 o5 (fun p5=>StA 5 (Addr.mk t 0 none) X1 p5 (fun q5=>f57_s12 g h i j e f k l m n c d (Addr.mk t 0 none) (Addr.mk Y1 0 none) o p q q5 K Y4 Y7)))))∧(NewC (zcells P 45) 45 x0 (fun Z1 r5=>CallL P 90 [(Value.agg W1),(Value.int .i64 c)] r5 (fun s5 t5=>∃ a2:Array Value,s5=(Value.agg a2)∧StA 5 (Addr.mk Z1 0 none) y0 t5 (fun u5=>StA 5 (Addr.mk t 0 none) a2 u5 (fun v5=>f57_s12 g h i j e f k l m n c d (Addr.mk t 0 none) (Addr.mk Z1 0 none) o p q v5 K Y4 Y7))))))))∧(LdA 6 (v.add (Int.toNat c * 6)) d0 (fun z0=>(CallL P 90 [(Value.agg r),(Value.int .i64 d)] d0 (fun x5 b2=>∃ A0:Array Value,x5=(Value.agg A0)∧(CallL P 90 [(Value.agg z0),(Value.int .i64 c)] b2 (fun y5 z5=>∃ c2:Array Value,y5=(Value.agg c2)∧NewC (zcells P 45) 45 z5 (fun d2 A5=>StA 5 (Addr.mk d2 0 none) A0 A5 (fun B5=>StA 5 (Addr.mk t 0 none) c2 B5 (fun C5=>f57_s12 g h i j e f k l m n c d (Addr.mk t 0 none) (Addr.mk d2 0 none) o p q C5 K Y4 Y7)))))∧(NewC (zcells P 45) 45 b2 (fun e2 D5=>CallL P 90 [(Value.agg z0),(Value.int .i64 c)] D5 (fun E5 F5=>∃ f2:Array Value,E5=(Value.agg f2)∧StA 5 (Addr.mk e2 0 none) A0 F5 (fun G5=>StA 5 (Addr.mk t 0 none) f2 G5 (fun H5=>f57_s12 g h i j e f k l m n c d (Addr.mk t 0 none) (Addr.mk e2 0 none) o p q H5 K Y4 Y7)))))))∧(NewC (zcells P 45) 45 d0 (fun g2 I5=>CallL P 90 [(Value.agg r),(Value.int .i64 d)] I5 (fun J5 L5=>∃ h2:Array Value,J5=(Value.agg h2)∧CallL P 90 [(Value.agg z0),(Value.int .i64 c)] L5 (fun M5 N5=>∃ i2:Array Value,M5=(Value.agg i2)∧StA 5 (Addr.mk g2 0 none) h2 N5 (fun O5=>StA 5 (Addr.mk t 0 none) i2 O5 (fun Q5=>f57_s12 g h i j e f k l m n c d (Addr.mk t 0 none) (Addr.mk g2 0 none) o p q Q5 K Y4 Y7))))))))∧(NewC (zcells P 45) 45 d0 (fun l0 B0=>(CallL P 90 [(Value.agg r),(Value.int .i64 d)] B0 (fun R5 j2=>∃ l2:Array Value,R5=(Value.agg l2)∧LdA 6 (v.add (Int.toNat c * 6)) j2 (fun S5=>CallL P 90 [(Value.agg S5),(Value.int .i64 c)] j2 (fun T5 U5=>∃ m2:Array Value,T5=(Value.agg m2)∧StA 5 (Addr.mk l0 0 none) l2 U5 (fun V5=>StA 5 (Addr.mk t 0 none) m2 V5 (fun W5=>f57_s12 g h i j e f k l m n c d (Addr.mk t 0 none) (Addr.mk l0 0 none) o p q W5 K Y4 Y7))))))∧(LdA 6 (v.add (Int.toNat c * 6)) B0 (fun X5=>CallL P 90 [(Value.agg r),(Value.int .i64 d)] B0 (fun Y5 Z5=>∃ n2:Array Value,Y5=(Value.agg n2)∧CallL P 90 [(Value.agg X5),(Value.int .i64 c)] Z5 (fun a6 b6=>∃ o2:Array Value,a6=(Value.agg o2)∧StA 5 (Addr.mk l0 0 none) n2 b6 (fun c6=>StA 5 (Addr.mk t 0 none) o2 c6 (fun d6=>f57_s12 g h i j e f k l m n c d (Addr.mk t 0 none) (Addr.mk l0 0 none) o p q d6 K Y4 Y7)))))))))))))):=Eq.trans (b:=CS P (cA c57 119369) none [6,7,2,0,1,8,9] [6,7,2,0,1,8,9] (f57_k14 K Y4 Y7) (Env.mk 72 [(6,(VS g h i)),(2,(Value.int .u32 j)),(0,(VS e f k)),(1,(VS l m n)),(8,(VI c)),(9,(VI d)),(7,(VS o p q))] []) w) (by kernel_rfl) (Eq.trans (CSs (cA c57 238738) (cA c57 238739) [6,2,0,1,8,9,11,10,7] (f57_k17 K Y4 Y7) (by kernel_rfl) (by kernel_rfl) (by kernel_rfl)) (by kernel_rfl))
theorem f57_s9_eq (q:Bool) (a:Option Addr) (c d:Nat) (e:Option Addr) (f g:Nat) (h:Int) (i:Option Addr) (j k:Nat) (l:Option Addr) (m n:Nat) (o p:Int) (w:World) (K:KT) (Y4 Y7:YT):f57_s9 q a c d e f g h i j k l m n o p w K Y4 Y7=(BIf q (f57_s10 a c d e f g h i j k l m n o p w K Y4 Y7) (f57_s11 a c d h i j k l m n o p e f g w K Y4 Y7)):=Eq.trans (b:=CS P (cA c57 238737) none [6,2,0,1,8,9,7] [6,7,2,0,1,8,9] (f57_k15 K Y4 Y7) (Env.mk 72 [(48,(VB q)),(6,(VS a c d)),(7,(VS e f g)),(2,(Value.int .u32 h)),(0,(VS i j k)),(1,(VS l m n)),(8,(VI o)),(9,(VI p))] []) w) (by kernel_rfl) (by kernel_rfl)
theorem f57_s8_eq (j:Option Addr) (k l:Nat) (m:Option Addr) (n o:Nat) (e:Int) (f:Option Addr) (g p:Nat) (h:Option Addr) (i q:Nat) (c d:Int) (w:World) (K:KT) (Y4 Y7:YT):f57_s8 j k l m n o e f g p h i q c d w K Y4 Y7=(optS f (fun z=>0≤(d:Int)∧(d:Int) < (g:Nat)∧LdA 6 (z.add (Int.toNat d * 6)) w (fun a0=>CallL P 89 [(Value.agg a0),(Value.int .u32 e)] w (fun b0 s=>∃ t:Bool,b0=(Value.bool t)∧BIf (!t) (f57_s9 true j k l m n o e f g p h i q c d s K Y4 Y7) (optS f (fun c0=>0≤(c:Int)∧(c:Int) < (g:Nat)∧LdA 6 (c0.add (Int.toNat c * 6)) s (fun d0=>CallL P 89 [(Value.agg d0),(Value.int .u32 e)] s (fun e0 r=>∃ u:Bool,e0=(Value.bool u)∧BIf (!u) (f57_s9 true j k l m n o e f g p h i q c d r K Y4 Y7) (optS h (fun f0=>0≤(d:Int)∧(d:Int) < (i:Nat)∧∃ (v:Option Addr) (x g0:Nat),r.cell? (f0.add (Int.toNat d * 1))=some (Value.slice v x g0)∧optS v (fun h0=>0≤(c:Int)∧(c:Int) < (x:Nat)∧∃ y:Bool,r.cell? (h0.add (Int.toNat c * 1))=some (Value.bool y)∧f57_s9 y j k l m n o e f g p h i q c d r K Y4 Y7))))))))))):=Eq.trans (b:=CS P (cA c57 14921) none [6,7,2,0,1,8,9] [6,7,2,0,1,8] (f57_kl7 K Y4 Y7) (Env.mk 72 [(6,(VS j k l)),(7,(VS m n o)),(2,(Value.int .u32 e)),(0,(VS f g p)),(1,(VS h i q)),(8,(VI c)),(9,(VI d))] []) w) (by kernel_rfl) (Eq.trans (CSs (cA c57 29842) (cA c57 29843) [6,7,2,0,1,8,9] (f57_k13 K Y4 Y7) (by kernel_rfl) (by kernel_rfl) (by kernel_rfl)) (Eq.trans (CSb 3 (cA c57 59684) [6,7,2,0,1,8,9] (f57_k14 K Y4 Y7) (by kernel_rfl) (by kernel_rfl) (by kernel_rfl)) (Eq.trans (CSs (cA c57 119368) (cA c57 119369) [6,2,0,1,8,9,7] (f57_k15 K Y4 Y7) (by kernel_rfl) (by kernel_rfl) (by kernel_rfl)) (Eq.trans (CSs (cA c57 238736) (cA c57 238737) [48,6,7,2,0,1,8,9] (f57_k16 K Y4 Y7) (by kernel_rfl) (by kernel_rfl) (by kernel_rfl)) (by kernel_rfl)))))
def f57_s13 (a:Option Addr) (b c:Nat) (d:Option Addr) (f g:Nat) (h:Int) (i:Option Addr) (j k:Nat) (l:Option Addr) (m n:Nat) (o:Int) (w:World) (K:KT) (Y4:YT):Prop:=Join (fun e w=>CS P (cA c57 467) none [6,7,8,2,0,1] [6,7] (f57_kl4 K Y4) e w) (Env.mk 72 [(6,(VS a b c)),(7,(VS d f g)),(2,(Value.int .u32 h)),(0,(VS i j k)),(1,(VS l m n)),(8,(VI o))] []) w
theorem f57_s13_eq (a:Option Addr) (c d:Nat) (e:Option Addr) (f g:Nat) (h:Int) (i:Option Addr) (j k:Nat) (l:Option Addr) (m n:Nat) (o:Int) (w:World) (K:KT) (Y4:YT):f57_s13 a c d e f g h i j k l m n o w K Y4=(Y4 (Env.mk 72 [(6,(Value.slice a c d)),(7,(Value.slice e f g)),(8,(Value.int .i64 (IntKind.wrap .i64 ((o:Int)+1)))),(2,(Value.int .u32 h)),(0,(Value.slice i j k)),(1,(Value.slice l m n))] []) w):=Eq.trans (b:=CS P (cA c57 467) none [6,7,8,2,0,1] [6,7] (f57_kl4 K Y4) (Env.mk 72 [(6,(VS a c d)),(7,(VS e f g)),(2,(Value.int .u32 h)),(0,(VS i j k)),(1,(VS l m n)),(8,(VI o))] []) w) (by kernel_rfl) (by kernel_rfl)
theorem f57_lb7_eq (d:Option Addr) (e f:Nat) (g:Option Addr) (h i:Nat) (j:Int) (k:Option Addr) (l m:Nat) (n:Option Addr) (o p:Nat) (c q:Int) (w:World) (K:KT) (Y4 Y7:YT):f57_lb7 d e f g h i j k l m n o p c q w K Y4 Y7=(BIf (decide ((q:Int) < c)) (f57_s8 d e f g h i j k l m n o p c q w K Y4 Y7) (f57_s13 d e f g h i j k l m n o p c w K Y4)):=Eq.trans (b:=CS P (cA c57 7460) none [6,7,2,0,1,8,9] [6,7,2,0,1,8] (f57_kl7 K Y4 Y7) (Env.mk 72 [(6,(VS d e f)),(7,(VS g h i)),(2,(Value.int .u32 j)),(0,(VS k l m)),(1,(VS n o p)),(8,(VI c)),(9,(VI q))] []) w) (by kernel_rfl) (Eq.trans (CSs (cA c57 14920) (cA c57 14921) [6,7,2,0,1,8,9] (f57_k11 K Y4 Y7) (by kernel_rfl) (by kernel_rfl) (by kernel_rfl)) (Eq.trans (CSs (cA c57 29840) (cA c57 29841) [21,6,7,2,0,1,8,9] (f57_k12 K Y4 Y7) (by kernel_rfl) (by kernel_rfl) (by kernel_rfl)) (by kernel_rfl)))
theorem f57_s6_eq (a:Int) (c:Option Addr) (d e:Nat) (f:Option Addr) (g h:Nat) (i:Int) (j:Option Addr) (k l:Nat) (m:Option Addr) (n o:Nat) (p:Int) (w:World) (K:KT) (Y4:YT):f57_s6 a c d e f g h i j k l m n o p w K Y4=(LoopE (f57_lp7 K Y4) (Env.mk 72 [(6,(Value.slice c d e)),(7,(Value.slice f g h)),(2,(Value.int .u32 i)),(0,(Value.slice j k l)),(1,(Value.slice m n o)),(8,(Value.int .i64 p)),(9,(Value.int .i64 a))] []) w):=Eq.trans (b:=CS P (cA c57 1865) none [6,7,2,0,1,8] [6,7,2,0,1,8] (f57_k8 K Y4) (Env.mk 72 [(9,(VI a)),(6,(VS c d e)),(7,(VS f g h)),(2,(Value.int .u32 i)),(0,(VS j k l)),(1,(VS m n o)),(8,(VI p))] []) w) (by kernel_rfl) (Eq.trans (CSb 2 (cA c57 3730) [6,7,2,0,1,8] (f57_k10 K Y4) (by kernel_rfl) (by kernel_rfl) (by kernel_rfl)) ((CS_loop' (b:=(cA c57 7460)) (X':=[6,7,2,0,1,8]) (H:=[6,7,2,0,1,8,9]) (by kernel_rfl) (by kernel_rfl) (by kernel_rfl)).trans (by kernel_rfl)))
theorem f57_s5_eq (c:Option Addr) (d e:Nat) (f:Option Addr) (g h:Nat) (i:Int) (j:Option Addr) (k l:Nat) (m:Option Addr) (n o:Nat) (p:Int) (w:World) (K:KT) (Y4:YT):f57_s5 c d e f g h i j k l m n o p w K Y4=(f57_s6 0 c d e f g h i j k l m n o p w K Y4):=Eq.trans (b:=CS P (cA c57 233) none [6,7,8,2,0,1] [6,7] (f57_kl4 K Y4) (Env.mk 72 [(6,(VS c d e)),(7,(VS f g h)),(2,(Value.int .u32 i)),(0,(VS j k l)),(1,(VS m n o)),(8,(VI p))] []) w) (by kernel_rfl) (Eq.trans (CSs (cA c57 466) (cA c57 467) [6,7,2,0,1,8] (f57_k7 K Y4) (by kernel_rfl) (by kernel_rfl) (by kernel_rfl)) (Eq.trans (CSb 1 (cA c57 932) [6,7,2,0,1,8] (f57_k8 K Y4) (by kernel_rfl) (by kernel_rfl) (by kernel_rfl)) (Eq.trans (CSs (cA c57 1864) (cA c57 1865) [6,7,2,0,1,8,9] (f57_k9 K Y4) (by kernel_rfl) (by kernel_rfl) (by kernel_rfl)) (by kernel_rfl))))
def f57_s14 (a:Option Addr) (b c:Nat) (w:World) (K:KT):Prop:=Join (fun e w=>CS P (cA c57 15) none [6] [6] (f57_kb K) e w) (Env.mk 72 [(7,(VS a b c))] []) w
abbrev f57_k19 (K:KT):Exit→YT:=kseq P (cA c57 30) (cA c57 31) none [6] [6] (f57_kb K)
theorem f57_s14_eq (c:Option Addr) (d e:Nat) (w:World) (K:KT):f57_s14 c d e w K=(K (Value.slice c d e) w):=Eq.trans (b:=CS P (cA c57 15) none [6] [6] (f57_kb K) (Env.mk 72 [(7,(VS c d e))] []) w) (by kernel_rfl) (Eq.trans (CSs (cA c57 30) (cA c57 31) [6] (f57_k19 K) (by kernel_rfl) (by kernel_rfl) (by kernel_rfl)) (by kernel_rfl))
theorem f57_lb4_eq (j:Option Addr) (k l:Nat) (c:Option Addr) (d e:Nat) (f m:Int) (g:Option Addr) (h i:Nat) (n:Option Addr) (o p:Nat) (w:World) (K:KT) (Y4:YT):f57_lb4 j k l c d e f m g h i n o p w K Y4=(∃ q:Int,(∀ wq,Ext w wq→(Builtin.len_ #[22] 3 [(Value.slice g h i)].toArray).run P wq=.ok (Value.int .i64 q) wq)∧BIf (decide ((f:Int) < q)) (f57_s5 j k l c d e m g h i n o p f w K Y4) (f57_s14 c d e w K)):=Eq.trans (b:=CS P (cA c57 116) none [6,7,8,2,0,1] [6,7] (f57_kl4 K Y4) (Env.mk 72 [(6,(VS j k l)),(7,(VS c d e)),(8,(VI f)),(2,(Value.int .u32 m)),(0,(VS g h i)),(1,(VS n o p))] []) w) (by kernel_rfl) (Eq.trans (CSs (cA c57 232) (cA c57 233) [6,7,2,0,1,8] (f57_k5 K Y4) (by kernel_rfl) (by kernel_rfl) (by kernel_rfl)) (Eq.trans (CSs (cA c57 464) (cA c57 465) [16,6,7,2,0,1,8] (f57_k6 K Y4) (by kernel_rfl) (by kernel_rfl) (by kernel_rfl)) (by kernel_rfl)))
theorem f57_s3_eq (a:Int) (c:Option Addr) (d e:Nat) (p:Option Addr) (q r:Nat) (f:Option Addr) (g h:Nat) (i:Option Addr) (j k:Nat) (l:Option Addr) (m n:Nat) (o:Int) (w:World) (K:KT):f57_s3 a c d e p q r f g h i j k l m n o w K=(LoopE (f57_lp4 K) (Env.mk 72 [(6,(Value.slice f g h)),(7,(Value.slice c d e)),(8,(Value.int .i64 a)),(2,(Value.int .u32 o)),(0,(Value.slice i j k)),(1,(Value.slice l m n))] []) w):=Eq.trans (b:=CS P (cA c57 29) none [7] [6] (f57_k2 K) (Env.mk 72 [(8,(VI a)),(7,(VS c d e)),(12,(VS p q r)),(6,(VS f g h)),(0,(VS i j k)),(1,(VS l m n)),(2,(Value.int .u32 o))] []) w) (by kernel_rfl) (Eq.trans (CSb 0 (cA c57 58) [6,7] (f57_k4 K) (by kernel_rfl) (by kernel_rfl) (by kernel_rfl)) ((CS_loop' (b:=(cA c57 116)) (X':=[6,7]) (H:=[6,7,8,2,0,1]) (by kernel_rfl) (by kernel_rfl) (by kernel_rfl)).trans (by kernel_rfl)))
theorem f57_s2_eq (c:Option Addr) (d e:Nat) (f:Option Addr) (g h:Nat) (i:Option Addr) (j k:Nat) (l:Option Addr) (m n:Nat) (o:Option Addr) (p q:Nat) (r:Int) (w:World) (K:KT):f57_s2 c d e f g h i j k l m n o p q r w K=(f57_s3 0 c d e f g h i j k l m n o p q r w K):=Eq.trans (b:=CS P (cA c57 7) none [6] [6] (f57_kb K) (Env.mk 72 [(7,(VS c d e)),(12,(VS f g h)),(6,(VS i j k)),(0,(VS l m n)),(1,(VS o p q)),(2,(Value.int .u32 r))] []) w) (by kernel_rfl) (Eq.trans (CSs (cA c57 14) (cA c57 15) [7] (f57_k2 K) (by kernel_rfl) (by kernel_rfl) (by kernel_rfl)) (Eq.trans (CSs (cA c57 28) (cA c57 29) [6,7,8,2,0,1] (f57_k3 K) (by kernel_rfl) (by kernel_rfl) (by kernel_rfl)) (by kernel_rfl)))
theorem f57_s1_eq (c:Option Addr) (d e:Nat) (f:Option Addr) (g h:Nat) (i:Option Addr) (j k:Nat) (l:Int) (w:World) (K:KT):f57_s1 c d e f g h i j k l w K=(∃ (m:Option Addr) (n o:Nat),∃ p:World,(Instr.buildSlice 25 0 ([]:List (Nat × Value)).toArray).run P w=.ok (Value.slice m n o) p∧f57_s2 m n o m n o c d e f g h i j k l p K):=Eq.trans (b:=CS P (cA c57 3) none [6] [6] (f57_kb K) (Env.mk 72 [(6,(VS c d e)),(0,(VS f g h)),(1,(VS i j k)),(2,(Value.int .u32 l))] []) w) (by kernel_rfl) (Eq.trans (CSs (cA c57 6) (cA c57 7) [6,7,2,0,1] (f57_k1 K) (by kernel_rfl) (by kernel_rfl) (by kernel_rfl)) (by kernel_rfl))
theorem f57_s0_eq (c:Option Addr) (d e:Nat) (f:Option Addr) (g h:Nat) (i:Int) (w:World) (K:KT):f57_s0 c d e f g h i w K=(f57_s1 none 0 0 c d e f g h i w K):=Eq.trans (b:=CS P (cA c57 1) none [6] [6] (f57_kb K) (Env.mk 72 [(0,(VS c d e)),(1,(VS f g h)),(2,(Value.int .u32 i))] []) w) (by kernel_rfl) (Eq.trans (CSs (cA c57 2) (cA c57 3) [6,2,0,1] (f57_k0 K) (by kernel_rfl) (by kernel_rfl) (by kernel_rfl)) (by kernel_rfl))
theorem f57_eq (a:Option Addr) (b c:Nat) (d:Option Addr) (e f:Nat) (g:Int) (w:World) (K:KT):f57 a b c d e f g w K=(f57_s0 a b c d e f g w K):=by kernel_rfl
theorem c57_eq:Go.Proofs.Try.f57.body=some c57:=by kernel_rfl
theorem f57_un (a:Option Addr) (b c:Nat) (d:Option Addr) (e f:Nat) (g:Int) (w:World) (K:KT):f57 a b c d e f g w K=CS P c57 none (resT Go.Proofs.Try.f57.results.toList) (resT Go.Proofs.Try.f57.results.toList) (bodyK P Go.Proofs.Try.f57.results.toList K) (env0 Go.Proofs.Try.f57.ntmps [(Value.slice a b c),(Value.slice d e f),(Value.int .u32 g)]) w:=by kernel_rfl
theorem f57_ok (a:Option Addr) (b c:Nat) (d:Option Addr) (e f:Nat) (g:Int) (w:World) (K:KT) (h:f57 a b c d e f g w K):CallL P 57 [(Value.slice a b c),(Value.slice d e f),(Value.int .u32 g)] w K:=calls_of_CS Go.Proofs.Try.func57 c57_eq (Eq.mp (f57_un a b c d e f g w K) h)
noncomputable def c33:Code:=match Go.Proofs.Try.f33.body with
 | some c=>c
 | none=>.skip
noncomputable def rs33:List ResultVar:=Go.Proofs.Try.f33.results.toList
abbrev f33_kb (K:KT):Exit→YT:=bodyK P rs33 K
def f33 (a:Option Addr) (b c:Nat) (d:Int) (w:World) (K:KT):Prop:=CS P c33 none [4,5] [4,5] (f33_kb K) (env0 23 [(VS a b c),(Value.int .u32 d)]) w
def f33_s0 (a:Int) (b:Option Addr) (c d:Nat) (w:World) (K:KT):Prop:=Join (fun e w=>CS P (cA c33 7) none [4,5] [4,5] (f33_kb K) e w) (Env.mk 23 [(1,(Value.int .u32 a)),(0,(VS b c d))] []) w
abbrev f33_k5 (K:KT):Exit→YT:=kseq P (cA c33 14) (cA c33 15) none [4,5] [4,5] (f33_kb K)
def f33_s1 (a:Option Addr) (b c:Nat) (w:World) (K:KT):Prop:=Join (fun e w=>CS P (cA c33 31) none [4,5] [4,5] (f33_kb K) e w) (Env.mk 23 [(7,(VS a b c))] []) w
abbrev f33_k9 (K:KT):Exit→YT:=kseq P (cA c33 62) (cA c33 63) none [4,5] [4,5] (f33_kb K)
theorem f33_s1_eq (c:Option Addr) (d e:Nat) (w:World) (K:KT):f33_s1 c d e w K=(K (Value.tuple [(Value.slice c d e),(Value.int .i64 0)].toArray) w):=Eq.trans (b:=CS P (cA c33 31) none [4,5] [4,5] (f33_kb K) (Env.mk 23 [(7,(VS c d e))] []) w) (by kernel_rfl) (Eq.trans (CSs (cA c33 62) (cA c33 63) [4,5] (f33_k9 K) (by kernel_rfl) (by kernel_rfl) (by kernel_rfl)) (by kernel_rfl))
theorem f33_s0_eq (f:Int) (c:Option Addr) (d e:Nat) (w:World) (K:KT):f33_s0 f c d e w K=(CallL P 56 [(Value.slice c d e)] w (fun o p=>∃ (k:Option Addr) (l m:Nat),o=(Value.slice k l m)∧CallL P 57 [(Value.slice c d e),(Value.slice k l m),(Value.int .u32 f)] p (fun q g=>∃ (h:Option Addr) (i j:Nat),q=(Value.slice h i j)∧∃ n:Int,(∀ wq,Ext g wq→(Builtin.len_ #[25] 3 [(Value.slice h i j)].toArray).run P wq=.ok (Value.int .i64 n) wq)∧BIf (decide ((n:Int) > 1000)) (K (Value.tuple [(Value.slice none 0 0),(Value.int .i64 2)].toArray) g) (f33_s1 h i j g K)))):=Eq.trans (b:=CS P (cA c33 7) none [4,5] [4,5] (f33_kb K) (Env.mk 23 [(1,(Value.int .u32 f)),(0,(VS c d e))] []) w) (by kernel_rfl) (Eq.trans (CSs (cA c33 14) (cA c33 15) [7] (f33_k5 K) (by kernel_rfl) (by kernel_rfl) (by kernel_rfl)) (by kernel_rfl))
theorem f33_eq (a:Option Addr) (b c:Nat) (e:Int) (w:World) (K:KT):f33 a b c e w K=(CallL P 60 [(Value.slice a b c)] w (fun h f=>∃ g:Array Value,h=(Value.agg g)∧∃ d:Int,g[19]?=some (Value.int .i64 d)∧BIf ((d:Int) != 0) (K (Value.tuple [(Value.slice none 0 0),(Value.int .i64 d)].toArray) f) (f33_s0 e a b c f K))):=by kernel_rfl
theorem c33_eq:Go.Proofs.Try.f33.body=some c33:=by kernel_rfl
theorem f33_un (a:Option Addr) (b c:Nat) (d:Int) (w:World) (K:KT):f33 a b c d w K=CS P c33 none (resT Go.Proofs.Try.f33.results.toList) (resT Go.Proofs.Try.f33.results.toList) (bodyK P Go.Proofs.Try.f33.results.toList K) (env0 Go.Proofs.Try.f33.ntmps [(Value.slice a b c),(Value.int .u32 d)]) w:=by kernel_rfl
theorem f33_ok (a:Option Addr) (b c:Nat) (d:Int) (w:World) (K:KT) (h:f33 a b c d w K):CallL P 33 [(Value.slice a b c),(Value.int .u32 d)] w K:=calls_of_CS Go.Proofs.Try.func33 c33_eq (Eq.mp (f33_un a b c d w K) h)
end Go.Fx.Try
namespace Go.Fx.Mo
def aIn (L:List Ord) (k:Nat):Nat→Nat→List Bool × List Bool→List Bool × List Bool
 | 0,_,s=>s
 | m+1,j,s=>aIn L k m (j+1) (if direct (L.getD k default) (L.getD j default) then (s.1.set j true,s.2.set j true) else s)
def aOut (L:List Ord):Nat→Nat→List Bool × List Bool→List Bool × List Bool
 | 0,_,s=>s
 | m+1,k,s=>aOut L m (k+1) (if s.2.getD k false then aIn L k (L.length - (k+1)) (k+1) s else s)
def after29 (L:List Ord) (i:Nat):List Bool:=(aOut L (L.length - i) i (List.replicate L.length false,(List.replicate L.length false).set i true)).1
end Go.Fx.Mo
namespace Go.Fx.Try
open Go Go.Fx Go.Fx.Mo
open Go.Proofs
variable {w0 w:World} {H Y:List (Nat × Obj)} {K:Value→World→Prop}
set_option maxRecDepth 20000
theorem ord_at {L:List Ord} {i:Nat} (hi:i < L.length):((ords L).drop (i * 4)).take 4=Ordcs L[i]:=flat_slice (f:=Ordcs) (fun _ _=>rfl) hi
theorem info4:P.info? 4=some Try.t4:=by kernel_rfl
theorem made_false (n:Nat):madeCells (Value.bool false).cells n=(List.replicate n (Value.bool false)).toArray:=by
 apply Array.ext
 ·simp [madeCells]
 ·intro i h1 h2
  simp [madeCells,Value.cells,Nat.mod_one]
theorem new_flags (h:St w0 w H) {n:Nat} (hn:n≤1000000):∃ g,w0.heap.size≤g∧(Instr.makeSlice 66 (.int .i64 (n:Nat)) (.int .i64 (n:Nat))).run P w=.ok (.slice (some ⟨g,0,none⟩) n n) (w.alloc (Cs ((List.replicate n false).map .bool) 4))∧
  St w0 (w.alloc (Cs ((List.replicate n false).map .bool) 4)) ((g,Cs ((List.replicate n false).map .bool) 4)::H):=by
 refine ⟨w.heap.size,h.le,?_,h.alloc _⟩
 have hr:=run_make (P:=P) w 66 4 Try.t4 (.bool false) Try.underlying66 info4 rfl .i64 .i64 n n (by omega) (by omega) (by show ((1:Nat):Int) * _≤_; omega) (by omega)
 simp only [Int.toNat_natCast] at hr
 rw [hr,show Try.t4.size=1 from rfl,Nat.mul_one,made_false]
 rw [List.map_replicate]
 rfl
theorem aIn_len (L:List Ord) (k:Nat):∀ (m j:Nat) (s:List Bool × List Bool),(aIn L k m j s).1.length=s.1.length∧(aIn L k m j s).2.length=s.2.length
 | 0,_,_=>⟨rfl,rfl⟩
 | m+1,j,s=>by
  unfold aIn
  obtain ⟨h1,h2⟩:=aIn_len L k m (j+1) (if direct (L.getD k default) (L.getD j default) then (s.1.set j true,s.2.set j true) else s)
  rw [h1,h2]
  split <;> simp
theorem flag_at {l:List Bool} {i:Nat} (hi:i < l.length):(l.map Value.bool)[i]?=some (.bool (l.getD i false)):=by
 rw [List.getElem?_map,List.getElem?_eq_getElem hi]
 simp [List.getD,hi]
theorem set_flag (l:List Bool) (i:Nat):(l.map Value.bool).set i (.bool true)=(l.set i true).map Value.bool:=by rw [List.map_set]
theorem after29_ok {L:List Ord} {lv:Value} {i:Nat} (h:St w0 w H) (hrow:∀ w',St w0 w' H→Row w' 4 lv L.length (ords L)) (hn:L.length≤1000000) (hi:i < L.length)
  (hK:∀ w' g,w0.heap.size≤g→(after29 L i).length=L.length→St w0 w' ((g,Cs ((after29 L i).map .bool) 4)::H)→K (.slice (some ⟨g,0,none⟩) L.length L.length) w'):CallL P 108 [lv,.int .i64 i] w K:=by
 obtain ⟨la,lc,hlv⟩:=(hrow w h).form
 rw [hlv]
 refine f108_ok _ _ _ _ _ _ ?_
 rw [f108_eq,f108_s0_eq,f108_s1_eq]
 refine ⟨L.length,fun wq _=>run_len_57 wq,?_⟩
 obtain ⟨go,hgo,hr1,g1⟩:=new_flags h hn
 refine ⟨_,_,_,_,hr1,?_⟩
 rw [f108_s2_eq]
 refine ⟨L.length,fun wq _=>run_len_57 wq,?_⟩
 obtain ⟨gr,hgr,hr2,g2⟩:=new_flags g1 hn
 refine ⟨_,_,_,_,hr2,?_⟩
 rw [f108_s3_eq]
 refine ⟨by omega,by omega,?_⟩
 have ad:∀ (g j:Nat),(Addr.mk g 0 none).add (Int.toNat (j:Int) * 1)=Addr.mk g j none:=fun g j=>by rw [add_lit',Nat.zero_add,Int.toNat_natCast,Nat.mul_one]
 rw [ad]
 refine g2.st1 (k:=0) rfl (by simpa using hi) rfl fun w3 g3=>?_
 have g3:St w0 w3 ((gr,Cs (((List.replicate L.length false).map Value.bool).set i (.bool true)) 4)::(go,Cs ((List.replicate L.length false).map Value.bool) 4)::H):=g3
 rw [set_flag] at g3
 rw [f108_s4_eq,f108_s5_eq]
 refine ⟨fun m ee w=>∃ (k:Nat) (s:List Bool × List Bool),k≤L.length∧m=L.length - k∧ee=Env.mk 54 [(4,nilS),(5,.slice (some ⟨go,0,none⟩) L.length L.length),(7,I64 (k:Nat)),(6,.slice (some ⟨gr,0,none⟩) L.length L.length),(0,.slice la L.length lc)] []∧
   s.1.length=L.length∧s.2.length=L.length∧(aOut L (L.length - k) k s).1=after29 L i∧St w0 w ((gr,Cs (s.2.map .bool) 4)::(go,Cs (s.1.map .bool) 4)::H),
  ⟨L.length - i,i,(List.replicate L.length false,(List.replicate L.length false).set i true),by omega,rfl,rfl,by simp,by simp,rfl,g3⟩,?_⟩
 rintro m ee w4 ⟨k,s,hk,rfl,rfl,hs1,hs2,hfin,hw⟩
 show f108_lb6 _ _ _ _ _ _ _ _ _ _ _ _ _ _ _ _
 rw [f108_lb6_eq]
 refine ⟨L.length,fun wq _=>run_len_57 wq,?_⟩
 rw [BIf_iff]
 constructor
 ·intro hlt
  have hlt:k < L.length:=by simpa using hlt
  rw [f108_s7_eq]
  refine ⟨by omega,by omega,s.2.getD k false,by rw [ad,hw.cell (k:=0) rfl]; exact flag_at (by omega),?_⟩
  rw [show L.length - k=(L.length - (k+1))+1 by omega,aOut] at hfin
  generalize hY:(fun e' w'=>∃ m,m < L.length - k∧∃ (k:Nat) (s:List Bool × List Bool),k≤L.length∧m=L.length - k∧e'=Env.mk 54 [(4,nilS),(5,.slice (some ⟨go,0,none⟩) L.length L.length),(7,I64 (k:Nat)),(6,.slice (some ⟨gr,0,none⟩) L.length L.length),(0,.slice la L.length lc)] []∧
   s.1.length=L.length∧s.2.length=L.length∧(aOut L (L.length - k) k s).1=after29 L i∧St w0 w' ((gr,Cs (s.2.map .bool) 4)::(go,Cs (s.1.map .bool) 4)::H))=Y
  have wr:∀ j:Nat,j < L.length→IntKind.wrap .i64 ((j:Int)+1)=((j+1:Nat):Int):=fun j hj=>by rw [wrap_i64 (by omega) (by omega)]; rfl
  have next:∀ w5 (s':List Bool × List Bool),s'.1.length=L.length→s'.2.length=L.length→(aOut L (L.length - (k+1)) (k+1) s').1=after29 L i→St w0 w5 ((gr,Cs (s'.2.map .bool) 4)::(go,Cs (s'.1.map .bool) 4)::H)→
    f108_s8 none 0 0 (some ⟨go,0,none⟩) L.length L.length (some ⟨gr,0,none⟩) L.length L.length la L.length lc (k:Nat) w5 K Y:=by
   intro w5 s' h1 h2 h3 h5
   rw [f108_s8_eq,← hY,wr k hlt]
   exact ⟨L.length - (k+1),by omega,k+1,s',by omega,rfl,rfl,h1,h2,h3,h5⟩
  cases hb:s.2.getD k false
  ·rw [Bool.not_false,BIf_true]
   rw [hb,if_neg (by decide)] at hfin
   exact next w4 s hs1 hs2 hfin hw
  ·rw [Bool.not_true,BIf_false,f108_s9_eq,wr k hlt,f108_s10_eq]
   rw [hb,if_pos rfl] at hfin
   refine ⟨fun m ee w=>∃ (j:Nat) (t:List Bool × List Bool),k+1≤j∧j≤L.length∧m=L.length - j∧ee=Env.mk 54 [(8,I64 (j:Nat)),(5,.slice (some ⟨go,0,none⟩) L.length L.length),(6,.slice (some ⟨gr,0,none⟩) L.length L.length),(0,.slice la L.length lc),(7,I64 (k:Nat)),(4,nilS)] []∧
     t.1.length=L.length∧t.2.length=L.length∧aIn L k (L.length - j) j t=aIn L k (L.length - (k+1)) (k+1) s∧St w0 w ((gr,Cs (t.2.map .bool) 4)::(go,Cs (t.1.map .bool) 4)::H),
    ⟨L.length - (k+1),k+1,s,by omega,by omega,rfl,rfl,hs1,hs2,rfl,hw⟩,?_⟩
   rintro m ee w5 ⟨j,t,hkj,hj,rfl,rfl,ht1,ht2,hin,hw5⟩
   show f108_lb11 _ _ _ _ _ _ _ _ _ _ _ _ _ _ _ _ _ _
   rw [f108_lb11_eq]
   refine ⟨L.length,fun wq _=>run_len_57 wq,?_⟩
   rw [BIf_iff]
   constructor
   ·intro hjl
    have hjl:j < L.length:=by simpa using hjl
    rw [f108_s12_eq]
    have hd:=hw5.drew
    have hrw:=hrow _ ((hd.tail hgr).tail hgo)
    obtain ⟨a,c,hac,hld⟩:=hrw.ldA hlt
    rw [hlv] at hac
    obtain ⟨hsa,-⟩:la=some a∧lc=c:=by simpa using hac
    subst hsa
    obtain ⟨a',c',hac',hld'⟩:=hrw.ldA hjl
    rw [hlv] at hac'
    obtain ⟨rfl,-⟩:a=a'∧lc=c':=by simpa using hac'
    refine ⟨by omega,by omega,by omega,by omega,hld _ (hld' _ ?_)⟩
    rw [ord_at hlt,ord_at hjl]
    refine direct_ok hd L[k] L[j] fun w6 h6=>⟨_,rfl,?_⟩
    rw [show L.length - j=(L.length - (j+1))+1 by omega,aIn] at hin
    have gk:L.getD k default=L[k]:=by simp [List.getD,hlt]
    have gj:L.getD j default=L[j]:=by simp [List.getD,hjl]
    rw [gk,gj] at hin
    rw [f108_s13_eq]
    cases hdir:direct L[k] L[j]
    ·rw [BIf_false,f108_s14_eq,wr j hjl]
     rw [hdir,if_neg (by decide)] at hin
     exact ⟨L.length - (j+1),by omega,j+1,t,by omega,by omega,rfl,rfl,ht1,ht2,hin,h6⟩
    ·rw [BIf_true]
     rw [hdir,if_pos rfl] at hin
     refine ⟨by omega,by omega,?_⟩
     rw [ad]
     refine h6.st1 (k:=0) rfl (by simpa [ht2] using hjl) rfl fun w7 h7=>⟨by omega,by omega,?_⟩
     rw [ad]
     refine h7.st1 (k:=1) rfl (by simpa [ht1] using hjl) rfl fun w8 h8=>?_
     have h8:St w0 w8 ((gr,Cs ((t.2.map Value.bool).set j (.bool true)) 4)::(go,Cs ((t.1.map Value.bool).set j (.bool true)) 4)::H):=h8
     rw [set_flag,set_flag] at h8
     rw [f108_s14_eq,wr j hjl]
     exact ⟨L.length - (j+1),by omega,j+1,(t.1.set j true,t.2.set j true),by omega,by omega,rfl,rfl,by simp [ht1],by simp [ht2],hin,h8⟩
   ·intro hge
    have hge:L.length≤j:=by simpa using hge
    have:j=L.length:=by omega
    subst this
    rw [Nat.sub_self,aIn] at hin
    refine next w5 t ht1 ht2 ?_ hw5
    rw [hin]; exact hfin
 ·intro hge
  have hge:L.length≤k:=by simpa using hge
  have:k=L.length:=by omega
  subst this
  rw [Nat.sub_self,aOut] at hfin
  rw [f108_s15_eq]
  have hw':=hw.tail hgr
  rw [hfin] at hw'
  exact hK w4 go hgo (by rw [← hfin]; exact hs1) hw'
end Go.Fx.Try
namespace Go.Fx.Mo
def eIn (l:List Bool) (of:List Int) (i:Int):Nat→Nat→List Bool→List Bool
 | 0,_,s=>s
 | m+1,b,s=>eIn l of i m (b+1) (if l.getD b false=true∧of.getD b 0 > i then s.set (of.getD b 0).toNat true else s)
def eOut (r:RR) (i:Int):Nat→Nat→List Bool→List Bool
 | 0,_,s=>s
 | m+1,a,s=>eOut r i m (a+1) (if r.of.getD a 0=i then eIn (after29 r.L a) r.of i r.L.length 0 s else s)
def afterE (r:RR) (i:Int) (many:Nat):List Bool:=eOut r i r.L.length 0 (List.replicate many false)
theorem eIn_len (l:List Bool) (of:List Int) (i:Int):∀ (m b:Nat) (s:List Bool),(eIn l of i m b s).length=s.length
 | 0,_,_=>rfl
 | m+1,b,s=>by
  unfold eIn
  rw [eIn_len l of i m (b+1)]
  split <;> simp
theorem eOut_len (r:RR) (i:Int):∀ (m a:Nat) (s:List Bool),(eOut r i m a s).length=s.length
 | 0,_,_=>rfl
 | m+1,a,s=>by
  unfold eOut
  rw [eOut_len r i m (a+1)]
  split
  ·exact eIn_len ..
  ·rfl
theorem afterE_len (r:RR) (i:Int) (many:Nat):(afterE r i many).length=many:=by
 unfold afterE
 rw [eOut_len]
 simp
end Go.Fx.Mo
namespace Go.Fx.Try
open Go Go.Fx Go.Fx.Mo
open Go.Proofs
variable {w0 w:World} {H Y:List (Nat × Obj)} {K:Value→World→Prop}
set_option maxRecDepth 20000
theorem rowc {ov:Value} {n:Nat} {xs:List Value} (h:Row w 1 ov n xs) {i:Nat} (hi:i < n):∃ a c,ov=.slice (some a) n c∧w.cell? (a.add (i * 1))=xs[i]?:=by
 rcases h.2 with ⟨_,h0⟩ | ⟨a,c,h1,h2⟩
 ·omega
 ·exact ⟨a,c,h1,by rw [Nat.mul_one]; exact h2 i (by omega)⟩
theorem behind_ok {r:RR} {lv ov xv:Value} {i many:Nat} (h:St w0 w H) (hL:∀ w',St w0 w' H→Row w' 4 lv r.L.length (ords r.L)) (hO:∀ w',St w0 w' H→Row w' 1 ov r.of.length (r.of.map I64))
  (hol:r.of.length=r.L.length) (hn:r.L.length≤1000000) (hof:∀ x∈r.of,0≤x∧x < many) (hm:many≤1000000) (hbl:r.begun.length=8) (hel:r.ended.length=8)
  (hK:∀ w' g,w0.heap.size≤g→St w0 w' ((g,Cs ((afterE r i many).map .bool) 4)::H)→K (.slice (some ⟨g,0,none⟩) many many) w') :
  CallL P 88 [.agg (runCs r 0 lv ov xv).toArray,.int .i64 i,.int .i64 many] w K:=by
 obtain ⟨la,lc,hlv⟩:=(hL w h).form
 obtain ⟨oa,oc,hov⟩:=(hO w h).form
 refine f88_ok _ _ _ _ _ ?_
 rw [f88_eq,f88_s0_eq]
 refine h.newC fun n6 w1 hn6 h1=>?_
 rw [f88_s1_eq]
 obtain ⟨go,hgo,hr1,g1⟩:=new_flags h1 hm
 refine ⟨_,_,_,_,hr1,?_⟩
 rw [f88_s2_eq,f88_s3_eq]
 have g1:St w0 _ ((go,Cs ((List.replicate many false).map .bool) 4)::(n6,Cs (runCs r 0 lv ov xv) 113)::H):=g1
 have ad:∀ (g j:Nat),(Addr.mk g 0 none).add (Int.toNat (j:Int) * 1)=Addr.mk g j none:=fun g j=>by rw [add_lit',Nat.zero_add,Int.toNat_natCast,Nat.mul_one]
 have rL:∀ {w':World} {Z:List (Nat × Obj)},St w0 w' (Z++((n6,Cs (runCs r 0 lv ov xv) 113)::H))→w'.cell? (Addr.mk n6 0 none)=some (.slice la r.L.length lc):=fun h'=>by
  rw [cell_of (h'.has n6 (Cs (runCs r 0 lv ov xv) 113) (by simp)),← hlv]; rfl
 have rO:∀ {w':World} {Z:List (Nat × Obj)},St w0 w' (Z++((n6,Cs (runCs r 0 lv ov xv) 113)::H))→w'.cell? ((Addr.mk n6 0 none).add 1)=some (.slice oa r.of.length oc):=fun h'=>by
  rw [add_lit',cell_of (h'.has n6 (Cs (runCs r 0 lv ov xv) 113) (by simp)),← hov]; rfl
 have ofc:∀ {w':World} {b:Nat},St w0 w' H→(hb:b < r.of.length)→∃ a,oa=some a∧w'.cell? (a.add (b * 1))=some (I64 (r.of.getD b 0)):=fun {w' b} h' hb=>by
  obtain ⟨a,c,hac,hld⟩:=rowc (hO w' h') hb
  rw [hov] at hac
  obtain ⟨hsa,-⟩:oa=some a∧oc=c:=by simpa using hac
  refine ⟨a,hsa,?_⟩
  rw [hld,List.getElem?_map,List.getElem?_eq_getElem hb]
  simp [List.getD,hb]
 have ofr:∀ {b:Nat},(hb:b < r.of.length)→0≤r.of.getD b 0∧r.of.getD b 0 < many:=fun {b} hb=>by
  have:r.of.getD b 0=r.of[b]:=by simp [List.getD,hb]
  rw [this]
  exact hof _ (List.getElem_mem hb)
 refine ⟨fun m ee w=>∃ (a:Nat) (s:List Bool),a≤r.L.length∧m=r.L.length - a∧ee=Env.mk 59 [(6,nilS),(7,.slice (some ⟨go,0,none⟩) many many),(8,I64 (a:Nat)),(3,(Value.pointer (some (Addr.mk n6 0 none)))),(1,I64 (i:Nat))] []∧
   s.length=many∧eOut r i (r.L.length - a) a s=afterE r i many∧St w0 w ((go,Cs (s.map .bool) 4)::(n6,Cs (runCs r 0 lv ov xv) 113)::H),
  ⟨r.L.length,0,List.replicate many false,by omega,rfl,rfl,by simp,rfl,g1⟩,?_⟩
 rintro m ee w4 ⟨a,s,ha,rfl,rfl,hs,hfin,hw⟩
 show f88_lb4 _ _ _ _ _ _ _ _ _ _ _ _
 rw [f88_lb4_eq]
 refine ⟨la,_,lc,rL (Z:=[(go,Cs (s.map .bool) 4)]) hw,r.L.length,fun wq _=>run_len_57 wq,?_⟩
 rw [BIf_iff]
 have wr:∀ j:Nat,j < r.L.length→IntKind.wrap .i64 ((j:Int)+1)=((j+1:Nat):Int):=fun j hj=>by rw [wrap_i64 (by omega) (by omega)]; rfl
 constructor
 ·intro hlt
  have hlt:a < r.L.length:=by simpa using hlt
  rw [f88_s5_eq]
  obtain ⟨o,ho,hcell⟩:=ofc (b:=a) ((hw.tail hgo).tail hn6) (by omega)
  subst ho
  refine ⟨_,_,oc,rO (Z:=[(go,Cs (s.map .bool) 4)]) hw,by omega,by omega,_,by rw [Int.toNat_natCast]; exact hcell,?_⟩
  rw [show r.L.length - a=(r.L.length - (a+1))+1 by omega,eOut] at hfin
  generalize hY:(fun e' w'=>∃ m,m < r.L.length - a∧∃ (a:Nat) (s:List Bool),a≤r.L.length∧m=r.L.length - a∧e'=Env.mk 59 [(6,nilS),(7,.slice (some ⟨go,0,none⟩) many many),(8,I64 (a:Nat)),(3,(Value.pointer (some (Addr.mk n6 0 none)))),(1,I64 (i:Nat))] []∧
   s.length=many∧eOut r i (r.L.length - a) a s=afterE r i many∧St w0 w' ((go,Cs (s.map .bool) 4)::(n6,Cs (runCs r 0 lv ov xv) 113)::H))=Y
  have next:∀ w5 (s':List Bool),s'.length=many→eOut r i (r.L.length - (a+1)) (a+1) s'=afterE r i many→St w0 w5 ((go,Cs (s'.map .bool) 4)::(n6,Cs (runCs r 0 lv ov xv) 113)::H)→
    f88_s6 none 0 0 (some ⟨go,0,none⟩) many many (Addr.mk n6 0 none) (i:Nat) (a:Nat) w5 K Y:=by
   intro w5 s' h1 h2 h3
   rw [f88_s6_eq,← hY,wr a hlt]
   exact ⟨r.L.length - (a+1),by omega,a+1,s',by omega,rfl,rfl,h1,h2,h3⟩
  rw [BIf_iff]
  constructor
  ·intro hne
   have hne:¬ r.of.getD a 0=i:=by simpa using hne
   rw [if_neg hne] at hfin
   exact next w4 s hs hfin hw
  ·intro heq
   have heq:r.of.getD a 0=i:=by simpa using heq
   rw [if_pos heq] at hfin
   rw [f88_s7_eq]
   refine ⟨la,_,lc,rL (Z:=[(go,Cs (s.map .bool) 4)]) hw,?_⟩
   rw [← hlv]
   refine after29_ok hw (fun w' h'=>hL w' ((h'.tail hgo).tail hn6)) hn hlt fun w5 gl hgl hall h5=>⟨_,_,_,rfl,?_⟩
   rw [f88_s8_eq,f88_s9_eq]
   refine ⟨fun m ee w=>∃ (b:Nat) (t:List Bool),b≤r.L.length∧m=r.L.length - b∧ee=Env.mk 59 [(10,I64 (b:Nat)),(3,(Value.pointer (some (Addr.mk n6 0 none)))),(7,.slice (some ⟨go,0,none⟩) many many),(1,I64 (i:Nat)),(9,.slice (some ⟨gl,0,none⟩) r.L.length r.L.length),(6,nilS),(8,I64 (a:Nat))] []∧
     t.length=many∧eIn (after29 r.L a) r.of i (r.L.length - b) b t=eIn (after29 r.L a) r.of i r.L.length 0 s∧St w0 w ((gl,Cs ((after29 r.L a).map .bool) 4)::(go,Cs (t.map .bool) 4)::(n6,Cs (runCs r 0 lv ov xv) 113)::H),
    ⟨r.L.length,0,s,by omega,rfl,rfl,hs,rfl,h5⟩,?_⟩
   rintro m ee w6 ⟨b,t,hb,rfl,rfl,ht,hin,hw6⟩
   show f88_lb10 _ _ _ _ _ _ _ _ _ _ _ _ _ _ _ _ _
   rw [f88_lb10_eq]
   refine ⟨la,_,lc,rL (Z:=[(gl,_),(go,_)]) hw6,r.L.length,fun wq _=>run_len_57 wq,?_⟩
   rw [BIf_iff]
   constructor
   ·intro hbl
    have hbl:b < r.L.length:=by simpa using hbl
    rw [f88_s11_eq]
    refine ⟨by omega,by omega,(after29 r.L a).getD b false,by rw [ad,hw6.cell (k:=0) rfl]; exact flag_at (by omega),?_⟩
    rw [show r.L.length - b=(r.L.length - (b+1))+1 by omega,eIn] at hin
    have step:∀ w7 (t':List Bool),t'.length=many→eIn (after29 r.L a) r.of i (r.L.length - (b+1)) (b+1) t'=eIn (after29 r.L a) r.of i r.L.length 0 s→St w0 w7 ((gl,Cs ((after29 r.L a).map .bool) 4)::(go,Cs (t'.map .bool) 4)::(n6,Cs (runCs r 0 lv ov xv) 113)::H)→
      f88_s13 (Addr.mk n6 0 none) (some ⟨go,0,none⟩) many many (i:Nat) (some ⟨gl,0,none⟩) r.L.length r.L.length none 0 0 (a:Nat) (b:Nat) w7 K Y
       (fun e' w'=>∃ m,m < r.L.length - b∧∃ (b:Nat) (t:List Bool),b≤r.L.length∧m=r.L.length - b∧e'=Env.mk 59 [(10,I64 (b:Nat)),(3,(Value.pointer (some (Addr.mk n6 0 none)))),(7,.slice (some ⟨go,0,none⟩) many many),(1,I64 (i:Nat)),(9,.slice (some ⟨gl,0,none⟩) r.L.length r.L.length),(6,nilS),(8,I64 (a:Nat))] []∧
     t.length=many∧eIn (after29 r.L a) r.of i (r.L.length - b) b t=eIn (after29 r.L a) r.of i r.L.length 0 s∧St w0 w' ((gl,Cs ((after29 r.L a).map .bool) 4)::(go,Cs (t.map .bool) 4)::(n6,Cs (runCs r 0 lv ov xv) 113)::H)):=by
     intro w7 t' h1 h2 h3
     rw [f88_s13_eq,wr b hbl]
     exact ⟨r.L.length - (b+1),by omega,b+1,t',by omega,rfl,rfl,h1,h2,h3⟩
    obtain ⟨o2,ho2,hcell2⟩:=ofc (b:=b) (((hw6.tail hgl).tail hgo).tail hn6) (by omega)
    obtain rfl:o=o2:=by simpa using ho2
    obtain ⟨f1,f2⟩:=ofr (b:=b) (by omega)
    have set:f88_s12 true (Addr.mk n6 0 none) (some ⟨go,0,none⟩) many many (i:Nat) (some ⟨gl,0,none⟩) r.L.length r.L.length none 0 0 (a:Nat) (b:Nat) w6 K Y
      (fun e' w'=>∃ m,m < r.L.length - b∧∃ (b:Nat) (t:List Bool),b≤r.L.length∧m=r.L.length - b∧e'=Env.mk 59 [(10,I64 (b:Nat)),(3,(Value.pointer (some (Addr.mk n6 0 none)))),(7,.slice (some ⟨go,0,none⟩) many many),(1,I64 (i:Nat)),(9,.slice (some ⟨gl,0,none⟩) r.L.length r.L.length),(6,nilS),(8,I64 (a:Nat))] []∧
     t.length=many∧eIn (after29 r.L a) r.of i (r.L.length - b) b t=eIn (after29 r.L a) r.of i r.L.length 0 s∧St w0 w' ((gl,Cs ((after29 r.L a).map .bool) 4)::(go,Cs (t.map .bool) 4)::(n6,Cs (runCs r 0 lv ov xv) 113)::H))∨¬ ((after29 r.L a).getD b false=true∧r.of.getD b 0 > i):=by
     by_cases hc:(after29 r.L a).getD b false=true∧r.of.getD b 0 > i
     ·left
      rw [if_pos hc] at hin
      rw [f88_s12_eq,BIf_true]
      refine ⟨_,_,oc,rO (Z:=[(gl,_),(go,_)]) hw6,by omega,by omega,_,by rw [Int.toNat_natCast]; exact hcell2,f1,by omega,?_⟩
      rw [add_lit',Nat.zero_add,Nat.mul_one]
      refine hw6.st1 (k:=1) rfl (by rw [List.length_map,ht]; omega) rfl fun w7 h7=>?_
      have h7:St w0 w7 ((gl,Cs ((after29 r.L a).map .bool) 4)::(go,Cs ((t.map Value.bool).set (r.of.getD b 0).toNat (.bool true)) 4)::(n6,Cs (runCs r 0 lv ov xv) 113)::H):=h7
      rw [set_flag] at h7
      exact step w7 _ (by simp [ht]) hin h7
     ·right; exact hc
    have no:¬ ((after29 r.L a).getD b false=true∧r.of.getD b 0 > i)→f88_s12 false (Addr.mk n6 0 none) (some ⟨go,0,none⟩) many many (i:Nat) (some ⟨gl,0,none⟩) r.L.length r.L.length none 0 0 (a:Nat) (b:Nat) w6 K Y
      (fun e' w'=>∃ m,m < r.L.length - b∧∃ (b:Nat) (t:List Bool),b≤r.L.length∧m=r.L.length - b∧e'=Env.mk 59 [(10,I64 (b:Nat)),(3,(Value.pointer (some (Addr.mk n6 0 none)))),(7,.slice (some ⟨go,0,none⟩) many many),(1,I64 (i:Nat)),(9,.slice (some ⟨gl,0,none⟩) r.L.length r.L.length),(6,nilS),(8,I64 (a:Nat))] []∧
     t.length=many∧eIn (after29 r.L a) r.of i (r.L.length - b) b t=eIn (after29 r.L a) r.of i r.L.length 0 s∧St w0 w' ((gl,Cs ((after29 r.L a).map .bool) 4)::(go,Cs (t.map .bool) 4)::(n6,Cs (runCs r 0 lv ov xv) 113)::H)):=by
     intro hc
     rw [if_neg hc] at hin
     rw [f88_s12_eq,BIf_false]
     exact step w6 t ht hin hw6
    cases hfl:(after29 r.L a).getD b false
    ·rw [BIf_false]
     exact no (by rw [hfl]; simp)
    ·rw [BIf_true]
     refine ⟨_,_,oc,rO (Z:=[(gl,_),(go,_)]) hw6,by omega,by omega,_,by rw [Int.toNat_natCast]; exact hcell2,?_⟩
     rw [hfl] at set no
     cases hgt:decide (r.of.getD b 0 > i)
     ·exact no (by simp at hgt ⊢; omega)
     ·rcases set with h | h
      ·exact h
      ·exact absurd ⟨rfl,by simpa using hgt⟩ h
   ·intro hge
    have hge:r.L.length≤b:=by simpa using hge
    have:b=r.L.length:=by omega
    subst this
    rw [Nat.sub_self,eIn] at hin
    exact next w6 t ht (by rw [hin]; exact hfin) (hw6.tail hgl)
 ·intro hge
  have hge:r.L.length≤a:=by simpa using hge
  have:a=r.L.length:=by omega
  subst this
  rw [Nat.sub_self,eOut] at hfin
  rw [f88_s14_eq]
  rw [hfin] at hw
  exact hK w4 go hgo (St.tail (b:=n6) (hw.perm (List.Perm.swap ..)) hn6)
end Go.Fx.Try
namespace Go.Fx.Mo
abbrev opA (L:List Ord) (a:Nat):Ord:=L.getD a default
inductive HB (L:List Ord):Nat→Nat→Prop
 | one {a b:Nat}:a < b→b < L.length→direct (opA L a) (opA L b)=true→HB L a b
 | step {a c b:Nat}:HB L a c→c < b→b < L.length→direct (opA L c) (opA L b)=true→HB L a b
theorem HB.lt {L:List Ord} {a b:Nat} (h:HB L a b):a < b∧b < L.length:=by
 induction h with
 | one h1 h2 _=>exact ⟨h1,h2⟩
 | step _ h1 h2 _ ih=>exact ⟨by omega,h2⟩
theorem HB.trans {L:List Ord} {a b c:Nat} (h1:HB L a b) (h2:HB L b c):HB L a c:=by
 induction h2 with
 | one h3 h4 h5=>exact .step h1 h3 h4 h5
 | step _ h3 h4 h5 ih=>exact .step ih h3 h4 h5
theorem opA_left {L M:List Ord} {a:Nat} (h:a < L.length):opA (L++M) a=opA L a:=by
 unfold opA
 simp [List.getD,List.getElem?_append_left h]
theorem HB.app {L M:List Ord} {a b:Nat} (h:HB L a b):HB (L++M) a b:=by
 induction h with
 | one h1 h2 h3=>exact .one h1 (by simp; omega) (by rw [opA_left (by omega),opA_left h2]; exact h3)
 | step _ h1 h2 h3 ih=>exact .step ih h1 (by simp; omega) (by rw [opA_left (by omega),opA_left h2]; exact h3)
theorem HB.of_app {L M:List Ord} {a b:Nat} (h:HB (L++M) a b) (hb:b < L.length):HB L a b:=by
 induction h with
 | one h1 h2 h3=>exact .one h1 hb (by rw [opA_left (by omega),opA_left hb] at h3; exact h3)
 | step _ h1 h2 h3 ih=>exact .step (ih (by omega)) h1 hb (by rw [opA_left (by omega),opA_left hb] at h3; exact h3)
theorem HB.last {L:List Ord} {a b:Nat} (hb:b < L.length):HB L a b↔∃ c,c < b∧(a=c∨HB L a c)∧direct (opA L c) (opA L b)=true:=by
 constructor
 ·intro h
  cases h with
  | one h1 h2 h3=>exact ⟨a,h1,.inl rfl,h3⟩
  | step h0 h1 h2 h3=>exact ⟨_,h1,.inr h0,h3⟩
 ·rintro ⟨c,h1,rfl | h0,h3⟩
  ·exact .one h1 hb h3
  ·exact .step h0 h1 hb h3
theorem getD_set {l:List Bool} {i j:Nat} (hi:i < l.length):(l.set i true).getD j false=(decide (j=i) || l.getD j false):=by
 simp only [List.getD,List.getElem?_set]
 by_cases h:i=j
 ·subst h; simp [hi]
 ·have:¬ j=i:=fun h'=>h h'.symm
  simp [h,this]
theorem aIn_spec (L:List Ord) (k:Nat):∀ (m j:Nat) (s:List Bool × List Bool),j+m=L.length→s.1.length=L.length→s.2.length=L.length→∀ x,x < L.length→
  ((aIn L k m j s).1.getD x false=(s.1.getD x false || (decide (j≤x) && direct (opA L k) (opA L x))))∧((aIn L k m j s).2.getD x false=(s.2.getD x false || (decide (j≤x) && direct (opA L k) (opA L x))))
 | 0,j,s,hj,h1,h2,x,hx=>by
  have:¬ j≤x:=by omega
  simp [aIn,this]
 | m+1,j,s,hj,h1,h2,x,hx=>by
  unfold aIn
  have hjl:j < L.length:=by omega
  cases hd:direct (L.getD k default) (L.getD j default)
  ·rw [if_neg (by decide)]
   obtain ⟨i1,i2⟩:=aIn_spec L k m (j+1) s (by omega) h1 h2 x hx
   rw [i1,i2]
   have e:(decide (j+1≤x) && direct (opA L k) (opA L x))=(decide (j≤x) && direct (opA L k) (opA L x)):=by
    by_cases hxj:x=j
    ·subst hxj
     rw [show direct (opA L k) (opA L x)=false from hd]; simp
    ·have:(j+1≤x)=(j≤x):=by apply propext; omega
     simp only [this]
   rw [e]; exact ⟨rfl,rfl⟩
  ·rw [if_pos rfl]
   obtain ⟨i1,i2⟩:=aIn_spec L k m (j+1) (s.1.set j true,s.2.set j true) (by omega) (by simp [h1]) (by simp [h2]) x hx
   rw [i1,i2]
   dsimp only
   rw [getD_set (by omega),getD_set (by omega)]
   by_cases hxj:x=j
   ·subst hxj
    rw [show direct (opA L k) (opA L x)=true from hd]; simp
   ·have:(j+1≤x)=(j≤x):=by apply propext; omega
    simp [hxj,this]
theorem aOut_spec (L:List Ord) (i:Nat):∀ (m k:Nat) (s:List Bool × List Bool),k+m=L.length→i≤k→s.1.length=L.length→s.2.length=L.length→
  (∀ x,x < L.length→(s.1.getD x false=true↔∃ c,c < k∧c < x∧(i=c∨HB L i c)∧direct (opA L c) (opA L x)=true))→
  (∀ x,x < L.length→(s.2.getD x false=true↔i=x∨∃ c,c < k∧c < x∧(i=c∨HB L i c)∧direct (opA L c) (opA L x)=true))→
  ∀ x,x < L.length→((aOut L m k s).1.getD x false=true↔HB L i x)
 | 0,k,s,hk,hik,h1,h2,g1,g2,x,hx=>by
  show s.1.getD x false=true↔_
  rw [g1 x hx,HB.last hx]
  constructor
  ·rintro ⟨c,hc1,hc2,hc3,hc4⟩; exact ⟨c,hc2,hc3,hc4⟩
  ·rintro ⟨c,hc2,hc3,hc4⟩; exact ⟨c,by omega,hc2,hc3,hc4⟩
 | m+1,k,s,hk,hik,h1,h2,g1,g2,x,hx=>by
  have hkl:k < L.length:=by omega
  have hrk:s.2.getD k false=true↔i=k∨HB L i k:=by
   rw [g2 k hkl,HB.last hkl]
   constructor
   ·rintro (h | ⟨c,hc1,hc2,hc3,hc4⟩)
    ·exact .inl h
    ·exact .inr ⟨c,hc2,hc3,hc4⟩
   ·rintro (h | ⟨c,hc2,hc3,hc4⟩)
    ·exact .inl h
    ·exact .inr ⟨c,by omega,hc2,hc3,hc4⟩
  have grow:∀ x,(∃ c,c < k+1∧c < x∧(i=c∨HB L i c)∧direct (opA L c) (opA L x)=true)↔(∃ c,c < k∧c < x∧(i=c∨HB L i c)∧direct (opA L c) (opA L x)=true)∨(k < x∧(i=k∨HB L i k)∧direct (opA L k) (opA L x)=true):=by
   intro x
   constructor
   ·rintro ⟨c,hc1,hc2,hc3,hc4⟩
    by_cases hck:c=k
    ·subst hck; exact .inr ⟨hc2,hc3,hc4⟩
    ·exact .inl ⟨c,by omega,hc2,hc3,hc4⟩
   ·rintro (⟨c,hc1,hc2,hc3,hc4⟩ | ⟨h1,h2,h3⟩)
    ·exact ⟨c,by omega,hc2,hc3,hc4⟩
    ·exact ⟨k,by omega,h1,h2,h3⟩
  unfold aOut
  cases hb:s.2.getD k false
  ·have hno:¬ (i=k∨HB L i k):=fun h=>by rw [hrk.2 h] at hb; cases hb
   rw [if_neg (by decide)]
   refine aOut_spec L i m (k+1) s (by omega) (by omega) h1 h2 (fun y hy=>?_) (fun y hy=>?_) x hx
   ·rw [g1 y hy,grow]
    constructor
    ·exact fun h=>.inl h
    ·rintro (h | ⟨_,h,_⟩)
     ·exact h
     ·exact absurd h hno
   ·rw [g2 y hy,grow]
    constructor
    ·rintro (h | h)
     ·exact .inl h
     ·exact .inr (.inl h)
    ·rintro (h | h | ⟨_,h,_⟩)
     ·exact .inl h
     ·exact .inr h
     ·exact absurd h hno
  ·have hyes:=hrk.1 hb
   rw [if_pos rfl]
   have hl:=Go.Fx.Try.aIn_len L k (L.length - (k+1)) (k+1) s
   refine aOut_spec L i m (k+1) _ (by omega) (by omega) (hl.1.trans h1) (hl.2.trans h2) (fun y hy=>?_) (fun y hy=>?_) x hx
   ·rw [(aIn_spec L k (L.length - (k+1)) (k+1) s (by omega) h1 h2 y hy).1,Bool.or_eq_true,Bool.and_eq_true,decide_eq_true_iff,g1 y hy,grow]
    constructor
    ·rintro (h | ⟨h,h'⟩)
     ·exact .inl h
     ·exact .inr ⟨by omega,hyes,h'⟩
    ·rintro (h | ⟨h,_,h'⟩)
     ·exact .inl h
     ·exact .inr ⟨by omega,h'⟩
   ·rw [(aIn_spec L k (L.length - (k+1)) (k+1) s (by omega) h1 h2 y hy).2,Bool.or_eq_true,Bool.and_eq_true,decide_eq_true_iff,g2 y hy,grow]
    constructor
    ·rintro ((h | h) | ⟨h,h'⟩)
     ·exact .inl h
     ·exact .inr (.inl h)
     ·exact .inr (.inr ⟨by omega,hyes,h'⟩)
    ·rintro (h | h | ⟨h,_,h'⟩)
     ·exact .inl (.inl h)
     ·exact .inl (.inr h)
     ·exact .inr ⟨by omega,h'⟩
theorem getD_rep (n x:Nat):(List.replicate n false).getD x false=false:=by
 simp only [List.getD,List.getElem?_replicate]
 split <;> rfl
theorem after29_spec {L:List Ord} {i x:Nat} (hi:i < L.length) (hx:x < L.length):(after29 L i).getD x false=true↔HB L i x:=by
 unfold after29
 refine aOut_spec L i _ _ _ (by omega) (Nat.le_refl i) (by simp) (by simp) (fun y hy=>?_) (fun y hy=>?_) x hx
 ·dsimp only
  rw [getD_rep]
  constructor
  ·intro h; cases h
  ·rintro ⟨c,h1,_,rfl | h2,_⟩
   ·omega
   ·have:=h2.lt; omega
 ·dsimp only
  rw [getD_set (by simpa using hi),getD_rep]
  constructor
  ·intro h; simp at h; exact .inl h.symm
  ·rintro (rfl | ⟨c,h1,_,rfl | h2,_⟩)
   ·simp
   ·omega
   ·have:=h2.lt; omega
theorem eIn_spec {l:List Bool} {of:List Int} {i:Int} {many:Nat} (hof:∀ x∈of,0≤x∧x < many):∀ (m b:Nat) (s:List Bool),b+m=of.length→s.length=many→∀ x,x < many→
  ((eIn l of i m b s).getD x false=true↔s.getD x false=true∨∃ c,b≤c∧c < of.length∧l.getD c false=true∧of.getD c 0=(x:Int)∧(x:Int) > i)
 | 0,b,s,hb,hs,x,hx=>by
  show s.getD x false=true↔_
  constructor
  ·exact fun h=>.inl h
  ·rintro (h | ⟨c,h1,h2,_⟩)
   ·exact h
   ·omega
 | m+1,b,s,hb,hs,x,hx=>by
  unfold eIn
  have hbl:b < of.length:=by omega
  have hr:0≤of.getD b 0∧of.getD b 0 < many:=by
   have:of.getD b 0=of[b]:=by simp [List.getD,hbl]
   rw [this]; exact hof _ (List.getElem_mem hbl)
  have split:(∃ c,b≤c∧c < of.length∧l.getD c false=true∧of.getD c 0=(x:Int)∧(x:Int) > i)↔(l.getD b false=true∧of.getD b 0=(x:Int)∧(x:Int) > i)∨(∃ c,b+1≤c∧c < of.length∧l.getD c false=true∧of.getD c 0=(x:Int)∧(x:Int) > i):=by
   constructor
   ·rintro ⟨c,h1,h2,h3⟩
    by_cases hcb:c=b
    ·subst hcb; exact .inl h3
    ·exact .inr ⟨c,by omega,h2,h3⟩
   ·rintro (h | ⟨c,h1,h2,h3⟩)
    ·exact ⟨b,by omega,hbl,h⟩
    ·exact ⟨c,by omega,h2,h3⟩
  rw [split]
  by_cases hc:l.getD b false=true∧of.getD b 0 > i
  ·rw [if_pos hc,eIn_spec hof m (b+1) _ (by omega) (by simp [hs]) x hx,getD_set (by omega),Bool.or_eq_true,decide_eq_true_iff]
   constructor
   ·rintro ((h | h) | h)
    ·exact .inr (.inl ⟨hc.1,by omega,by omega⟩)
    ·exact .inl h
    ·exact .inr (.inr h)
   ·rintro (h | ⟨h1,h2,h3⟩ | h)
    ·exact .inl (.inr h)
    ·exact .inl (.inl (by omega))
    ·exact .inr h
  ·rw [if_neg hc,eIn_spec hof m (b+1) _ (by omega) hs x hx]
   constructor
   ·rintro (h | h)
    ·exact .inl h
    ·exact .inr (.inr h)
   ·rintro (h | ⟨h1,h2,h3⟩ | h)
    ·exact .inl h
    ·exact absurd ⟨h1,by omega⟩ hc
    ·exact .inr h
theorem eOut_spec {r:RR} {i:Int} {many:Nat} (hol:r.of.length=r.L.length) (hof:∀ x∈r.of,0≤x∧x < many):∀ (m a:Nat) (s:List Bool),a+m=r.L.length→s.length=many→∀ x,x < many→
  ((eOut r i m a s).getD x false=true↔s.getD x false=true∨∃ d c,a≤d∧d < r.L.length∧c < r.L.length∧r.of.getD d 0=i∧r.of.getD c 0=(x:Int)∧(x:Int) > i∧HB r.L d c)
 | 0,a,s,ha,hs,x,hx=>by
  show s.getD x false=true↔_
  constructor
  ·exact fun h=>.inl h
  ·rintro (h | ⟨d,c,h1,h2,_⟩)
   ·exact h
   ·omega
 | m+1,a,s,ha,hs,x,hx=>by
  unfold eOut
  have hal:a < r.L.length:=by omega
  have split:(∃ d c,a≤d∧d < r.L.length∧c < r.L.length∧r.of.getD d 0=i∧r.of.getD c 0=(x:Int)∧(x:Int) > i∧HB r.L d c)↔(∃ c,c < r.L.length∧r.of.getD a 0=i∧r.of.getD c 0=(x:Int)∧(x:Int) > i∧HB r.L a c)∨(∃ d c,a+1≤d∧d < r.L.length∧c < r.L.length∧r.of.getD d 0=i∧r.of.getD c 0=(x:Int)∧(x:Int) > i∧HB r.L d c):=by
   constructor
   ·rintro ⟨d,c,h1,h2,h3,h4⟩
    by_cases hda:d=a
    ·subst hda; exact .inl ⟨c,h3,h4⟩
    ·exact .inr ⟨d,c,by omega,h2,h3,h4⟩
   ·rintro (⟨c,h3,h4⟩ | ⟨d,c,h1,h2,h3,h4⟩)
    ·exact ⟨a,c,by omega,hal,h3,h4⟩
    ·exact ⟨d,c,by omega,h2,h3,h4⟩
  rw [split]
  by_cases hc:r.of.getD a 0=i
  ·rw [if_pos hc,eOut_spec hol hof m (a+1) _ (by omega) (by rw [eIn_len]; exact hs) x hx,eIn_spec hof _ 0 s (by omega) hs x hx]
   constructor
   ·rintro ((h | ⟨c,_,h2,h3,h4,h5⟩) | h)
    ·exact .inl h
    ·exact .inr (.inl ⟨c,by omega,hc,h4,h5,(after29_spec hal (by omega)).1 h3⟩)
    ·exact .inr (.inr h)
   ·rintro (h | ⟨c,h2,_,h4,h5,h6⟩ | h)
    ·exact .inl (.inl h)
    ·exact .inl (.inr ⟨c,by omega,by omega,(after29_spec hal h2).2 h6,h4,h5⟩)
    ·exact .inr h
  ·rw [if_neg hc,eOut_spec hol hof m (a+1) _ (by omega) hs x hx]
   constructor
   ·rintro (h | h)
    ·exact .inl h
    ·exact .inr (.inr h)
   ·rintro (h | ⟨c,_,h4,_⟩ | h)
    ·exact .inl h
    ·exact absurd h4 hc
    ·exact .inr h
theorem afterE_spec {r:RR} {i many:Nat} (hol:r.of.length=r.L.length) (hof:∀ x∈r.of,0≤x∧x < many) {x:Nat} (hx:x < many) :
  (afterE r (i:Nat) many).getD x false=true↔∃ d c,d < r.L.length∧c < r.L.length∧r.of.getD d 0=(i:Int)∧r.of.getD c 0=(x:Int)∧i < x∧HB r.L d c:=by
 unfold afterE
 rw [eOut_spec hol hof _ 0 _ (by omega) (by simp) x hx,getD_rep]
 constructor
 ·rintro (h | ⟨d,c,_,h1,h2,h3,h4,h5,h6⟩)
  ·cases h
  ·exact ⟨d,c,h1,h2,h3,h4,by omega,h6⟩
 ·rintro ⟨d,c,h1,h2,h3,h4,h5,h6⟩
  exact .inr ⟨d,c,by omega,h1,h2,h3,h4,by omega,h6⟩
end Go.Fx.Mo
namespace Go.Fx.Mo
section assoc
variable {K V:Type} [DecidableEq K]
theorem look_mem {m:List (K × V)} {k:K} {v:V} (h:look m k=some v):(k,v)∈m:=by
 unfold look at h
 cases hf:m.find? fun p=>p.1 == k with
 | none=>rw [hf] at h; cases h
 | some p=>
  rw [hf] at h
  simp at h
  have h1:=List.find?_some hf
  have h2:=List.mem_of_find?_eq_some hf
  simp at h1
  subst h1; subst h
  exact h2
theorem put_mem {m:List (K × V)} {k:K} {v:V} {q:K × V} (h:q∈put m k v):q∈m∨q.2=v:=by
 unfold put at h
 split at h
 ·obtain ⟨p,hp,rfl⟩:=List.mem_map.1 h
  split
  ·exact .inr rfl
  ·exact .inl hp
 ·rcases List.mem_append.1 h with h | h
  ·exact .inl h
  ·simp at h; subst h; exact .inr rfl
theorem put_keys (m:List (K × V)) (k:K) (v:V):(put m k v).map (·.1)=if (look m k).isSome then m.map (·.1) else m.map (·.1)++[k]:=by
 unfold put
 cases h:look m k with
 | none=>simp
 | some u=>
  simp only [Option.isSome_some,if_true,List.map_map]
  apply List.map_congr_left
  intro p _
  simp only [Function.comp]
  split <;> rfl
theorem put_nodup {m:List (K × V)} (h:(m.map (·.1)).Nodup) (k:K) (v:V):((put m k v).map (·.1)).Nodup:=by
 rw [put_keys]
 split
 ·exact h
 ·rename_i hn
  have hn:look m k=none:=by simpa using hn
  refine List.nodup_append.2 ⟨h,by simp,fun a ha b hb=>?_⟩
  simp at hb
  subst hb
  rintro rfl
  obtain ⟨p,hp,he⟩:=List.mem_map.1 ha
  exact look_none.1 hn p hp he
theorem putAll_look:∀ (u m:List (K × V)),(u.map (·.1)).Nodup→∀ k,look (putAll m u) k=(look u k).or (look m k)
 | [],m,_,k=>by simp [putAll,look]
 | p::r,m,h,k=>by
  simp only [List.map_cons,List.nodup_cons] at h
  rw [putAll,putAll_look r _ h.2 k,put_look]
  have e:look (p::r) k=if p.1=k then some p.2 else look r k:=by
   unfold look
   rw [List.find?_cons]
   by_cases hk:p.1=k
   ·simp [hk]
   ·have:(p.1 == k)=false:=by simpa using hk
    rw [this,if_neg hk]
  rw [e]
  by_cases hk:k=p.1
  ·subst hk
   have:look r p.1=none:=look_none.2 fun q hq he=>h.1 (List.mem_map.2 ⟨q,hq,he⟩)
   simp [this]
  ·rw [if_neg hk,if_neg (Ne.symm hk)]
theorem putAll_mem:∀ (u m:List (K × V)) {q:K × V},q∈putAll m u→q∈m∨∃ p∈u,q.2=p.2
 | [],m,q,h=>.inl h
 | p::r,m,q,h=>by
  rcases putAll_mem r _ h with h | ⟨p',hp,he⟩
  ·rcases put_mem h with h | h
   ·exact .inl h
   ·exact .inr ⟨p,by simp,h⟩
  ·exact .inr ⟨p',by simp [hp],he⟩
end assoc
def CB (c:Clk) (B:Int):Prop:=c.length=8∧∀ t,0≤at0 c t∧at0 c t≤B
theorem CB.mono {c:Clk} {B B':Int} (h:CB c B) (hb:B≤B'):CB c B':=⟨h.1,fun t=>⟨(h.2 t).1,by have:=(h.2 t).2; omega⟩⟩
theorem zeroC_at (t:Int):at0 zeroC t=0:=by
 unfold at0 zeroC
 rw [List.getD_eq_getElem?_getD,List.getElem?_replicate]
 split <;> rfl
theorem CB.zero {B:Int} (h:0≤B):CB zeroC B:=⟨rfl,fun t=>by rw [zeroC_at]; omega⟩
theorem joinC_at {c d:Clk} (hc:c.length=8) (hd:d.length=8) (t:Int):at0 (joinC c d) t=if at0 d t > at0 c t then at0 d t else at0 c t:=by
 unfold at0 joinC
 simp only [List.getD_eq_getElem?_getD,List.getElem?_zipWith]
 by_cases h:t.toNat < 8
 ·rw [List.getElem?_eq_getElem (by omega),List.getElem?_eq_getElem (by omega)]; rfl
 ·rw [List.getElem?_eq_none (by omega),List.getElem?_eq_none (by omega)]; simp
theorem CB.join {c d:Clk} {B:Int} (hc:CB c B) (hd:CB d B):CB (joinC c d) B:=by
 refine ⟨by simp [joinC,hc.1,hd.1],fun t=>?_⟩
 rw [joinC_at hc.1 hd.1]
 have h1:=hc.2 t
 have h2:=hd.2 t
 split <;> omega
theorem join_l {c d:Clk} (hc:c.length=8) (hd:d.length=8) (t:Int):at0 c t≤at0 (joinC c d) t:=by rw [joinC_at hc hd]; split <;> omega
theorem set_at {c:Clk} {i:Nat} (hi:i < c.length) (x t:Int):at0 (c.set i x) t=if t.toNat=i then x else at0 c t:=by
 unfold at0
 simp only [List.getD_eq_getElem?_getD,List.getElem?_set]
 by_cases h:i=t.toNat
 ·simp [h,h ▸ hi]
 ·simp [h,Ne.symm h]
structure ThB (T:Th) (B:Int):Prop where
 clocks:T.clocks.length=8
 each:∀ c∈T.clocks,CB c B
 objs:∀ q∈T.objs,CB q.2 B
 pos:0≤B
theorem ThB.mono {T:Th} {B B':Int} (h:ThB T B) (hb:B≤B'):ThB T B':=⟨h.clocks,fun c hc=>(h.each c hc).mono hb,fun q hq=>(h.objs q hq).mono hb,by have:=h.pos; omega⟩
theorem ThB.getC {T:Th} {B:Int} (h:ThB T B) (i:Int):CB (getC T.clocks i) B:=by
 unfold Mo.getC
 rw [List.getD_eq_getElem?_getD]
 cases hx:T.clocks[i.toNat]? with
 | none=>exact CB.zero h.pos
 | some c=>exact h.each c (List.mem_of_getElem? hx)
structure PM (T:Th) (e:Ev) (p0 p:Pl) (B:Int):Prop where
 own:CB p.own B
 objs:∀ q∈p.objs,CB q.2 B
 nd:(p.objs.map (·.1)).Nodup
 grow:∀ t,at0 p0.own t≤at0 p.own t
 ob:∀ k t,at0 (clockOf T p0 k) t≤at0 (clockOf T p k) t
 tk:0≤p.tk∧p.tk≤at0 p.own e.th
theorem clockOf_CB {T:Th} {p:Pl} {B:Int} (hT:ThB T B) (hp:∀ q∈p.objs,CB q.2 B) (k:Ob):CB (clockOf T p k) B:=by
 unfold clockOf
 split
 ·rename_i c hc; exact hp _ (look_mem hc)
 ·cases hx:look T.objs k with
  | none=>exact CB.zero hT.pos
  | some c=>exact hT.objs _ (look_mem hx)
theorem PM.same {T:Th} {e:Ev} {p0 p q:Pl} {B:Int} (h:PM T e p0 p B) (h1:q.own=p.own) (h2:q.objs=p.objs) (h3:q.tk=p.tk):PM T e p0 q B:=
 ⟨by rw [h1]; exact h.own,by rw [h2]; exact h.objs,by rw [h2]; exact h.nd,by rw [h1]; exact h.grow,fun k t=>by have:=h.ob k t; unfold clockOf at this ⊢; rw [h2]; exact this,by rw [h1,h3]; exact h.tk⟩
theorem PM.mono {T:Th} {e:Ev} {p0 p:Pl} {B B':Int} (h:PM T e p0 p B) (hb:B≤B'):PM T e p0 p B':=
 ⟨h.own.mono hb,fun q hq=>(h.objs q hq).mono hb,h.nd,h.grow,h.ob,h.tk⟩
theorem tick_own {e:Ev} {p:Pl} {o:Ord} {B:Int} (h:CB p.own B) (ht:0≤e.th∧e.th < 8) (hB:B < 4611686018427387904) (t:Int):at0 (tick e p o).own t=if t.toNat=e.th.toNat then at0 p.own e.th+1 else at0 p.own t:=by
 have h1:=h.2 e.th
 show at0 (p.own.set e.th.toNat (w64 (at0 p.own e.th+1))) t=_
 rw [set_at (by rw [h.1]; omega),w64_small (by omega) (by omega)]
theorem at0_nat {c:Clk} {t u:Int} (h:t.toNat=u.toNat):at0 c t=at0 c u:=by unfold at0; rw [h]
theorem tick_CB {e:Ev} {p:Pl} {o:Ord} {B:Int} (h:CB p.own B) (ht:0≤e.th∧e.th < 8) (hB:B < 4611686018427387904):CB (tick e p o).own (B+1):=by
 refine ⟨by show (p.own.set _ _).length=8; rw [List.length_set,h.1],fun t=>?_⟩
 rw [tick_own h ht hB]
 have h1:=h.2 e.th
 have h2:=h.2 t
 split <;> omega
theorem tick_grow {e:Ev} {p:Pl} {o:Ord} {B:Int} (h:CB p.own B) (ht:0≤e.th∧e.th < 8) (hB:B < 4611686018427387904) (t:Int):at0 p.own t≤at0 (tick e p o).own t:=by
 rw [tick_own h ht hB]
 split
 ·rename_i he; rw [at0_nat he]; omega
 ·omega
theorem PM.tick {T:Th} {e:Ev} {p0 p:Pl} {B:Int} (h:PM T e p0 p B) (ht:0≤e.th∧e.th < 8) (hB:B < 4611686018427387904) (o:Ord):PM T e p0 (tick e p o) (B+1):=by
 refine ⟨tick_CB h.own ht hB,fun q hq=>(h.objs q hq).mono (by omega),h.nd,fun t=>Int.le_trans (h.grow t) (tick_grow h.own ht hB t),h.ob,?_⟩
 have h1:=h.own.2 e.th
 have h2:=tick_own (o:=o) h.own ht hB e.th
 rw [if_pos rfl] at h2
 rw [h2]
 show 0≤(if p.tk=0 then at0 (Mo.tick e p o).own e.th else p.tk)∧(if p.tk=0 then at0 (Mo.tick e p o).own e.th else p.tk)≤_
 rw [h2]
 have:=h.tk
 split <;> omega
theorem number_objs (T:Th) (p:Pl) (x:Ob):(number T p x).2.own=p.own∧(number T p x).2.objs=p.objs∧(number T p x).2.tk=p.tk:=by
 unfold number
 split
 ·exact ⟨rfl,rfl,rfl⟩
 ·split <;> exact ⟨rfl,rfl,rfl⟩
theorem PM.number {T:Th} {e:Ev} {p0 p:Pl} {B:Int} (h:PM T e p0 p B) (x:Ob):PM T e p0 (number T p x).2 B:=
 have n:=number_objs T p x
 h.same n.1 n.2.1 n.2.2
theorem PM.acquire {T:Th} {e:Ev} {p0 p:Pl} {B:Int} (hT:ThB T B) (h:PM T e p0 p B) (x:Ob):PM T e p0 (acquire T p x) B:=
 have hc:=clockOf_CB hT h.objs x
 ⟨h.own.join hc,h.objs,h.nd,fun t=>Int.le_trans (h.grow t) (join_l h.own.1 hc.1 t),h.ob,h.tk.1,Int.le_trans h.tk.2 (join_l h.own.1 hc.1 e.th)⟩
theorem release_clock (T:Th) (p:Pl) (x k:Ob):clockOf T (release T p x) k=if k=x then joinC (clockOf T p x) p.own else clockOf T p k:=by
 show (match look (put p.objs x (joinC (clockOf T p x) p.own)) k with | some c=>c | none=>(look T.objs k).getD zeroC)=_
 rw [put_look]
 by_cases hk:k=x
 ·simp [hk]
 ·simp only [hk,if_false]; rfl
theorem PM.release {T:Th} {e:Ev} {p0 p:Pl} {B:Int} (hT:ThB T B) (h:PM T e p0 p B) (x:Ob):PM T e p0 (release T p x) B:=by
 have hc:=clockOf_CB hT h.objs x
 refine ⟨h.own,fun q hq=>?_,put_nodup h.nd _ _,h.grow,fun k t=>?_,h.tk⟩
 ·rcases put_mem hq with hq | hq
  ·exact h.objs q hq
  ·rw [hq]; exact hc.join h.own
 ·rw [release_clock]
  split
  ·rename_i hk; subst hk; exact Int.le_trans (h.ob k t) (join_l hc.1 h.own.1 t)
  ·exact h.ob k t
theorem PM.atomicL {T:Th} {e:Ev} {p0:Pl} (ht:0≤e.th∧e.th < 8):∀ (l:List Int) (x:Ob) (p:Pl) (B:Int),ThB T B→PM T e p0 p B→B+l.length < 4611686018427387904→PM T e p0 (atomicL T e l x p) (B+l.length)
 | [],_,p,B,_,h,_=>h.mono (by simp)
 | a::r,last,p,B,hT,h,hB=>by
  simp only [List.length_cons] at hB ⊢
  unfold Mo.atomicL
  simp only
  split
  ·exact (PM.atomicL ht r last p B hT h (by omega)).mono (by omega)
  ·refine (PM.atomicL ht r _ _ (B+1) (hT.mono (by omega)) ?_ (by omega)).mono (by omega)
   exact (((h.number _).acquire hT _).tick ht (by omega) _).release (hT.mono (by omega)) _
theorem refused_th {T:Th} {e:Ev} (h:refused T e=false):0≤e.th∧e.th < 8:=by
 unfold refused at h
 simp only [Bool.or_eq_false_iff,decide_eq_false_iff_not] at h
 omega
theorem refused_at {T:Th} {e:Ev} (h:refused T e=false) (hk:e.kind=4):e.n≤16:=by
 unfold refused at h
 have:(accesses e).2.1=true:=by unfold accesses; rw [if_neg (by omega),if_neg (by omega),if_pos hk]
 rw [this] at h
 simp only [Bool.or_eq_false_iff,Bool.true_and,decide_eq_false_iff_not] at h
 omega
theorem PM.act {T:Th} {e:Ev} {p0 p:Pl} {B:Int} (hr:refused T e=false) (hT:ThB T B) (h:PM T e p0 p B) (hB:B+16 < 4611686018427387904):PM T e p0 (act T e p) (B+16):=by
 have ht:=refused_th hr
 unfold Mo.act
 split
 ·rename_i hk
  have:=refused_at hr hk
  have hl:(bytes e.a e.n).length=e.n.toNat:=by simp [bytes]
  exact (PM.atomicL ht _ _ _ B hT h (by rw [hl]; omega)).mono (by rw [hl]; omega)
 ·split
  ·unfold spawn
   split
   ·exact PM.mono (B:=B) (h.same rfl rfl rfl) (by omega)
   ·exact PM.mono (B:=B+1) ((h.tick ht (by omega) ⟨5,0,e.n,0⟩).same rfl rfl rfl) (by omega)
  ·split
   ·unfold Mo.join
    split
    ·exact PM.mono (B:=B) (h.same rfl rfl rfl) (by omega)
    ·have hc:=hT.getC e.n
     have h':PM T e p0 { p with own:=joinC p.own (getC T.clocks e.n) } B:=
      ⟨h.own.join hc,h.objs,h.nd,fun t=>Int.le_trans (h.grow t) (join_l h.own.1 hc.1 t),h.ob,h.tk.1,Int.le_trans h.tk.2 (join_l h.own.1 hc.1 e.th)⟩
     exact PM.mono (B:=B+1) ((h'.tick ht (by omega) ⟨6,0,e.n,0⟩).same rfl rfl rfl) (by omega)
   ·split
    ·exact PM.mono (B:=B+1) (((h.number _).acquire hT _).tick ht (by omega) _) (by omega)
    ·split
     ·exact PM.mono (B:=B+1) (((h.number _).tick ht (by omega) _).release (hT.mono (by omega)) _) (by omega)
     ·exact PM.mono (B:=B+1) (h.tick ht (by omega) _) (by omega)
theorem pl0_PM {T:Th} {e:Ev} {B:Int} (hT:ThB T B):PM T e (pl0 T e) (pl0 T e) B:=
 ⟨hT.getC e.th,by simp [pl0],by simp [pl0],fun _=>Int.le_refl _,fun _ _=>Int.le_refl _,Int.le_refl _,((hT.getC e.th).2 e.th).1⟩
theorem plan_act {T:Th} {e:Ev} {p:Pl} (h:plan T e=some p):refused T e=false∧p=act T e (pl0 T e)∧p.bad=false:=by
 unfold plan at h
 split at h
 ·cases h
 ·rename_i hr
  split at h
  ·cases h
  ·rename_i hb
   cases h
   exact ⟨by simpa using hr,rfl,by simpa using hb⟩
theorem plan_PM {T:Th} {e:Ev} {p:Pl} {B:Int} (h:plan T e=some p) (hT:ThB T B) (hB:B+16 < 4611686018427387904):PM T e (pl0 T e) p (B+16):=by
 obtain ⟨hr,rfl,_⟩:=plan_act h
 exact PM.act hr hT (pl0_PM hT) hB
theorem perform_objs {T:Th} {e:Ev} {p:Pl} (hn:(p.objs.map (·.1)).Nodup) (k:Ob):(look (perform T e p).objs k).getD zeroC=clockOf T p k:=by
 have:(perform T e p).objs=putAll T.objs p.objs:=by unfold perform; simp only; split <;> split <;> split <;> rfl
 rw [this,putAll_look _ _ hn]
 unfold clockOf
 cases look p.objs k <;> rfl
theorem perform_clocks (T:Th) (e:Ev) (p:Pl):(perform T e p).clocks=if p.fork≥0 then (T.clocks.set e.th.toNat p.own).set p.fork.toNat (joinC (getC (T.clocks.set e.th.toNat p.own) p.fork) p.own) else T.clocks.set e.th.toNat p.own:=by
 unfold perform; simp only; split <;> split <;> split <;> rfl
theorem getC_set {l:List Clk} {i:Nat} (hi:i < l.length) (c:Clk) (u:Int):getC (l.set i c) u=if u.toNat=i then c else getC l u:=by
 unfold getC
 simp only [List.getD_eq_getElem?_getD,List.getElem?_set]
 by_cases h:i=u.toNat
 ·simp [h,h ▸ hi]
 ·simp [h,Ne.symm h]
theorem perform_ThB {T:Th} {e:Ev} {p:Pl} {B:Int} (h:plan T e=some p) (hT:ThB T B) (hB:B+16 < 4611686018427387904):ThB (perform T e p) (B+16):=by
 have hp:=plan_PM h hT hB
 have hT':=hT.mono (by omega:B≤B+16)
 have hset:∀ c∈T.clocks.set e.th.toNat p.own,CB c (B+16):=fun c hc=>by
  rcases List.mem_or_eq_of_mem_set hc with hc | rfl
  ·exact hT'.each c hc
  ·exact hp.own
 have hg:∀ u,CB (getC (T.clocks.set e.th.toNat p.own) u) (B+16):=fun u=>by
  unfold getC
  rw [List.getD_eq_getElem?_getD]
  cases hx:(T.clocks.set e.th.toNat p.own)[u.toNat]? with
  | none=>exact CB.zero hT'.pos
  | some c=>exact hset c (List.mem_of_getElem? hx)
 refine ⟨?_,fun c hc=>?_,fun q hq=>?_,hT'.pos⟩
 ·rw [perform_clocks]; split <;> simp [hT.clocks]
 ·rw [perform_clocks] at hc
  split at hc
  ·rcases List.mem_or_eq_of_mem_set hc with hc | rfl
   ·exact hset c hc
   ·exact (hg _).join hp.own
  ·exact hset c hc
 ·have:(perform T e p).objs=putAll T.objs p.objs:=by unfold perform; simp only; split <;> split <;> split <;> rfl
  rw [this] at hq
  rcases putAll_mem _ _ hq with hq | ⟨r,hr,he⟩
  ·exact hT'.objs q hq
  ·rw [he]; exact hp.objs r hr
theorem perform_own {T:Th} {e:Ev} {p:Pl} {B:Int} (h:plan T e=some p) (hT:ThB T B) (hB:B+16 < 4611686018427387904) (t:Int):at0 p.own t≤at0 (getC (perform T e p).clocks e.th) t:=by
 have hp:=plan_PM h hT hB
 have ht:=refused_th (plan_refused h)
 have hi:e.th.toNat < T.clocks.length:=by rw [hT.clocks]; omega
 rw [perform_clocks]
 split
 ·rw [getC_set (by rw [List.length_set,hT.clocks]; have:=(plan_fork h).1; omega)]
  split
  ·rename_i hf
   have:getC (T.clocks.set e.th.toNat p.own) p.fork=p.own:=by rw [getC_set hi,if_pos hf.symm]
   rw [this]
   exact join_l hp.own.1 hp.own.1 t
  ·rw [getC_set hi,if_pos rfl]; exact Int.le_refl _
 ·rw [getC_set hi,if_pos rfl]; exact Int.le_refl _
theorem perform_grow {T:Th} {e:Ev} {p:Pl} {B:Int} (h:plan T e=some p) (hT:ThB T B) (hB:B+16 < 4611686018427387904) (u t:Int):at0 (getC T.clocks u) t≤at0 (getC (perform T e p).clocks u) t:=by
 have hp:=plan_PM h hT hB
 have ht:=refused_th (plan_refused h)
 have hi:e.th.toNat < T.clocks.length:=by rw [hT.clocks]; omega
 have h1:∀ u,at0 (getC T.clocks u) t≤at0 (getC (T.clocks.set e.th.toNat p.own) u) t:=fun u=>by
  rw [getC_set hi]
  split
  ·rename_i hu
   have:getC T.clocks u=(pl0 T e).own:=by unfold getC pl0; simp only [getC,hu]
   rw [this]
   exact hp.grow t
  ·exact Int.le_refl _
 have hl:∀ u,(getC (T.clocks.set e.th.toNat p.own) u).length=8:=fun u=>by
  rw [getC_set hi]
  split
  ·exact hp.own.1
  ·exact (hT.getC u).1
 rw [perform_clocks]
 split
 ·rw [getC_set (by rw [List.length_set,hT.clocks]; have:=(plan_fork h).1; omega)]
  split
  ·rename_i hf
   have:getC (T.clocks.set e.th.toNat p.own) p.fork=getC (T.clocks.set e.th.toNat p.own) u:=by unfold getC; rw [hf]
   rw [this]
   exact Int.le_trans (h1 u) (join_l (hl u) hp.own.1 t)
  ·exact h1 u
 ·exact h1 u
end Go.Fx.Mo
namespace Go.Fx.Mo
def edge (u:Int) (o:Ord):Bool:=o.th == u || (o.kind == 5 && o.other == u)
def relK (o:Ord):Bool:=o.kind == 2 || o.kind == 4
def acqK (o:Ord):Bool:=o.kind == 3 || o.kind == 4
theorem direct_is (a b:Ord):direct a b=true↔edge b.th a=true∨(b.kind=6∧edge b.other a=true)∨(acqK b=true∧relK a=true∧a.obj=b.obj):=by
 unfold direct edge relK acqK
 simp only [Bool.or_eq_true,Bool.and_eq_true,beq_iff_eq]
 constructor
 ·rintro (h | ⟨h1,h2⟩ | ⟨⟨h1,h2⟩,h3⟩)
  ·exact .inl h
  ·exact .inr (.inl ⟨h1,h2⟩)
  ·exact .inr (.inr ⟨h2,h1,h3⟩)
 ·rintro (h | ⟨h1,h2⟩ | ⟨h2,h1,h3⟩)
  ·exact .inl h
  ·exact .inr (.inl ⟨h1,h2⟩)
  ·exact .inr (.inr ⟨⟨h1,h2⟩,h3⟩)
def Kn (L:List Ord) (a:Nat) (P:Ord→Bool):Prop:=∃ b,b < L.length∧(a=b∨HB L a b)∧P (opA L b)=true
structure VI (cl:Int→Clk) (ob:Ob→Clk) (L:List Ord) (tk:List Int) (objs:List Ob) (B:Int):Prop where
 len:tk.length=L.length
 th:∀ a,a < L.length→0≤(opA L a).th∧(opA L a).th < 8
 pos:∀ a,a < L.length→1≤tk.getD a 0
 obj:∀ a,a < L.length→relK (opA L a)=true→0≤(opA L a).obj∧(opA L a).obj < objs.length
 T:∀ u,0≤u→u < 8→∀ a,a < L.length→(tk.getD a 0≤at0 (cl u) (opA L a).th↔Kn L a (edge u))
 O:∀ k a,a < L.length→(tk.getD a 0≤at0 (ob k) (opA L a).th↔Kn L a fun o=>relK o && o.obj == (numb objs k:Nat))
 mT:∀ u t,0≤u→u < 8→0≤t→t < 8→at0 (cl u) t≤at0 (cl t) t
 mO:∀ k t,0≤t→t < 8→at0 (ob k) t≤at0 (cl t) t
 cb:∀ u,0≤u→u < 8→CB (cl u) B
 co:∀ k,CB (ob k) B
theorem join_le {c d:Clk} (hc:c.length=8) (hd:d.length=8) (s v:Int):v≤at0 (joinC c d) s↔v≤at0 c s∨v≤at0 d s:=by
 rw [joinC_at hc hd]
 split <;> omega
theorem numb_inj {objs:List Ob} {x k:Ob} (hx:x∈objs) (h:numb objs k=numb objs x):k=x:=by
 have h1:objs.idxOf x < objs.length:=List.idxOf_lt_length_of_mem hx
 unfold numb at h
 have h2:objs.idxOf k < objs.length:=by omega
 have e1:objs[objs.idxOf k]=k:=List.getElem_idxOf h2
 have e2:objs[objs.idxOf x]=x:=List.getElem_idxOf h1
 rw [← e1,← e2]
 simp only [h]
theorem VI.op {cl cl':Int→Clk} {ob ob':Ob→Clk} {L:List Ord} {tk:List Int} {objs:List Ob} {B:Int} (h:VI cl ob L tk objs B) {o:Ord} {own own0:Clk} {x:Ob}
  (ht:0≤o.th∧o.th < 8)
  (hown0:∀ s v,v≤at0 own0 s↔v≤at0 (cl o.th) s∨(acqK o=true∧v≤at0 (ob x) s)∨(o.kind=6∧v≤at0 (cl o.other) s))
  (hown:∀ s,0≤s→s < 8→at0 own s=if s=o.th then at0 own0 o.th+1 else at0 own0 s) (hownB:CB own (B+1))
  (hj:o.kind=6→0≤o.other∧o.other < 8) (hf:o.kind=5→0≤o.other∧o.other < 8∧o.other≠o.th)
  (hx:relK o=true∨acqK o=true→o.obj=(numb objs x:Nat)∧x∈objs)
  (hcl:∀ u,0≤u→u < 8→cl' u=if u=o.th then own else if o.kind=5∧u=o.other then joinC (cl u) own else cl u)
  (hob:∀ k,ob' k=if relK o=true∧k=x then joinC (ob k) own else ob k) :
  VI cl' ob' (L++[o]) (tk++[at0 own o.th]) objs (B+1):=by
 have hlen:(L++[o]).length=L.length+1:=by simp
 have oN:opA (L++[o]) L.length=o:=by unfold opA; simp [List.getD]
 have oL:∀ a,a < L.length→opA (L++[o]) a=opA L a:=fun a ha=>opA_left ha
 have tN:(tk++[at0 own o.th]).getD L.length 0=at0 own o.th:=by rw [← h.len]; simp [List.getD]
 have tL:∀ a,a < L.length→(tk++[at0 own o.th]).getD a 0=tk.getD a 0:=fun a ha=>by
  have:a < tk.length:=by rw [h.len]; exact ha
  simp [List.getD,List.getElem?_append_left this]
 have split:∀ a,a < L.length+1→a < L.length∨a=L.length:=fun a ha=>by omega
 have ownT:at0 own o.th=at0 own0 o.th+1:=by rw [hown _ ht.1 ht.2,if_pos rfl]
 have clown:∀ s,at0 (cl o.th) s≤at0 own0 s:=fun s=>(hown0 s _).2 (.inl (Int.le_refl _))
 have hbL:∀ a c,c < L.length→(HB (L++[o]) a c↔HB L a c):=fun a c hc=>⟨fun h=>h.of_app hc,fun h=>h.app⟩
 have K0:∀ a,a < L.length→(tk.getD a 0≤at0 own0 (opA L a).th↔HB (L++[o]) a L.length):=by
  intro a ha
  rw [hown0,h.T _ ht.1 ht.2 a ha,HB.last (by omega)]
  constructor
  ·rintro (⟨b,hb,h1,h2⟩ | ⟨h0,h1⟩ | ⟨h0,h1⟩)
   ·exact ⟨b,hb,h1.imp id fun h=>h.app,by rw [oN,oL b hb,direct_is]; exact .inl h2⟩
   ·obtain ⟨b,hb,h1,h2⟩:=(h.O x a ha).1 h1
    rw [Bool.and_eq_true,beq_iff_eq] at h2
    exact ⟨b,hb,h1.imp id fun h=>h.app,by rw [oN,oL b hb,direct_is]; exact .inr (.inr ⟨h0,h2.1,h2.2.trans (hx (.inr h0)).1.symm⟩)⟩
   ·obtain ⟨h3,h4⟩:=hj h0
    obtain ⟨b,hb,h1,h2⟩:=(h.T _ h3 h4 a ha).1 h1
    exact ⟨b,hb,h1.imp id fun h=>h.app,by rw [oN,oL b hb,direct_is]; exact .inr (.inl ⟨h0,h2⟩)⟩
  ·rintro ⟨b,hb,h1,h2⟩
   have h1:a=b∨HB L a b:=h1.imp id fun h=>h.of_app hb
   rw [oN,oL b hb,direct_is] at h2
   rcases h2 with h2 | ⟨h0,h2⟩ | ⟨h0,h2,h3⟩
   ·exact .inl ⟨b,hb,h1,h2⟩
   ·obtain ⟨h3,h4⟩:=hj h0
    exact .inr (.inr ⟨h0,(h.T _ h3 h4 a ha).2 ⟨b,hb,h1,h2⟩⟩)
   ·refine .inr (.inl ⟨h0,(h.O x a ha).2 ⟨b,hb,h1,?_⟩⟩)
    rw [Bool.and_eq_true,beq_iff_eq]
    exact ⟨h2,h3.trans (hx (.inr h0)).1⟩
 have selfT:∀ a,a < L.length→tk.getD a 0≤at0 (cl (opA L a).th) (opA L a).th:=fun a ha=>
  (h.T _ (h.th a ha).1 (h.th a ha).2 a ha).2 ⟨a,ha,.inl rfl,by simp [edge]⟩
 have K1:∀ a,a < L.length→(tk.getD a 0≤at0 own (opA L a).th↔HB (L++[o]) a L.length):=by
  intro a ha
  rw [hown _ (h.th a ha).1 (h.th a ha).2]
  by_cases he:(opA L a).th=o.th
  ·rw [if_pos he]
   have h1:=selfT a ha
   rw [he] at h1
   have h2:=clown o.th
   have h3:tk.getD a 0≤at0 own0 (opA L a).th:=by rw [he]; omega
   constructor
   ·exact fun _=>(K0 a ha).1 h3
   ·intro _; rw [he] at h3; omega
  ·rw [if_neg he]; exact K0 a ha
 have knL:∀ a P,a < L.length→(Kn (L++[o]) a P↔Kn L a P∨(HB (L++[o]) a L.length∧P o=true)):=by
  intro a P ha
  constructor
  ·rintro ⟨b,hb,h1,h2⟩
   rcases split b (by omega) with hb | rfl
   ·rw [oL b hb] at h2
    exact .inl ⟨b,hb,h1.imp id fun h=>h.of_app hb,h2⟩
   ·rw [oN] at h2
    rcases h1 with h1 | h1
    ·omega
    ·exact .inr ⟨h1,h2⟩
  ·rintro (⟨b,hb,h1,h2⟩ | ⟨h1,h2⟩)
   ·exact ⟨b,by omega,h1.imp id fun h=>h.app,by rw [oL b hb]; exact h2⟩
   ·exact ⟨L.length,by omega,.inr h1,by rw [oN]; exact h2⟩
 have knN:∀ P,(Kn (L++[o]) L.length P↔P o=true):=by
  intro P
  constructor
  ·rintro ⟨b,hb,h1,h2⟩
   rcases h1 with rfl | h1
   ·rw [oN] at h2; exact h2
   ·have:=h1.lt; omega
  ·exact fun h2=>⟨L.length,by omega,.inl rfl,by rw [oN]; exact h2⟩
 have lowT:∀ u,0≤u→u < 8→¬ at0 own o.th≤at0 (cl u) o.th:=fun u h0 h8=>by
  have:=h.mT u o.th h0 h8 ht.1 ht.2
  have:=clown o.th
  omega
 have lowO:∀ k,¬ at0 own o.th≤at0 (ob k) o.th:=fun k=>by
  have:=h.mO k o.th ht.1 ht.2
  have:=clown o.th
  omega
 have own0M:∀ s,0≤s→s < 8→at0 own0 s≤at0 (cl s) s:=by
  intro s h0 h8
  rcases (hown0 s (at0 own0 s)).1 (Int.le_refl _) with h1 | ⟨_,h1⟩ | ⟨h6,h1⟩
  ·have:=h.mT o.th s ht.1 ht.2 h0 h8; omega
  ·have:=h.mO x s h0 h8; omega
  ·have:=h.mT o.other s (hj h6).1 (hj h6).2 h0 h8; omega
 have hL8:own.length=8:=hownB.1
 have clM:∀ s,0≤s→s < 8→at0 (cl s) s≤at0 (cl' s) s:=by
  intro s h0 h8
  rw [hcl s h0 h8]
  split
  ·rename_i he; rw [he,ownT]; have:=clown o.th; omega
  ·split
   ·exact join_l (h.cb s h0 h8).1 hL8 s
   ·exact Int.le_refl _
 have ownM:∀ s,0≤s→s < 8→at0 own s≤at0 (cl' s) s:=by
  intro s h0 h8
  by_cases he:s=o.th
  ·rw [hcl s h0 h8,if_pos he]; exact Int.le_refl _
  ·rw [hown s h0 h8,if_neg he]
   have:=own0M s h0 h8
   have:=clM s h0 h8
   omega
 refine ⟨by simp [h.len],fun a ha=>?_,fun a ha=>?_,fun a ha hr=>?_,fun u h0 h8 a ha=>?_,fun k a ha=>?_,fun u t h0 h8 t0 t8=>?_,fun k t t0 t8=>?_,fun u h0 h8=>?_,fun k=>?_⟩
 ·rcases split a (by omega) with ha | rfl
  ·rw [oL a ha]; exact h.th a ha
  ·rw [oN]; exact ht
 ·rcases split a (by omega) with ha | rfl
  ·rw [tL a ha]; exact h.pos a ha
  ·rw [tN,ownT]
   have:=(h.cb o.th ht.1 ht.2).2 o.th
   have:=clown o.th
   omega
 ·rcases split a (by omega) with ha | rfl
  ·rw [oL a ha] at hr ⊢; exact h.obj a ha hr
  ·rw [oN] at hr ⊢
   obtain ⟨h1,h2⟩:=hx (.inl hr)
   have:objs.idxOf x < objs.length:=List.idxOf_lt_length_of_mem h2
   unfold numb at h1
   omega
 ·-- threads
  rw [hcl u h0 h8]
  by_cases hu:u=o.th
  ·rw [if_pos hu]
   rcases split a (by omega) with ha | rfl
   ·rw [tL a ha,oL a ha,K1 a ha,knL a _ ha]
    constructor
    ·exact fun hh=>.inr ⟨hh,by simp [edge,hu]⟩
    ·rintro (hh | ⟨hh,_⟩)
     ·refine (K0 a ha).1 ?_
      have:=(h.T u h0 h8 a ha).2 hh
      rw [hu] at this
      have:=clown (opA L a).th
      omega
     ·exact hh
   ·rw [tN,oN,knN]
    simp [edge,hu]
  ·rw [if_neg hu]
   by_cases hfk:o.kind=5∧u=o.other
   ·rw [if_pos hfk]
    have heo:edge u o=true:=by simp [edge,hfk.1,hfk.2]
    rw [join_le (h.cb u h0 h8).1 hL8]
    rcases split a (by omega) with ha | rfl
    ·rw [tL a ha,oL a ha,K1 a ha,h.T u h0 h8 a ha,knL a _ ha]
     simp [heo]
    ·rw [tN,oN,knN]
     simp [heo]
   ·rw [if_neg hfk]
    have heo:edge u o=false:=by
     unfold edge
     rw [Bool.or_eq_false_iff,Bool.and_eq_false_iff]
     refine ⟨by simpa using fun h=>hu h.symm,?_⟩
     by_cases h5:o.kind=5
     ·right; simpa using fun h=>hfk ⟨h5,h.symm⟩
     ·left; simpa using h5
    rcases split a (by omega) with ha | rfl
    ·rw [tL a ha,oL a ha,h.T u h0 h8 a ha,knL a _ ha]
     simp [heo]
    ·rw [tN,oN,knN,heo]
     simp only [Bool.false_eq_true,iff_false]
     exact lowT u h0 h8
 ·-- objects
  rw [hob k]
  by_cases hk:relK o=true∧k=x
  ·rw [if_pos hk]
   have hP:(relK o && o.obj == (numb objs k:Nat))=true:=by rw [hk.1,hk.2,(hx (.inl hk.1)).1]; simp
   rw [join_le (h.co k).1 hL8]
   rcases split a (by omega) with ha | rfl
   ·rw [tL a ha,oL a ha,K1 a ha,h.O k a ha,knL a _ ha]
    simp only [hP,and_true]
   ·rw [tN,oN,knN]
    simp [hP]
  ·rw [if_neg hk]
   have hP:(relK o && o.obj == (numb objs k:Nat))=false:=by
    rw [Bool.and_eq_false_iff]
    by_cases hr:relK o=true
    ·right
     obtain ⟨h1,h2⟩:=hx (.inl hr)
     rw [beq_eq_false_iff_ne,h1]
     intro he
     exact hk ⟨hr,numb_inj h2 (by omega)⟩
    ·left; simpa using hr
   rcases split a (by omega) with ha | rfl
   ·rw [tL a ha,oL a ha,h.O k a ha,knL a _ ha]
    simp only [hP,Bool.false_eq_true,and_false,or_false]
   ·rw [tN,oN,knN]
    simp only [hP,Bool.false_eq_true,iff_false]
    exact lowO k
 ·have h1:=clM t t0 t8
  have h2:=ownM t t0 t8
  rw [hcl u h0 h8]
  split
  ·exact h2
  ·split
   ·have h3:=h.mT u t h0 h8 t0 t8
    rw [joinC_at (h.cb u h0 h8).1 hL8]
    split <;> omega
   ·have h3:=h.mT u t h0 h8 t0 t8
    omega
 ·have h1:=clM t t0 t8
  have h2:=ownM t t0 t8
  have h3:=h.mO k t t0 t8
  rw [hob k]
  split
  ·rw [joinC_at (h.co k).1 hL8]
   split <;> omega
  ·omega
 ·rw [hcl u h0 h8]
  have h1:=(h.cb u h0 h8).mono (by omega:B≤B+1)
  split
  ·exact hownB
  ·split
   ·exact h1.join hownB
   ·exact h1
 ·rw [hob k]
  have h1:=(h.co k).mono (by omega:B≤B+1)
  split
  ·exact h1.join hownB
  ·exact h1
theorem VI.come {cl:Int→Clk} {ob:Ob→Clk} {L:List Ord} {tk:List Int} {objs:List Ob} {B:Int} (h:VI cl ob L tk objs B) {y:Ob} (hy:y ∉ objs):VI cl ob L tk (objs++[y]) B:=by
 refine ⟨h.len,h.th,h.pos,fun a ha hr=>?_,h.T,fun k a ha=>?_,h.mT,h.mO,h.cb,h.co⟩
 ·have h1:=h.obj a ha hr
  refine ⟨h1.1,?_⟩
  have h2:=h1.2
  have h3:(objs++[y]).length=objs.length+1:=by simp
  rw [h3]
  omega
 ·rw [h.O k a ha]
  have key:∀ b,b < L.length→relK (opA L b)=true→((opA L b).obj == (numb objs k:Nat))=((opA L b).obj == (numb (objs++[y]) k:Nat)):=by
   intro b hb hr
   obtain ⟨h1,h2⟩:=h.obj b hb hr
   unfold numb
   rw [List.idxOf_append]
   by_cases hk:k∈objs
   ·rw [if_pos hk]
   ·rw [if_neg hk,List.idxOf_eq_length hk]
    have e1:((opA L b).obj == (objs.length:Int))=false:=by rw [beq_eq_false_iff_ne]; omega
    have e2:((opA L b).obj == ((List.idxOf k [y]+objs.length:Nat):Int))=false:=by rw [beq_eq_false_iff_ne]; omega
    rw [e1,e2]
  constructor
  ·rintro ⟨b,hb,h1,h2⟩
   rw [Bool.and_eq_true] at h2
   exact ⟨b,hb,h1,by rw [Bool.and_eq_true,← key b hb h2.1]; exact h2⟩
  ·rintro ⟨b,hb,h1,h2⟩
   rw [Bool.and_eq_true] at h2
   exact ⟨b,hb,h1,by rw [Bool.and_eq_true,key b hb h2.1]; exact h2⟩
theorem VI.congr {cl cl':Int→Clk} {ob ob':Ob→Clk} {L:List Ord} {tk:List Int} {objs:List Ob} {B B':Int} (h:VI cl ob L tk objs B) (h1:∀ u,0≤u→u < 8→cl' u=cl u) (h2:∀ k,ob' k=ob k) (hB:B≤B'):VI cl' ob' L tk objs B':=by
 have e:ob'=ob:=funext h2
 subst e
 refine ⟨h.len,h.th,h.pos,h.obj,fun u h0 h8 a ha=>by rw [h1 u h0 h8]; exact h.T u h0 h8 a ha,h.O,fun u t h0 h8 t0 t8=>by rw [h1 u h0 h8,h1 t t0 t8]; exact h.mT u t h0 h8 t0 t8,fun k t t0 t8=>by rw [h1 t t0 t8]; exact h.mO k t t0 t8,fun u h0 h8=>by rw [h1 u h0 h8]; exact (h.cb u h0 h8).mono hB,fun k=>(h.co k).mono hB⟩
end Go.Fx.Mo
namespace Go.Fx.Mo
def enumO:Nat→List Ob→List (Ob × Int)
 | _,[]=>[]
 | k,x::t=>(x,(k:Int))::enumO (k+1) t
theorem enumO_len:∀ (k:Nat) (l:List Ob),(enumO k l).length=l.length
 | _,[]=>rfl
 | k,x::t=>by simp [enumO,enumO_len (k+1) t]
theorem enumO_snoc:∀ (k:Nat) (l:List Ob) (x:Ob),enumO k (l++[x])=enumO k l++[(x,((k+l.length:Nat):Int))]
 | k,[],x=>by simp [enumO]
 | k,y::t,x=>by
  simp only [List.cons_append,enumO,enumO_snoc (k+1) t x,List.length_cons]
  rw [show k+1+t.length=k+(t.length+1) by omega]
theorem enumO_keys:∀ (k:Nat) (l:List Ob),(enumO k l).map (·.1)=l
 | _,[]=>rfl
 | k,x::t=>by simp [enumO,enumO_keys (k+1) t]
theorem look_cons {K V:Type} [DecidableEq K] (p:K × V) (m:List (K × V)) (k:K):look (p::m) k=if p.1=k then some p.2 else look m k:=by
 unfold look
 rw [List.find?_cons]
 by_cases hk:p.1=k
 ·simp [hk]
 ·have:(p.1 == k)=false:=by simpa using hk
  rw [this,if_neg hk]
theorem numb_cons (y x:Ob) (t:List Ob):numb (y::t) x=if y=x then 0 else numb t x+1:=by
 unfold numb
 rw [List.idxOf_cons]
 by_cases h:y=x
 ·simp [h]
 ·have:(y == x)=false:=by simpa using h
  rw [this,if_neg h]; rfl
theorem look_enumO:∀ (k:Nat) (l:List Ob) (x:Ob),look (enumO k l) x=if x∈l then some ((k+numb l x:Nat):Int) else none
 | k,[],x=>by simp [enumO,look]
 | k,y::t,x=>by
  have ih:=look_enumO (k+1) t x
  unfold enumO
  rw [look_cons,ih,numb_cons]
  by_cases h:y=x
  ·subst h; simp
  ·have h2:¬ x=y:=fun h'=>h h'.symm
   rw [if_neg h,if_neg h]
   by_cases hx:x∈t
   ·simp [hx]; omega
   ·simp [hx,h2]
theorem look_app {K V:Type} [DecidableEq K] (a b:List (K × V)) (k:K):look (a++b) k=(look a k).or (look b k):=by
 unfold look
 rw [List.find?_append]
 cases a.find? fun p=>p.1 == k <;> simp
theorem putAll_new {K V:Type} [DecidableEq K]:∀ (u m:List (K × V)),((m++u).map (·.1)).Nodup→putAll m u=m++u
 | [],m,_=>by simp [putAll]
 | p::r,m,h=>by
  have hn:look m p.1=none:=by
   rw [look_none]
   intro q hq he
   rw [List.map_append,List.nodup_append] at h
   exact h.2.2 q.1 (List.mem_map.2 ⟨q,hq,rfl⟩) p.1 (by simp) he
  have e:put m p.1 p.2=m++[p]:=by unfold put; rw [hn]
  rw [putAll,e,putAll_new r (m++[p]) (by simpa using h)]
  simp
theorem numb_lt {l:List Ob} {x:Ob}:numb l x < l.length↔x∈l:=List.idxOf_lt_length_iff
theorem numb_le (l:List Ob) (x:Ob):numb l x≤l.length:=List.idxOf_le_length
theorem come_mem (r:RR) (x:Ob):x∈(come r x).objs:=by
 unfold come
 split
 ·simp
 ·rename_i h
  have:=numb_le r.objs x
  exact numb_lt.1 (by omega)
theorem come_numb (r:RR) (x:Ob):numb (come r x).objs x=numb r.objs x:=by
 unfold come
 split
 ·rename_i h
  have hn:x ∉ r.objs:=fun hx=>by have:=numb_lt.2 hx; omega
  show (r.objs++[x]).idxOf x=_
  rw [List.idxOf_append,if_neg hn,h]
  simp
 ·rfl
theorem number_spec {T:Th} {p:Pl} {r:RR} {x:Ob} (hn:T.names++p.names=enumO 0 r.objs) (hl:r.objs.length≤65536) :
  (number T p x).1=(numb r.objs x:Nat)∧T.names++(number T p x).2.names=enumO 0 (come r x).objs∧(number T p x).2={ p with names:=(number T p x).2.names,bad:=p.bad || decide (numb r.objs x≥65536) }:=by
 have hlen:T.names.length+p.names.length=r.objs.length:=by
  have:=congrArg List.length hn
  simpa [enumO_len] using this
 have hlook:∀ k,(look T.names k).or (look p.names k)=if k∈r.objs then some ((numb r.objs k:Nat):Int) else none:=fun k=>by
  rw [← look_app,hn,look_enumO]; simp
 by_cases hx:x∈r.objs
 ·have h1:=hlook x
  rw [if_pos hx] at h1
  have h2:=numb_lt.2 hx
  have hc:come r x=r:=by unfold come; rw [if_neg (by omega)]
  have hb:decide (numb r.objs x≥65536)=false:=by simp; omega
  rw [hc,hb,Bool.or_false]
  unfold number
  cases h3:look T.names x with
  | some n=>
   rw [h3] at h1
   simp at h1
   exact ⟨h1,hn,rfl⟩
  | none=>
   rw [h3,Option.none_or] at h1
   rw [h1]
   exact ⟨rfl,hn,rfl⟩
 ·have h1:=hlook x
  rw [if_neg hx] at h1
  have h3:look T.names x=none:=by cases h:look T.names x <;> simp [h] at h1 ⊢
  have h4:look p.names x=none:=by rw [h3,Option.none_or] at h1; exact h1
  have h5:numb r.objs x=r.objs.length:=by
   have:=numb_le r.objs x
   have:=mt numb_lt.1 hx
   omega
  have hc:come r x={ r with objs:=r.objs++[x] }:=by unfold come; rw [if_pos h5]
  have hw:w64 ((T.names.length:Int)+(p.names.length:Int))=(r.objs.length:Int):=by rw [w64_small (by omega) (by omega)]; omega
  have e:number T p x=((r.objs.length:Int),{ p with names:=put p.names x (r.objs.length:Int),bad:=p.bad || decide ((r.objs.length:Int)≥65536) }):=by
   unfold number
   rw [h3,h4]
   dsimp only
   rw [hw]
  rw [e,hc,h5]
  refine ⟨rfl,?_,?_⟩
  ·show T.names++put p.names x (r.objs.length:Int)=enumO 0 (r.objs++[x])
   have e2:put p.names x (r.objs.length:Int)=p.names++[(x,(r.objs.length:Int))]:=by unfold put; rw [h4]
   rw [e2,enumO_snoc,← List.append_assoc,hn]
   simp
  ·have:decide ((r.objs.length:Int)≥65536)=decide (r.objs.length≥65536):=by
    by_cases h:r.objs.length≥65536
    ·rw [decide_eq_true h,decide_eq_true (by omega)]
    ·rw [decide_eq_false h,decide_eq_false (by omega)]
   rw [this]
def clP (T:Th) (e:Ev) (p:Pl) (u:Int):Clk:=if u=e.th then p.own else getC T.clocks u
structure PR (T:Th) (e:Ev) (i:Int) (r0:RR) (p:Pl) (r:RR) (tk:List Int) (B:Int):Prop where
 L:r.L=r0.L++p.orders
 of:r.of=r0.of++List.replicate p.orders.length i
 begun:r.begun=T.begun
 ended:r.ended=T.ended
 names:T.names++p.names=enumO 0 r.objs
 nd:r.objs.Nodup
 few:r.objs.length≤65536
 bad:p.bad=false
 tkp:p.tk=if p.orders=[] then 0 else tk.getD r0.L.length 0
 vi:VI (clP T e p) (clockOf T p) r.L tk r.objs B
 ndo:(p.objs.map (·.1)).Nodup
 ths:∀ o∈p.orders,o.th=e.th
theorem come_nd {r:RR} (h:r.objs.Nodup) (x:Ob):(come r x).objs.Nodup:=by
 unfold come
 split
 ·rename_i hl
  have hn:x ∉ r.objs:=fun hx=>by have:=numb_lt.2 hx; omega
  show (r.objs++[x]).Nodup
  rw [List.nodup_append]
  exact ⟨h,by simp,fun a ha b hb=>by simp at hb; subst hb; exact fun he=>hn (he ▸ ha)⟩
 ·exact h
theorem vi_come {cl:Int→Clk} {ob:Ob→Clk} {L:List Ord} {tk:List Int} {r:RR} {B:Int} (h:VI cl ob L tk r.objs B) (x:Ob):VI cl ob L tk (come r x).objs B:=by
 unfold come
 split
 ·rename_i hl
  exact VI.come h fun hx=>by have:=numb_lt.2 hx; omega
 ·exact h
def touchP (T:Th) (e:Ev) (k:Int) (p:Pl) (x:Ob):Pl:=
 let q:=(number T p x).2
 let q:=if k=3∨k=4 then acquire T q x else q
 let q:=tick e q ⟨k,0,0,(number T p x).1⟩
 if k=2∨k=4 then release T q x else q
theorem touch_step {T:Th} {e:Ev} {i:Int} {r0 r:RR} {p:Pl} {tk:List Int} {B:Int} {k:Int} {x:Ob} (h:PR T e i r0 p r tk B) (ht:0≤e.th∧e.th < 8) (hk:k=2∨k=3∨k=4) (hbe:getB T.begun e.th=true) (hen:getB T.ended e.th=false)
  (hB:B < 4611686018427387904) (hB0:0≤B) (hlen:tk.length=r.L.length) :
  (rtouch r k e x i=none∧(touchP T e k p x).bad=true)∨∃ r',rtouch r k e x i=some r'∧∃ v,PR T e i r0 (touchP T e k p x) r' (tk++[v]) (B+1):=by
 obtain ⟨n1,n2,n3⟩:=number_spec (x:=x) h.names h.few
 generalize hq:(number T p x).2=q at n2 n3
 have qo:q.own=p.own:=by rw [n3]
 have qob:q.objs=p.objs:=by rw [n3]
 have qor:q.orders=p.orders:=by rw [n3]
 have qtk:q.tk=p.tk:=by rw [n3]
 have qbad:q.bad=(p.bad || decide (numb r.objs x≥65536)):=by rw [n3]
 have qfork:q.fork=p.fork∧q.ends=p.ends:=by rw [n3]; exact ⟨rfl,rfl⟩
 have tbad:(touchP T e k p x).bad=q.bad:=by
  unfold touchP
  rw [hq]
  simp only
  split <;> split <;> rfl
 by_cases hge:numb r.objs x≥65536
 ·left
  refine ⟨by unfold rtouch; rw [if_pos hge],?_⟩
  rw [tbad,qbad,decide_eq_true hge,Bool.or_true]
 ·right
  have qb:q.bad=false:=by rw [qbad,h.bad,decide_eq_false hge]; rfl
  have hbar:barred (come r x) ⟨k,e.th,0,(numb r.objs x:Nat)⟩=false:=by
   have hc:(come r x).begun=r.begun∧(come r x).ended=r.ended:=by unfold come; split <;> exact ⟨rfl,rfl⟩
   have k5:(k == 5)=false:=by rw [beq_eq_false_iff_ne]; omega
   have k6:(k == 6)=false:=by rw [beq_eq_false_iff_ne]; omega
   unfold barred
   rw [hc.1,hc.2,h.begun,h.ended]
   simp only
   rw [hbe,hen,k5,k6]
   rfl
  have hr':rtouch r k e x i=some { (come r x) with L:=(come r x).L++[⟨k,e.th,0,(numb r.objs x:Nat)⟩],of:=(come r x).of++[i] }:=by
   unfold rtouch
   rw [if_neg hge]
   unfold rput
   rw [hbar]
   have k5:¬ k=5:=by omega
   have k6:¬ k=6:=by omega
   simp only [Bool.false_eq_true,if_false,if_neg k5,if_neg k6]
  refine ⟨_,hr',?_⟩
  have hcL:(come r x).L=r.L∧(come r x).of=r.of∧(come r x).begun=r.begun∧(come r x).ended=r.ended:=by unfold come; split <;> exact ⟨rfl,rfl,rfl,rfl⟩
  have ob0:clockOf T q x=clockOf T p x:=by unfold clockOf; rw [qob]
  let own0:Clk:=if k=3∨k=4 then joinC p.own (clockOf T p x) else p.own
  have hp8:p.own.length=8:=by have:=(h.vi.cb e.th ht.1 ht.2).1; unfold clP at this; rw [if_pos rfl] at this; exact this
  have hpB:CB p.own B:=by have:=h.vi.cb e.th ht.1 ht.2; unfold clP at this; rw [if_pos rfl] at this; exact this
  have h0B:CB own0 B:=by
   show CB (if k=3∨k=4 then joinC p.own (clockOf T p x) else p.own) B
   split
   ·exact hpB.join (h.vi.co x)
   ·exact hpB
  let q1:Pl:=if k=3∨k=4 then acquire T q x else q
  have q1own:q1.own=own0:=by
   show (if k=3∨k=4 then acquire T q x else q).own=if k=3∨k=4 then joinC p.own (clockOf T p x) else p.own
   split
   ·show joinC q.own (clockOf T q x)=_
    rw [qo,ob0]
   ·exact qo
  have q1r:q1.objs=p.objs∧q1.orders=p.orders∧q1.tk=p.tk∧q1.names=q.names∧q1.bad=q.bad:=by
   show (if k=3∨k=4 then acquire T q x else q).objs=_∧(if k=3∨k=4 then acquire T q x else q).orders=_∧(if k=3∨k=4 then acquire T q x else q).tk=_∧(if k=3∨k=4 then acquire T q x else q).names=_∧(if k=3∨k=4 then acquire T q x else q).bad=_
   split <;> exact ⟨qob,qor,qtk,rfl,rfl⟩
  let q2:Pl:=tick e q1 ⟨k,0,0,(numb r.objs x:Nat)⟩
  have q1B:CB q1.own B:=by rw [q1own]; exact h0B
  have q2own:=tick_own (e:=e) (p:=q1) (o:=⟨k,0,0,(numb r.objs x:Nat)⟩) q1B ht hB
  have q2B:=tick_CB (e:=e) (p:=q1) (o:=⟨k,0,0,(numb r.objs x:Nat)⟩) q1B ht hB
  have hT:touchP T e k p x=if k=2∨k=4 then release T q2 x else q2:=by
   unfold touchP
   rw [hq,n1]
  have f1:(touchP T e k p x).own=q2.own∧(touchP T e k p x).orders=q2.orders∧(touchP T e k p x).tk=q2.tk∧(touchP T e k p x).names=q2.names:=by
   rw [hT]
   split <;> exact ⟨rfl,rfl,rfl,rfl⟩
  have f2:∀ c,clockOf T (touchP T e k p x) c=if (k=2∨k=4)∧c=x then joinC (clockOf T p c) q2.own else clockOf T p c:=by
   intro c
   have hq2:∀ c,clockOf T q2 c=clockOf T p c:=fun c=>by
    show clockOf T (tick e q1 _) c=_
    unfold clockOf
    show (match look q1.objs c with | some c=>c | none=>_)=_
    rw [q1r.1]
    rfl
   rw [hT]
   by_cases hrel:k=2∨k=4
   ·rw [if_pos hrel,release_clock,hq2 x]
    by_cases hc:c=x
    ·rw [if_pos hc,if_pos ⟨hrel,hc⟩,hc]
    ·rw [if_neg hc,if_neg (fun hh=>hc hh.2),hq2 c]
   ·rw [if_neg hrel,if_neg (fun hh=>hrel hh.1),hq2 c]
  have q2or:q2.orders=p.orders++[⟨k,e.th,0,(numb r.objs x:Nat)⟩]:=by
   show q1.orders++[_]=_
   rw [q1r.2.1]
  have clth:clP T e p e.th=p.own:=by unfold clP; rw [if_pos rfl]
  have q2th:at0 q2.own e.th=at0 own0 e.th+1:=by
   have:=q2own e.th
   rw [if_pos rfl,q1own] at this
   exact this
  refine ⟨at0 q2.own e.th,?_,?_,hcL.2.2.1.trans h.begun,hcL.2.2.2.trans h.ended,?_,come_nd h.nd x,?_,?_,?_,?_,?_,?_⟩
  ·show (come r x).L++_=_
   rw [hcL.1,h.L,f1.2.1,q2or,List.append_assoc]
  ·show (come r x).of++_=_
   rw [hcL.2.1,h.of,f1.2.1,q2or,List.length_append,List.length_singleton,List.replicate_succ',List.append_assoc]
  ·show T.names++(touchP T e k p x).names=enumO 0 (come r x).objs
   rw [f1.2.2.2,← n2]
   show T.names++q1.names=_
   rw [q1r.2.2.2.1]
  ·show (come r x).objs.length≤65536
   unfold come
   split
   ·rename_i hl; simp; omega
   ·exact h.few
  ·rw [tbad]; exact qb
  ·rw [f1.2.2.1,f1.2.1,q2or]
   have h1:¬ (p.orders++[⟨k,e.th,0,(numb r.objs x:Nat)⟩]:List Ord)=[]:=by simp
   rw [if_neg h1]
   show (if q1.tk=0 then at0 q2.own e.th else q1.tk)=_
   rw [q1r.2.2.1,h.tkp]
   by_cases ho:p.orders=[]
   ·rw [if_pos ho,if_pos rfl]
    have hl0:r.L.length=r0.L.length:=by rw [h.L,ho]; simp
    rw [← hl0,← hlen]
    simp [List.getD]
   ·have hpos:=List.length_pos_iff.2 ho
    have hl0:r0.L.length < r.L.length:=by rw [h.L]; simp; omega
    have h1:=h.vi.pos r0.L.length hl0
    rw [if_neg ho,if_neg (by omega)]
    have h3:r0.L.length < tk.length:=by omega
    simp [List.getD,List.getElem?_append_left h3]
  ·show VI _ _ ((come r x).L++[_]) _ (come r x).objs _
   rw [hcL.1]
   have hvi:=vi_come h.vi x
   refine hvi.op (o:=⟨k,e.th,0,(numb r.objs x:Nat)⟩) (own:=q2.own) (own0:=own0) (x:=x) ht (fun s v=>?_) (fun s s0 s8=>?_) q2B (fun h6=>by simp at h6; omega) (fun h5=>by simp at h5; omega) (fun _=>⟨by rw [come_numb],come_mem r x⟩) (fun u u0 u8=>?_) (fun c=>?_)
   ·show v≤at0 (if k=3∨k=4 then joinC p.own (clockOf T p x) else p.own) s↔_
    rw [clth]
    have hacq:acqK ⟨k,e.th,0,(numb r.objs x:Nat)⟩=true↔k=3∨k=4:=by simp [acqK]
    rw [hacq]
    have h6:¬ k=6:=by omega
    by_cases ha:k=3∨k=4
    ·rw [if_pos ha,join_le hp8 (h.vi.co x).1]
     constructor
     ·rintro (h | h)
      ·exact .inl h
      ·exact .inr (.inl ⟨ha,h⟩)
     ·rintro (h | ⟨_,h⟩ | ⟨h,_⟩)
      ·exact .inl h
      ·exact .inr h
      ·exact absurd h h6
    ·rw [if_neg ha]
     constructor
     ·exact fun h=>.inl h
     ·rintro (h | ⟨h,_⟩ | ⟨h,_⟩)
      ·exact h
      ·exact absurd h ha
      ·exact absurd h h6
   ·rw [q2own s,q1own]
    by_cases hs:s=e.th
    ·subst hs; rw [if_pos rfl,if_pos rfl]
    ·have h1:¬ s.toNat=e.th.toNat:=by omega
     rw [if_neg h1]
     show _=if s=e.th then _ else _
     rw [if_neg hs]
   ·show clP T e (touchP T e k p x) u=if u=e.th then q2.own else if k=5∧u=0 then _ else _
    have h5:¬ (k=5∧u=0):=by omega
    rw [if_neg h5]
    unfold clP
    by_cases hu:u=e.th
    ·rw [if_pos hu,if_pos hu]; exact f1.1
    ·rw [if_neg hu,if_neg hu,if_neg hu]
   ·rw [f2 c]
    have hrel:relK ⟨k,e.th,0,(numb r.objs x:Nat)⟩=true↔k=2∨k=4:=by simp [relK]
    simp only [hrel]
  ·rw [hT]
   have h1:q2.objs=p.objs:=q1r.1
   split
   ·show ((put q2.objs x _).map (·.1)).Nodup
    rw [h1]
    exact put_nodup h.ndo _ _
   ·rw [h1]; exact h.ndo
  ·rw [f1.2.1,q2or]
   intro o ho
   rcases List.mem_append.1 ho with ho | ho
   ·exact h.ths o ho
   ·simp at ho; rw [ho]
end Go.Fx.Mo
