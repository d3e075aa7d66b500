/- A part of the proof. -/
import Derived.Test.YtamciedmojpjaaaGreatKaYi
import Derived.KernelRfl
import Derived.Test.YtamciedmojpjaaaGreatKeYi
import Derived.Sort.Walk13a
import Derived.Test.YtamciedmojpjaaaGreatKdYi
import Derived.ChangeKeysEq
import Derived.Shelf.SlMaps.Clone
import Derived.Test.YtamciedmojpjaaaGreatKcYi
import Derived.Test.YtamciedmojpjaaaGreatRows
import Derived.Deep.Slices
import Derived.ProofKit
import Derived.OpenShut
import Derived.JoinedOf
import Derived.Carry
namespace Go.Fx.Tryz
set_option maxRecDepth 100000
open Go Go.Fx Go.Proofs
noncomputable def c125:Code:=bodyOf Tryz.f125
noncomputable def rs125:List ResultVar:=Tryz.f125.results.toList
abbrev f125_kb (K:KT):Exit→YT:=bodyK P rs125 K
def f125 (a:OA) (b c:Nat) (d e f:Int) (w:World) (K:KT):Prop:=CS P c125 none [8,9] [8,9] (f125_kb K) (env0 168 [(VS a b c),(VI d),(VI e),(VI f)]) w
def f125_s0 (a:OA) (b c:Nat) (d e f:Int) (w:World) (K:KT):Prop:=CS P (cA c125 1) none [8,9] [8,9] (f125_kb K) (Env.mk 168 [(0,(VS a b c)),(1,(VI d)),(2,(VI e)),(3,(VI f))] []) w
abbrev f125_k0 (K:KT):Exit→YT:=kseq P (cA c125 2) (cA c125 3) none [8,9] [8,9] (f125_kb K)
def f125_s1 (a:Int) (b:OA) (c d:Nat) (e f g:Int) (w:World) (K:KT):Prop:=CS P (cA c125 3) none [8,9] [8,9] (f125_kb K) (Env.mk 168 [(9,(VB false)),(8,(VI a)),(0,(VS b c d)),(1,(VI e)),(2,(VI f)),(3,(VI g))] []) w
abbrev f125_k1 (K:KT):Exit→YT:=kseq P (cA c125 6) (cA c125 7) none [8,9] [8,9] (f125_kb K)
def f125_s2 (a:Int) (b:Bool) (c:OA) (d f:Nat) (g h:Int) (w:World) (K:KT):Prop:=SG P (cA c125 7) none [8,9] [8,9] (f125_kb K) (Env.mk 168 [(8,(VI a)),(9,(VB b)),(0,(VS c d f)),(1,(VI g)),(2,(VI h))] []) w
abbrev f125_k2 (K:KT):Exit→YT:=kseq P (cA c125 14) (cA c125 15) none [8,9] [8,9] (f125_kb K)
def f125_s3 (a b c d e f g:Int) (h:Bool) (i:OA) (j k:Nat) (l m:Int) (w:World) (K:KT):Prop:=CS P (cA c125 15) none [8,9] [8,9] (f125_kb K) (Env.mk 168 [(11,(VI a)),(10,(VI b)),(29,(VI c)),(28,(VI d)),(27,(VI e)),(26,(VI f)),(8,(VI g)),(9,(VB h)),(0,(VS i j k)),(1,(VI l)),(2,(VI m))] []) w
abbrev f125_k3 (K:KT):Exit→YT:=kseq P (cA c125 30) (cA c125 31) none [8,9] [8,9] (f125_kb K)
abbrev f125_k4 (K:KT):Exit→YT:=kblock 0 (f125_k3 K)
def f125_lp4 (K:KT) (Y4:YT) (e:Env) (w:World):Prop:=Join (fun e w=>CS P (cA c125 120) none [10,8,9,11,0,1] [8,9,11,0,1,10] (kloop [10,8,9,11,0,1] Y4 (f125_k4 K)) e w) e w
abbrev f125_kl4 (K:KT) (Y4:YT):Exit→YT:=kloop [10,8,9,11,0,1] Y4 (f125_k4 K)
def f125_lb4 (a b:Int) (c:Bool) (d:Int) (f:OA) (g h:Nat) (i:Int) (w:World) (K:KT) (Y4:YT):Prop:=SG P (cA c125 120) none [10,8,9,11,0,1] [8,9,11,0,1,10] (f125_kl4 K Y4) (Env.mk 168 [(10,(VI a)),(8,(VI b)),(9,(VB c)),(11,(VI d)),(0,(VS f g h)),(1,(VI i))] []) w
abbrev f125_k5 (K:KT) (Y4:YT):Exit→YT:=kseq P (cA c125 240) (cA c125 241) none [10,8,9,11,0,1] [8,9,11,0,1,10] (f125_kl4 K Y4)
abbrev f125_k6 (K:KT) (Y4:YT):Exit→YT:=kseq P (cA c125 480) (cA c125 481) none [8,9,11,0,1,10] [8,9,11,0,1,10] (f125_k5 K Y4)
def f125_s5 (a:Bool) (b:Int) (c:Bool) (d:Int) (f:OA) (g h:Nat) (i j:Int) (w:World) (K:KT) (Y4:YT):Prop:=SG P (cA c125 481) none [8,9,11,0,1,10] [8,9,11,0,1,10] (f125_k5 K Y4) (Env.mk 168 [(43,(VB a)),(8,(VI b)),(9,(VB c)),(11,(VI d)),(0,(VS f g h)),(1,(VI i)),(10,(VI j))] []) w
def f125_s6 (a:Int) (b:Bool) (c:Int) (d:OA) (f g:Nat) (h i:Int) (w:World) (K:KT) (Y4:YT):Prop:=SG P (cA c125 241) none [10,8,9,11,0,1] [8,9,11,0,1,10] (f125_kl4 K Y4) (Env.mk 168 [(8,(VI a)),(9,(VB b)),(11,(VI c)),(0,(VS d f g)),(1,(VI h)),(10,(VI i))] []) w
abbrev f125_k7 (K:KT) (Y4:YT):Exit→YT:=kblock 1 (f125_kl4 K Y4)
theorem f125_s6_eq (a:Int) (c:Bool) (d:Int) (e:OA) (f g:Nat) (h i:Int) (w:World) (K:KT) (Y4:YT):f125_s6 a c d e f g h i w K Y4=(Y4 (Env.mk 168 [(10,(Value.int .i64 (IntKind.wrap .i64 ((i:Int)+1)))),(8,(Value.int .i64 a)),(9,(Value.bool c)),(11,(Value.int .i64 d)),(0,(Value.slice e f g)),(1,(Value.int .i64 h))] []) w):=Eq.trans SGe (Eq.trans (CSb 1 [8,9,11,0,1,10] (f125_k7 K Y4) (by kernel_rfl)) (by kernel_rfl))
def f125_s7 (a b:Int) (c:Bool) (d:OA) (f g:Nat) (h i:Int) (w:World) (K:KT):Prop:=SG P (cA c125 31) none [8,9] [8,9] (f125_kb K) (Env.mk 168 [(11,(VI a)),(8,(VI b)),(9,(VB c)),(0,(VS d f g)),(1,(VI h)),(10,(VI i))] []) w
abbrev f125_k8 (K:KT):Exit→YT:=kseq P (cA c125 62) (cA c125 63) none [8,9] [8,9] (f125_kb K)
abbrev f125_k9 (K:KT):Exit→YT:=kblock 2 (f125_k8 K)
def f125_lp8 (K:KT) (Y8:YT) (e:Env) (w:World):Prop:=Join (fun e w=>CS P (cA c125 248) none [11,8,9,0,1,10] [8,9,11,0,1,10] (kloop [11,8,9,0,1,10] Y8 (f125_k9 K)) e w) e w
abbrev f125_kl8 (K:KT) (Y8:YT):Exit→YT:=kloop [11,8,9,0,1,10] Y8 (f125_k9 K)
def f125_lb8 (a b:Int) (c:Bool) (d:OA) (f g:Nat) (h i:Int) (w:World) (K:KT) (Y8:YT):Prop:=SG P (cA c125 248) none [11,8,9,0,1,10] [8,9,11,0,1,10] (f125_kl8 K Y8) (Env.mk 168 [(11,(VI a)),(8,(VI b)),(9,(VB c)),(0,(VS d f g)),(1,(VI h)),(10,(VI i))] []) w
abbrev f125_k10 (K:KT) (Y8:YT):Exit→YT:=kseq P (cA c125 496) (cA c125 497) none [11,8,9,0,1,10] [8,9,11,0,1,10] (f125_kl8 K Y8)
abbrev f125_k11 (K:KT) (Y8:YT):Exit→YT:=kseq P (cA c125 992) (cA c125 993) none [8,9,0,1,10,11] [8,9,11,0,1,10] (f125_k10 K Y8)
def f125_s9 (a:Bool) (b:Int) (c:Bool) (d:OA) (f g:Nat) (h i j:Int) (w:World) (K:KT) (Y8:YT):Prop:=SG P (cA c125 993) none [8,9,0,1,10,11] [8,9,11,0,1,10] (f125_k10 K Y8) (Env.mk 168 [(60,(VB a)),(8,(VI b)),(9,(VB c)),(0,(VS d f g)),(1,(VI h)),(10,(VI i)),(11,(VI j))] []) w
def f125_s10 (a:Int) (b:Bool) (c:OA) (d f:Nat) (g h i:Int) (w:World) (K:KT) (Y8:YT):Prop:=SG P (cA c125 497) none [11,8,9,0,1,10] [8,9,11,0,1,10] (f125_kl8 K Y8) (Env.mk 168 [(8,(VI a)),(9,(VB b)),(0,(VS c d f)),(1,(VI g)),(10,(VI h)),(11,(VI i))] []) w
abbrev f125_k12 (K:KT) (Y8:YT):Exit→YT:=kblock 3 (f125_kl8 K Y8)
theorem f125_s10_eq (a:Int) (c:Bool) (d:OA) (e f:Nat) (g h i:Int) (w:World) (K:KT) (Y8:YT):f125_s10 a c d e f g h i w K Y8=(Y8 (Env.mk 168 [(11,(Value.int .i64 (IntKind.wrap .i64 ((i:Int) - 1)))),(8,(Value.int .i64 a)),(9,(Value.bool c)),(0,(Value.slice d e f)),(1,(Value.int .i64 g)),(10,(Value.int .i64 h))] []) w):=Eq.trans SGe (Eq.trans (CSb 3 [8,9,11,0,1,10] (f125_k12 K Y8) (by kernel_rfl)) (by kernel_rfl))
def f125_s11 (a:Int) (b:OA) (c d:Nat) (f g:Int) (h:Bool) (i:Int) (w:World) (K:KT):Prop:=SG P (cA c125 63) none [8,9] [8,9] (f125_kb K) (Env.mk 168 [(11,(VI a)),(0,(VS b c d)),(1,(VI f)),(8,(VI g)),(9,(VB h)),(10,(VI i))] []) w
abbrev f125_k13 (K:KT):Exit→YT:=kseq P (cA c125 126) (cA c125 127) none [8,9] [8,9] (f125_kb K)
abbrev f125_k14 (K:KT):Exit→YT:=kseq P (cA c125 252) (cA c125 253) none [8,9,0,1,11,10] [8,9] (f125_k13 K)
def f125_s12 (a:Int) (w:World) (K:KT):Prop:=SG P (cA c125 1013) none [8,9,0,1,11,10] [8,9] (f125_k13 K) (Env.mk 168 [(11,(VI a))] []) w
abbrev f125_k16 (K:KT):Exit→YT:=kseq P (cA c125 2026) (cA c125 2027) none [8,9,0,1,11,10] [8,9] (f125_k13 K)
theorem f125_s12_eq (c:Int) (w:World) (K:KT):f125_s12 c w K=(K (Value.tuple [(Value.int .i64 c),(Value.bool true)].toArray) w):=Eq.trans SGe (Eq.trans (CSs [8,9] (f125_k16 K) (by kernel_rfl)) (by kernel_rfl))
def f125_s13 (a:Int) (b:Bool) (c:OA) (d f:Nat) (g h i:Int) (w:World) (K:KT):Prop:=SG P (cA c125 127) none [8,9] [8,9] (f125_kb K) (Env.mk 168 [(8,(VI a)),(9,(VB b)),(0,(VS c d f)),(1,(VI g)),(11,(VI h)),(10,(VI i))] []) w
abbrev f125_k17 (K:KT):Exit→YT:=kseq P (cA c125 254) (cA c125 255) none [8,9] [8,9] (f125_kb K)
def f125_s14 (a:Int) (b:Bool) (c:OA) (d f:Nat) (g h i:Int) (w:World) (K:KT):Prop:=SG P (cA c125 255) none [8,9] [8,9] (f125_kb K) (Env.mk 168 [(8,(VI a)),(9,(VB b)),(0,(VS c d f)),(1,(VI g)),(11,(VI h)),(10,(VI i))] []) w
abbrev f125_k18 (K:KT):Exit→YT:=kseq P (cA c125 510) (cA c125 511) none [8,9] [8,9] (f125_kb K)
def f125_s15 (a b c d:Int) (e:Bool) (f:OA) (g h:Nat) (i j k:Int) (w:World) (K:KT):Prop:=CS P (cA c125 511) none [8,9] [8,9] (f125_kb K) (Env.mk 168 [(10,(VI a)),(96,(VI b)),(95,(VI c)),(8,(VI d)),(9,(VB e)),(0,(VS f g h)),(1,(VI i)),(11,(VI j)),(10,(VI k))] []) w
abbrev f125_k19 (K:KT):Exit→YT:=kseq P (cA c125 1022) (cA c125 1023) none [8,9] [8,9] (f125_kb K)
def f125_s16 (a b c d e f g:Int) (h:Bool) (i:OA) (j k:Nat) (l m n:Int) (w:World) (K:KT):Prop:=CS P (cA c125 1023) none [8,9] [8,9] (f125_kb K) (Env.mk 168 [(11,(VI a)),(98,(VI b)),(97,(VI c)),(10,(VI d)),(96,(VI e)),(95,(VI f)),(8,(VI g)),(9,(VB h)),(0,(VS i j k)),(1,(VI l)),(11,(VI m)),(10,(VI n))] []) w
abbrev f125_k20 (K:KT):Exit→YT:=kseq P (cA c125 2046) (cA c125 2047) none [8,9] [8,9] (f125_kb K)
abbrev f125_k21 (K:KT):Exit→YT:=kblock 4 (f125_k20 K)
def f125_lp17 (K:KT) (Y17:YT) (e:Env) (w:World):Prop:=Join (fun e w=>CS P (cA c125 8184) none [10,8,9,11,0,1] [8,9,11,0,1] (kloop [10,8,9,11,0,1] Y17 (f125_k21 K)) e w) e w
abbrev f125_kl17 (K:KT) (Y17:YT):Exit→YT:=kloop [10,8,9,11,0,1] Y17 (f125_k21 K)
def f125_lb17 (a b:Int) (c:Bool) (d:Int) (f:OA) (g h:Nat) (i:Int) (w:World) (K:KT) (Y17:YT):Prop:=SG P (cA c125 8184) none [10,8,9,11,0,1] [8,9,11,0,1] (f125_kl17 K Y17) (Env.mk 168 [(10,(VI a)),(8,(VI b)),(9,(VB c)),(11,(VI d)),(0,(VS f g h)),(1,(VI i))] []) w
abbrev f125_k22 (K:KT) (Y17:YT):Exit→YT:=kblock 5 (f125_kl17 K Y17)
abbrev f125_k23 (K:KT) (Y17:YT):Exit→YT:=kseq P (cA c125 32736) (cA c125 32737) none [10,8,9,11,0,1] [8,9,11,0,1,10] (f125_k22 K Y17)
abbrev f125_k24 (K:KT) (Y17:YT):Exit→YT:=kblock 6 (f125_k23 K Y17)
def f125_lp18 (K:KT) (Y17 Y18:YT) (e:Env) (w:World):Prop:=Join (fun e w=>CS P (cA c125 130944) none [10,8,9,11,0,1] [8,9,11,0,1,10] (kloop [10,8,9,11,0,1] Y18 (f125_k24 K Y17)) e w) e w
abbrev f125_kl18 (K:KT) (Y17 Y18:YT):Exit→YT:=kloop [10,8,9,11,0,1] Y18 (f125_k24 K Y17)
def f125_lb18 (a b:Int) (c:Bool) (d:Int) (f:OA) (g h:Nat) (i:Int) (w:World) (K:KT) (Y17 Y18:YT):Prop:=SG P (cA c125 130944) none [10,8,9,11,0,1] [8,9,11,0,1,10] (f125_kl18 K Y17 Y18) (Env.mk 168 [(10,(VI a)),(8,(VI b)),(9,(VB c)),(11,(VI d)),(0,(VS f g h)),(1,(VI i))] []) w
abbrev f125_k25 (K:KT) (Y17 Y18:YT):Exit→YT:=kseq P (cA c125 261888) (cA c125 261889) none [10,8,9,11,0,1] [8,9,11,0,1,10] (f125_kl18 K Y17 Y18)
abbrev f125_k26 (K:KT) (Y17 Y18:YT):Exit→YT:=kseq P (cA c125 523776) (cA c125 523777) none [8,9,11,0,1,10] [8,9,11,0,1,10] (f125_k25 K Y17 Y18)
def f125_s19 (a:Bool) (b:Int) (c:Bool) (d:Int) (f:OA) (g h:Nat) (i j:Int) (w:World) (K:KT) (Y17 Y18:YT):Prop:=SG P (cA c125 523777) none [8,9,11,0,1,10] [8,9,11,0,1,10] (f125_k25 K Y17 Y18) (Env.mk 168 [(112,(VB a)),(8,(VI b)),(9,(VB c)),(11,(VI d)),(0,(VS f g h)),(1,(VI i)),(10,(VI j))] []) w
def f125_s20 (a:Int) (b:Bool) (c:Int) (d:OA) (f g:Nat) (h i:Int) (w:World) (K:KT) (Y17 Y18:YT):Prop:=SG P (cA c125 261889) none [10,8,9,11,0,1] [8,9,11,0,1,10] (f125_kl18 K Y17 Y18) (Env.mk 168 [(8,(VI a)),(9,(VB b)),(11,(VI c)),(0,(VS d f g)),(1,(VI h)),(10,(VI i))] []) w
abbrev f125_k27 (K:KT) (Y17 Y18:YT):Exit→YT:=kblock 7 (f125_kl18 K Y17 Y18)
theorem f125_s20_eq (a:Int) (c:Bool) (d:Int) (e:OA) (f g:Nat) (h i:Int) (w:World) (K:KT) (Y17 Y18:YT):f125_s20 a c d e f g h i w K Y17 Y18=(Y18 (Env.mk 168 [(10,(Value.int .i64 (IntKind.wrap .i64 ((i:Int)+1)))),(8,(Value.int .i64 a)),(9,(Value.bool c)),(11,(Value.int .i64 d)),(0,(Value.slice e f g)),(1,(Value.int .i64 h))] []) w):=Eq.trans SGe (Eq.trans (CSb 7 [8,9,11,0,1,10] (f125_k27 K Y17 Y18) (by kernel_rfl)) (by kernel_rfl))
def f125_s21 (a b:Int) (c:Bool) (d:OA) (f g:Nat) (h i:Int) (w:World) (K:KT) (Y17:YT):Prop:=SG P (cA c125 32737) none [10,8,9,11,0,1] [8,9,11,0,1,10] (f125_k22 K Y17) (Env.mk 168 [(11,(VI a)),(8,(VI b)),(9,(VB c)),(0,(VS d f g)),(1,(VI h)),(10,(VI i))] []) w
abbrev f125_k28 (K:KT) (Y17:YT):Exit→YT:=kseq P (cA c125 65474) (cA c125 65475) none [10,8,9,11,0,1] [8,9,11,0,1,10] (f125_k22 K Y17)
abbrev f125_k29 (K:KT) (Y17:YT):Exit→YT:=kblock 8 (f125_k28 K Y17)
def f125_lp22 (K:KT) (Y17 Y22:YT) (e:Env) (w:World):Prop:=Join (fun e w=>CS P (cA c125 261896) none [11,8,9,0,1,10] [8,9,11,0,1,10] (kloop [11,8,9,0,1,10] Y22 (f125_k29 K Y17)) e w) e w
abbrev f125_kl22 (K:KT) (Y17 Y22:YT):Exit→YT:=kloop [11,8,9,0,1,10] Y22 (f125_k29 K Y17)
def f125_lb22 (a b:Int) (c:Bool) (d:OA) (f g:Nat) (h i:Int) (w:World) (K:KT) (Y17 Y22:YT):Prop:=SG P (cA c125 261896) none [11,8,9,0,1,10] [8,9,11,0,1,10] (f125_kl22 K Y17 Y22) (Env.mk 168 [(11,(VI a)),(8,(VI b)),(9,(VB c)),(0,(VS d f g)),(1,(VI h)),(10,(VI i))] []) w
abbrev f125_k30 (K:KT) (Y17 Y22:YT):Exit→YT:=kseq P (cA c125 523792) (cA c125 523793) none [11,8,9,0,1,10] [8,9,11,0,1,10] (f125_kl22 K Y17 Y22)
abbrev f125_k31 (K:KT) (Y17 Y22:YT):Exit→YT:=kseq P (cA c125 1047584) (cA c125 1047585) none [8,9,0,1,10,11] [8,9,11,0,1,10] (f125_k30 K Y17 Y22)
def f125_s23 (a:Bool) (b:Int) (c:Bool) (d:OA) (f g:Nat) (h i j:Int) (w:World) (K:KT) (Y17 Y22:YT):Prop:=SG P (cA c125 1047585) none [8,9,0,1,10,11] [8,9,11,0,1,10] (f125_k30 K Y17 Y22) (Env.mk 168 [(129,(VB a)),(8,(VI b)),(9,(VB c)),(0,(VS d f g)),(1,(VI h)),(10,(VI i)),(11,(VI j))] []) w
def f125_s24 (a:Int) (b:Bool) (c:OA) (d f:Nat) (g h i:Int) (w:World) (K:KT) (Y17 Y22:YT):Prop:=SG P (cA c125 523793) none [11,8,9,0,1,10] [8,9,11,0,1,10] (f125_kl22 K Y17 Y22) (Env.mk 168 [(8,(VI a)),(9,(VB b)),(0,(VS c d f)),(1,(VI g)),(10,(VI h)),(11,(VI i))] []) w
abbrev f125_k32 (K:KT) (Y17 Y22:YT):Exit→YT:=kblock 9 (f125_kl22 K Y17 Y22)
theorem f125_s24_eq (a:Int) (c:Bool) (d:OA) (e f:Nat) (g h i:Int) (w:World) (K:KT) (Y17 Y22:YT):f125_s24 a c d e f g h i w K Y17 Y22=(Y22 (Env.mk 168 [(11,(Value.int .i64 (IntKind.wrap .i64 ((i:Int) - 1)))),(8,(Value.int .i64 a)),(9,(Value.bool c)),(0,(Value.slice d e f)),(1,(Value.int .i64 g)),(10,(Value.int .i64 h))] []) w):=Eq.trans SGe (Eq.trans (CSb 9 [8,9,11,0,1,10] (f125_k32 K Y17 Y22) (by kernel_rfl)) (by kernel_rfl))
def f125_s25 (a:Int) (b:Bool) (c:Int) (d:OA) (f g:Nat) (h i:Int) (w:World) (K:KT) (Y17:YT):Prop:=SG P (cA c125 65475) none [10,8,9,11,0,1] [8,9,11,0,1,10] (f125_k22 K Y17) (Env.mk 168 [(8,(VI a)),(9,(VB b)),(11,(VI c)),(0,(VS d f g)),(1,(VI h)),(10,(VI i))] []) w
abbrev f125_k33 (K:KT) (Y17:YT):Exit→YT:=kseq P (cA c125 130950) (cA c125 130951) none [10,8,9,11,0,1] [8,9,11,0,1,10] (f125_k22 K Y17)
abbrev f125_k34 (K:KT) (Y17:YT):Exit→YT:=kseq P (cA c125 261900) (cA c125 261901) none [8,9,0,1,11,10] [8,9,11,0,1,10] (f125_k33 K Y17)
def f125_s26 (a:Int) (b:OA) (c d:Nat) (f:Int) (w:World) (K:KT):Prop:=SG P (cA c125 2047) none [8,9] [8,9] (f125_kb K) (Env.mk 168 [(11,(VI a)),(0,(VS b c d)),(1,(VI f))] []) w
abbrev f125_k35 (K:KT):Exit→YT:=kseq P (cA c125 4094) (cA c125 4095) none [8,9] [8,9] (f125_kb K)
def f125_s27 (a:Int) (w:World) (K:KT):Prop:=SG P (cA c125 4095) none [8,9] [8,9] (f125_kb K) (Env.mk 168 [(11,(VI a))] []) w
abbrev f125_k36 (K:KT):Exit→YT:=kseq P (cA c125 8190) (cA c125 8191) none [8,9] [8,9] (f125_kb K)
theorem f125_s27_eq (c:Int) (w:World) (K:KT):f125_s27 c w K=(K (Value.tuple [(Value.int .i64 c),(Value.bool false)].toArray) w):=Eq.trans SGe (Eq.trans (CSs [8,9] (f125_k36 K) (by kernel_rfl)) (by kernel_rfl))
theorem f125_s26_eq (c:Int) (e:OA) (f g:Nat) (d:Int) (w:World) (K:KT):f125_s26 c e f g d w K=(optS e (fun j=>0≤(d:Int)∧(d:Int) < (f:Nat)∧optS e (fun k=>0≤(c:Int)∧(c:Int) < (f:Nat)∧∃ h:Int,w.drew.cell? (j.add (Int.toNat d * 1))=some (.int .u32 h)∧∃ i:Int,w.drew.cell? (k.add (Int.toNat c * 1))=some (.int .u32 i)∧optS e (fun l=>0≤(c:Int)∧(c:Int) < (f:Nat)∧St1 (l.add (Int.toNat c * 1)) (Value.int .u32 h) w.drew (fun m=>optS e (fun n=>0≤(d:Int)∧(d:Int) < (f:Nat)∧St1 (n.add (Int.toNat d * 1)) (Value.int .u32 i) m (fun o=>f125_s27 c o K))))))):=Eq.trans SGe (Eq.trans (CSs [11] (f125_k35 K) (by kernel_rfl)) (by kernel_rfl))
def f125_s28 (a:Int) (b:Bool) (c:OA) (d f:Nat) (g h i:Int) (w:World) (K:KT) (Y17:YT):Prop:=SG P (cA c125 130951) none [10,8,9,11,0,1] [8,9,11,0,1,10] (f125_k22 K Y17) (Env.mk 168 [(8,(VI a)),(9,(VB b)),(0,(VS c d f)),(1,(VI g)),(11,(VI h)),(10,(VI i))] []) w
abbrev f125_k37 (K:KT) (Y17:YT):Exit→YT:=kseq P (cA c125 261902) (cA c125 261903) none [10,8,9,11,0,1] [8,9,11,0,1,10] (f125_k22 K Y17)
def f125_s29 (a:Int) (b:Bool) (c:OA) (d f:Nat) (g h i:Int) (w:World) (K:KT) (Y17:YT):Prop:=SG P (cA c125 261903) none [10,8,9,11,0,1] [8,9,11,0,1,10] (f125_k22 K Y17) (Env.mk 168 [(8,(VI a)),(9,(VB b)),(0,(VS c d f)),(1,(VI g)),(11,(VI h)),(10,(VI i))] []) w
abbrev f125_k38 (K:KT) (Y17:YT):Exit→YT:=kseq P (cA c125 523806) (cA c125 523807) none [10,8,9,11,0,1] [8,9,11,0,1,10] (f125_k22 K Y17)
theorem f125_s29_eq (c:Int) (d:Bool) (e:OA) (f g:Nat) (h i j:Int) (w:World) (K:KT) (Y17:YT):f125_s29 c d e f g h i j w K Y17=(Y17 (Env.mk 168 [(10,(Value.int .i64 (IntKind.wrap .i64 ((j:Int)+1)))),(8,(Value.int .i64 c)),(9,(Value.bool d)),(11,(Value.int .i64 (IntKind.wrap .i64 ((i:Int) - 1)))),(0,(Value.slice e f g)),(1,(Value.int .i64 h))] []) w):=Eq.trans SGe (Eq.trans (CSs [10,8,9,0,1,11] (f125_k38 K Y17) (by kernel_rfl)) (by kernel_rfl))
theorem f125_s28_eq (g:Int) (h:Bool) (e:OA) (f i:Nat) (j c d:Int) (w:World) (K:KT) (Y17:YT):f125_s28 g h e f i j c d w K Y17=(optS e (fun m=>0≤(c:Int)∧(c:Int) < (f:Nat)∧optS e (fun n=>0≤(d:Int)∧(d:Int) < (f:Nat)∧∃ k:Int,w.drew.cell? (m.add (Int.toNat c * 1))=some (.int .u32 k)∧∃ l:Int,w.drew.cell? (n.add (Int.toNat d * 1))=some (.int .u32 l)∧optS e (fun o=>0≤(d:Int)∧(d:Int) < (f:Nat)∧St1 (o.add (Int.toNat d * 1)) (Value.int .u32 k) w.drew (fun p=>optS e (fun q=>0≤(c:Int)∧(c:Int) < (f:Nat)∧St1 (q.add (Int.toNat c * 1)) (Value.int .u32 l) p (fun r=>f125_s29 g h e f i j c d r K Y17))))))):=Eq.trans SGe (Eq.trans (CSs [8,9,0,1,11,10] (f125_k37 K Y17) (by kernel_rfl)) (by kernel_rfl))
theorem f125_s25_eq (i:Int) (j:Bool) (c:Int) (d:OA) (e f:Nat) (g h:Int) (w:World) (K:KT) (Y17:YT):f125_s25 i j c d e f g h w K Y17=(BIf (decide ((h:Int) > c)) (f125_s26 c d e f g w K) (f125_s28 i j d e f g c h w K Y17)):=Eq.trans SGe (Eq.trans (CSs [8,9,0,1,11,10] (f125_k33 K Y17) (by kernel_rfl)) (Eq.trans (CSs [134,8,9,11,0,1,10] (f125_k34 K Y17) (by kernel_rfl)) (by kernel_rfl)))
theorem f125_s23_eq (j:Bool) (a:Int) (c:Bool) (d:OA) (e f:Nat) (g h i:Int) (w:World) (K:KT) (Y17 Y22:YT):f125_s23 j a c d e f g h i w K Y17 Y22=(BIf j (f125_s24 a c d e f g h i w K Y17 Y22) (f125_s25 a c i d e f g h w K Y17)):=Eq.trans SGe (by kernel_rfl)
theorem f125_lb22_eq (c h:Int) (i:Bool) (e:OA) (f j:Nat) (d g:Int) (w:World) (K:KT) (Y17 Y22:YT):f125_lb22 c h i e f j d g w K Y17 Y22=(BIf (decide ((g:Int)≤c)) (optS e (fun n=>0≤(c:Int)∧(c:Int) < (f:Nat)∧optS e (fun o=>0≤(d:Int)∧(d:Int) < (f:Nat)∧∃ k:Int,w.drew.cell? (n.add (Int.toNat c * 1))=some (.int .u32 k)∧∃ l:Int,w.drew.cell? (o.add (Int.toNat d * 1))=some (.int .u32 l)∧CallL P 123 [(Value.int .u32 k),(Value.int .u32 l)] w.drew (fun p q=>∃ m:Bool,p=(.bool m)∧f125_s23 (!m) h i e f j d g c q K Y17 Y22)))) (f125_s23 false h i e f j d g c w.drew K Y17 Y22)):=Eq.trans SGe (Eq.trans (CSs [8,9,0,1,10,11] (f125_k30 K Y17 Y22) (by kernel_rfl)) (Eq.trans (CSs [129,8,9,0,1,10,11] (f125_k31 K Y17 Y22) (by kernel_rfl)) (by kernel_rfl)))
theorem f125_s21_eq (c d:Int) (e:Bool) (f:OA) (g h:Nat) (i j:Int) (w:World) (K:KT) (Y17:YT):f125_s21 c d e f g h i j w K Y17=(LoopE (f125_lp22 K Y17) (Env.mk 168 [(11,(Value.int .i64 c)),(8,(Value.int .i64 d)),(9,(Value.bool e)),(0,(Value.slice f g h)),(1,(Value.int .i64 i)),(10,(Value.int .i64 j))] []) w):=Eq.trans SGe (Eq.trans (CSs [8,9,11,0,1,10] (f125_k28 K Y17) (by kernel_rfl)) (Eq.trans (CSb 8 [8,9,11,0,1,10] (f125_k29 K Y17) (by kernel_rfl)) ((CS_loop' (b:=(cA c125 261896)) (X':=[8,9,11,0,1,10]) (H:=[11,8,9,0,1,10]) (by kernel_rfl) (by kernel_rfl) (by kernel_rfl)).trans (by kernel_rfl))))
theorem f125_s19_eq (j:Bool) (a:Int) (c:Bool) (d:Int) (e:OA) (f g:Nat) (h i:Int) (w:World) (K:KT) (Y17 Y18:YT):f125_s19 j a c d e f g h i w K Y17 Y18=(BIf j (f125_s20 a c d e f g h i w K Y17 Y18) (f125_s21 d a c e f g h i w K Y17)):=Eq.trans SGe (by kernel_rfl)
theorem f125_lb18_eq (c h:Int) (i:Bool) (g:Int) (e:OA) (f j:Nat) (d:Int) (w:World) (K:KT) (Y17 Y18:YT):f125_lb18 c h i g e f j d w K Y17 Y18=(BIf (decide ((c:Int)≤g)) (optS e (fun n=>0≤(c:Int)∧(c:Int) < (f:Nat)∧optS e (fun o=>0≤(d:Int)∧(d:Int) < (f:Nat)∧∃ k:Int,w.drew.cell? (n.add (Int.toNat c * 1))=some (.int .u32 k)∧∃ l:Int,w.drew.cell? (o.add (Int.toNat d * 1))=some (.int .u32 l)∧CallL P 123 [(Value.int .u32 k),(Value.int .u32 l)] w.drew (fun p q=>∃ m:Bool,p=(.bool m)∧f125_s19 m h i g e f j d c q K Y17 Y18)))) (f125_s19 false h i g e f j d c w.drew K Y17 Y18)):=Eq.trans SGe (Eq.trans (CSs [8,9,11,0,1,10] (f125_k25 K Y17 Y18) (by kernel_rfl)) (Eq.trans (CSs [112,8,9,11,0,1,10] (f125_k26 K Y17 Y18) (by kernel_rfl)) (by kernel_rfl)))
theorem f125_lb17_eq (c d:Int) (e:Bool) (f:Int) (g:OA) (h i:Nat) (j:Int) (w:World) (K:KT) (Y17:YT):f125_lb17 c d e f g h i j w K Y17=(LoopE (f125_lp18 K Y17) (Env.mk 168 [(10,(Value.int .i64 c)),(8,(Value.int .i64 d)),(9,(Value.bool e)),(11,(Value.int .i64 f)),(0,(Value.slice g h i)),(1,(Value.int .i64 j))] []) w):=Eq.trans SGe (Eq.trans (CSb 5 [8,9,11,0,1,10] (f125_k22 K Y17) (by kernel_rfl)) (Eq.trans (CSs [11,8,9,0,1,10] (f125_k23 K Y17) (by kernel_rfl)) (Eq.trans (CSb 6 [8,9,11,0,1,10] (f125_k24 K Y17) (by kernel_rfl)) ((CS_loop' (b:=(cA c125 130944)) (X':=[8,9,11,0,1,10]) (H:=[10,8,9,11,0,1]) (by kernel_rfl) (by kernel_rfl) (by kernel_rfl)).trans (by kernel_rfl)))))
theorem f125_s16_eq (c k l d m n e:Int) (f:Bool) (g:OA) (h i:Nat) (j o p:Int) (w:World) (K:KT):f125_s16 c k l d m n e f g h i j o p w K=(LoopE (f125_lp17 K) (Env.mk 168 [(10,(Value.int .i64 d)),(8,(Value.int .i64 e)),(9,(Value.bool f)),(11,(Value.int .i64 c)),(0,(Value.slice g h i)),(1,(Value.int .i64 j))] []) w):=Eq.trans (b:=CS P (cA c125 1023) none [8,9] [8,9] (f125_kb K) (Env.mk 168 [(11,(VI c)),(98,(VI k)),(97,(VI l)),(10,(VI d)),(96,(VI m)),(95,(VI n)),(8,(VI e)),(9,(VB f)),(0,(VS g h i)),(1,(VI j)),(11,(VI o)),(10,(VI p))] []) w) (by kernel_rfl) (Eq.trans (CSs [11,0,1] (f125_k20 K) (by kernel_rfl)) (Eq.trans (CSb 4 [8,9,11,0,1] (f125_k21 K) (by kernel_rfl)) ((CS_loop' (b:=(cA c125 8184)) (X':=[8,9,11,0,1]) (H:=[10,8,9,11,0,1]) (by kernel_rfl) (by kernel_rfl) (by kernel_rfl)).trans (by kernel_rfl))))
theorem f125_s15_eq (d e f g:Int) (h:Bool) (i:OA) (j k:Nat) (l c m:Int) (w:World) (K:KT):f125_s15 d e f g h i j k l c m w K=(f125_s16 (IntKind.wrap .i64 ((c:Int) - 1)) (IntKind.wrap .i64 ((c:Int) - 1)) c d e f g h i j k l c m w K):=Eq.trans (b:=CS P (cA c125 511) none [8,9] [8,9] (f125_kb K) (Env.mk 168 [(10,(VI d)),(96,(VI e)),(95,(VI f)),(8,(VI g)),(9,(VB h)),(0,(VS i j k)),(1,(VI l)),(11,(VI c)),(10,(VI m))] []) w) (by kernel_rfl) (Eq.trans (CSs [10,8,9,11,0,1] (f125_k19 K) (by kernel_rfl)) (by kernel_rfl))
theorem f125_s14_eq (d:Int) (e:Bool) (f:OA) (g h:Nat) (i j c:Int) (w:World) (K:KT):f125_s14 d e f g h i j c w K=(f125_s15 (IntKind.wrap .i64 ((c:Int)+1)) (IntKind.wrap .i64 ((c:Int)+1)) c d e f g h i j c w K):=Eq.trans SGe (Eq.trans (CSs [10,8,9,0,1,11] (f125_k18 K) (by kernel_rfl)) (by kernel_rfl))
theorem f125_s13_eq (g:Int) (h:Bool) (e:OA) (f i:Nat) (j c d:Int) (w:World) (K:KT):f125_s13 g h e f i j c d w K=(optS e (fun m=>0≤(c:Int)∧(c:Int) < (f:Nat)∧optS e (fun n=>0≤(d:Int)∧(d:Int) < (f:Nat)∧∃ k:Int,w.drew.cell? (m.add (Int.toNat c * 1))=some (.int .u32 k)∧∃ l:Int,w.drew.cell? (n.add (Int.toNat d * 1))=some (.int .u32 l)∧optS e (fun o=>0≤(d:Int)∧(d:Int) < (f:Nat)∧St1 (o.add (Int.toNat d * 1)) (Value.int .u32 k) w.drew (fun p=>optS e (fun q=>0≤(c:Int)∧(c:Int) < (f:Nat)∧St1 (q.add (Int.toNat c * 1)) (Value.int .u32 l) p (fun r=>f125_s14 g h e f i j c d r K))))))):=Eq.trans SGe (Eq.trans (CSs [8,9,0,1,11,10] (f125_k17 K) (by kernel_rfl)) (by kernel_rfl))
theorem f125_s11_eq (c:Int) (e:OA) (f h:Nat) (d i:Int) (j:Bool) (g:Int) (w:World) (K:KT):f125_s11 c e f h d i j g w K=(BIf (decide ((g:Int) > c)) (optS e (fun m=>0≤(d:Int)∧(d:Int) < (f:Nat)∧optS e (fun n=>0≤(c:Int)∧(c:Int) < (f:Nat)∧∃ k:Int,w.drew.cell? (m.add (Int.toNat d * 1))=some (.int .u32 k)∧∃ l:Int,w.drew.cell? (n.add (Int.toNat c * 1))=some (.int .u32 l)∧optS e (fun o=>0≤(c:Int)∧(c:Int) < (f:Nat)∧St1 (o.add (Int.toNat c * 1)) (Value.int .u32 k) w.drew (fun p=>optS e (fun q=>0≤(d:Int)∧(d:Int) < (f:Nat)∧St1 (q.add (Int.toNat d * 1)) (Value.int .u32 l) p (fun r=>f125_s12 c r K))))))) (f125_s13 i j e f h d c g w K)):=Eq.trans SGe (Eq.trans (CSs [8,9,0,1,11,10] (f125_k13 K) (by kernel_rfl)) (Eq.trans (CSs [65,11,0,1,8,9,10] (f125_k14 K) (by kernel_rfl)) (by kernel_rfl)))
theorem f125_s9_eq (j:Bool) (a:Int) (c:Bool) (d:OA) (e f:Nat) (g h i:Int) (w:World) (K:KT) (Y8:YT):f125_s9 j a c d e f g h i w K Y8=(BIf j (f125_s10 a c d e f g h i w K Y8) (f125_s11 i d e f g a c h w K)):=Eq.trans SGe (by kernel_rfl)
theorem f125_lb8_eq (c h:Int) (i:Bool) (e:OA) (f j:Nat) (d g:Int) (w:World) (K:KT) (Y8:YT):f125_lb8 c h i e f j d g w K Y8=(BIf (decide ((g:Int)≤c)) (optS e (fun n=>0≤(c:Int)∧(c:Int) < (f:Nat)∧optS e (fun o=>0≤(d:Int)∧(d:Int) < (f:Nat)∧∃ k:Int,w.drew.cell? (n.add (Int.toNat c * 1))=some (.int .u32 k)∧∃ l:Int,w.drew.cell? (o.add (Int.toNat d * 1))=some (.int .u32 l)∧CallL P 123 [(Value.int .u32 k),(Value.int .u32 l)] w.drew (fun p q=>∃ m:Bool,p=(.bool m)∧f125_s9 (!m) h i e f j d g c q K Y8)))) (f125_s9 false h i e f j d g c w.drew K Y8)):=Eq.trans SGe (Eq.trans (CSs [8,9,0,1,10,11] (f125_k10 K Y8) (by kernel_rfl)) (Eq.trans (CSs [60,8,9,0,1,10,11] (f125_k11 K Y8) (by kernel_rfl)) (by kernel_rfl)))
theorem f125_s7_eq (c d:Int) (e:Bool) (f:OA) (g h:Nat) (i j:Int) (w:World) (K:KT):f125_s7 c d e f g h i j w K=(LoopE (f125_lp8 K) (Env.mk 168 [(11,(Value.int .i64 c)),(8,(Value.int .i64 d)),(9,(Value.bool e)),(0,(Value.slice f g h)),(1,(Value.int .i64 i)),(10,(Value.int .i64 j))] []) w):=Eq.trans SGe (Eq.trans (CSs [11,0,1,8,9,10] (f125_k8 K) (by kernel_rfl)) (Eq.trans (CSb 2 [8,9,11,0,1,10] (f125_k9 K) (by kernel_rfl)) ((CS_loop' (b:=(cA c125 248)) (X':=[8,9,11,0,1,10]) (H:=[11,8,9,0,1,10]) (by kernel_rfl) (by kernel_rfl) (by kernel_rfl)).trans (by kernel_rfl))))
theorem f125_s5_eq (j:Bool) (a:Int) (c:Bool) (d:Int) (e:OA) (f g:Nat) (h i:Int) (w:World) (K:KT) (Y4:YT):f125_s5 j a c d e f g h i w K Y4=(BIf j (f125_s6 a c d e f g h i w K Y4) (f125_s7 d a c e f g h i w K)):=Eq.trans SGe (by kernel_rfl)
theorem f125_lb4_eq (c h:Int) (i:Bool) (g:Int) (e:OA) (f j:Nat) (d:Int) (w:World) (K:KT) (Y4:YT):f125_lb4 c h i g e f j d w K Y4=(BIf (decide ((c:Int)≤g)) (optS e (fun n=>0≤(c:Int)∧(c:Int) < (f:Nat)∧optS e (fun o=>0≤(d:Int)∧(d:Int) < (f:Nat)∧∃ k:Int,w.drew.cell? (n.add (Int.toNat c * 1))=some (.int .u32 k)∧∃ l:Int,w.drew.cell? (o.add (Int.toNat d * 1))=some (.int .u32 l)∧CallL P 123 [(Value.int .u32 k),(Value.int .u32 l)] w.drew (fun p q=>∃ m:Bool,p=(.bool m)∧f125_s5 m h i g e f j d c q K Y4)))) (f125_s5 false h i g e f j d c w.drew K Y4)):=Eq.trans SGe (Eq.trans (CSs [8,9,11,0,1,10] (f125_k5 K Y4) (by kernel_rfl)) (Eq.trans (CSs [43,8,9,11,0,1,10] (f125_k6 K Y4) (by kernel_rfl)) (by kernel_rfl)))
theorem f125_s3_eq (c d k l m n e:Int) (f:Bool) (g:OA) (h i:Nat) (j o:Int) (w:World) (K:KT):f125_s3 c d k l m n e f g h i j o w K=(LoopE (f125_lp4 K) (Env.mk 168 [(10,(Value.int .i64 d)),(8,(Value.int .i64 e)),(9,(Value.bool f)),(11,(Value.int .i64 c)),(0,(Value.slice g h i)),(1,(Value.int .i64 j))] []) w):=Eq.trans (b:=CS P (cA c125 15) none [8,9] [8,9] (f125_kb K) (Env.mk 168 [(11,(VI c)),(10,(VI d)),(29,(VI k)),(28,(VI l)),(27,(VI m)),(26,(VI n)),(8,(VI e)),(9,(VB f)),(0,(VS g h i)),(1,(VI j)),(2,(VI o))] []) w) (by kernel_rfl) (Eq.trans (CSs [11,8,9,0,1,10] (f125_k3 K) (by kernel_rfl)) (Eq.trans (CSb 0 [8,9,11,0,1,10] (f125_k4 K) (by kernel_rfl)) ((CS_loop' (b:=(cA c125 120)) (X':=[8,9,11,0,1,10]) (H:=[10,8,9,11,0,1]) (by kernel_rfl) (by kernel_rfl) (by kernel_rfl)).trans (by kernel_rfl))))
theorem f125_s2_eq (e:Int) (f:Bool) (g:OA) (h i:Nat) (c d:Int) (w:World) (K:KT):f125_s2 e f g h i c d w K=(f125_s3 (IntKind.wrap .i64 ((d:Int) - 1)) (IntKind.wrap .i64 ((c:Int)+1)) (IntKind.wrap .i64 ((d:Int) - 1)) d (IntKind.wrap .i64 ((c:Int)+1)) c e f g h i c d w K):=Eq.trans SGe (Eq.trans (CSs [10,8,9,11,0,1] (f125_k2 K) (by kernel_rfl)) (by kernel_rfl))
theorem f125_s1_eq (g:Int) (e:OA) (f h:Nat) (c i d:Int) (w:World) (K:KT):f125_s1 g e f h c i d w K=(optS e (fun l=>0≤(d:Int)∧(d:Int) < (f:Nat)∧optS e (fun m=>0≤(c:Int)∧(c:Int) < (f:Nat)∧∃ j:Int,w.drew.cell? (l.add (Int.toNat d * 1))=some (.int .u32 j)∧∃ k:Int,w.drew.cell? (m.add (Int.toNat c * 1))=some (.int .u32 k)∧optS e (fun n=>0≤(c:Int)∧(c:Int) < (f:Nat)∧St1 (n.add (Int.toNat c * 1)) (Value.int .u32 j) w.drew (fun o=>optS e (fun p=>0≤(d:Int)∧(d:Int) < (f:Nat)∧St1 (p.add (Int.toNat d * 1)) (Value.int .u32 k) o (fun q=>f125_s2 g false e f h c i q K))))))):=Eq.trans (b:=CS P (cA c125 3) none [8,9] [8,9] (f125_kb K) (Env.mk 168 [(9,(VB false)),(8,(VI g)),(0,(VS e f h)),(1,(VI c)),(2,(VI i)),(3,(VI d))] []) w) (by kernel_rfl) (Eq.trans (CSs [8,9,0,1,2] (f125_k1 K) (by kernel_rfl)) (by kernel_rfl))
theorem f125_s0_eq (c:OA) (d e:Nat) (f g h:Int) (w:World) (K:KT):f125_s0 c d e f g h w K=(f125_s1 0 c d e f g h w K):=Eq.trans (b:=CS P (cA c125 1) none [8,9] [8,9] (f125_kb K) (Env.mk 168 [(0,(VS c d e)),(1,(VI f)),(2,(VI g)),(3,(VI h))] []) w) (by kernel_rfl) (Eq.trans (CSs [8,9,0,1,2,3] (f125_k0 K) (by kernel_rfl)) (by kernel_rfl))
theorem f125_eq (a:OA) (b c:Nat) (d e f:Int) (w:World) (K:KT):f125 a b c d e f w K=(f125_s0 a b c d e f w K):=by kernel_rfl
theorem f125_ok (a:OA) (b c:Nat) (d e f:Int) (w:World) (K:KT) (h:f125 a b c d e f w K):CallL P 125 [(Value.slice a b c),(Value.int .i64 d),(Value.int .i64 e),(Value.int .i64 f)] w K:=okCS c125 Tryz.func125 (by kernel_rfl) (by kernel_rfl) h
noncomputable def c124:Code:=bodyOf Tryz.f124
noncomputable def rs124:List ResultVar:=Tryz.f124.results.toList
abbrev f124_kb (K:KT):Exit→YT:=bodyK P rs124 K
def f124 (a:OA) (b c:Nat) (d e f:Int) (w:World) (K:KT):Prop:=CS P c124 none [8] [8] (f124_kb K) (env0 84 [(VS a b c),(VI d),(VI e),(VI f)]) w
def f124_s0 (a:OA) (b c:Nat) (d e f:Int) (w:World) (K:KT):Prop:=CS P (cA c124 1) none [8] [8] (f124_kb K) (Env.mk 84 [(0,(VS a b c)),(1,(VI d)),(2,(VI e)),(3,(VI f))] []) w
abbrev f124_k0 (K:KT):Exit→YT:=kseq P (cA c124 2) (cA c124 3) none [8] [8] (f124_kb K)
def f124_s1 (a:Int) (b:OA) (c d:Nat) (e f g:Int) (w:World) (K:KT):Prop:=CS P (cA c124 3) none [8] [8] (f124_kb K) (Env.mk 84 [(8,(VI a)),(0,(VS b c d)),(1,(VI e)),(2,(VI f)),(3,(VI g))] []) w
abbrev f124_k1 (K:KT):Exit→YT:=kseq P (cA c124 6) (cA c124 7) none [8] [8] (f124_kb K)
def f124_s2 (a:Int) (b:OA) (c d:Nat) (f g:Int) (w:World) (K:KT):Prop:=SG P (cA c124 7) none [8] [8] (f124_kb K) (Env.mk 84 [(8,(VI a)),(0,(VS b c d)),(1,(VI f)),(2,(VI g))] []) w
abbrev f124_k2 (K:KT):Exit→YT:=kseq P (cA c124 14) (cA c124 15) none [8] [8] (f124_kb K)
def f124_s3 (a b c d e f g:Int) (h:OA) (i j:Nat) (k l:Int) (w:World) (K:KT):Prop:=CS P (cA c124 15) none [8] [8] (f124_kb K) (Env.mk 84 [(10,(VI a)),(9,(VI b)),(28,(VI c)),(27,(VI d)),(26,(VI e)),(25,(VI f)),(8,(VI g)),(0,(VS h i j)),(1,(VI k)),(2,(VI l))] []) w
abbrev f124_k3 (K:KT):Exit→YT:=kseq P (cA c124 30) (cA c124 31) none [8] [8] (f124_kb K)
abbrev f124_k4 (K:KT):Exit→YT:=kblock 0 (f124_k3 K)
def f124_lp4 (K:KT) (Y4:YT) (e:Env) (w:World):Prop:=Join (fun e w=>CS P (cA c124 120) none [9,8,10,0,1] [8,9] (kloop [9,8,10,0,1] Y4 (f124_k4 K)) e w) e w
abbrev f124_kl4 (K:KT) (Y4:YT):Exit→YT:=kloop [9,8,10,0,1] Y4 (f124_k4 K)
def f124_lb4 (a b c:Int) (d:OA) (f g:Nat) (h:Int) (w:World) (K:KT) (Y4:YT):Prop:=SG P (cA c124 120) none [9,8,10,0,1] [8,9] (f124_kl4 K Y4) (Env.mk 84 [(9,(VI a)),(8,(VI b)),(10,(VI c)),(0,(VS d f g)),(1,(VI h))] []) w
abbrev f124_k5 (K:KT) (Y4:YT):Exit→YT:=kblock 1 (f124_kl4 K Y4)
abbrev f124_k6 (K:KT) (Y4:YT):Exit→YT:=kseq P (cA c124 480) (cA c124 481) none [9,8,10,0,1] [8,9,10,0,1] (f124_k5 K Y4)
abbrev f124_k7 (K:KT) (Y4:YT):Exit→YT:=kblock 2 (f124_k6 K Y4)
def f124_lp5 (K:KT) (Y4 Y5:YT) (e:Env) (w:World):Prop:=Join (fun e w=>CS P (cA c124 1920) none [9,8,10,0,1] [8,9,10,0,1] (kloop [9,8,10,0,1] Y5 (f124_k7 K Y4)) e w) e w
abbrev f124_kl5 (K:KT) (Y4 Y5:YT):Exit→YT:=kloop [9,8,10,0,1] Y5 (f124_k7 K Y4)
def f124_lb5 (a b c:Int) (d:OA) (f g:Nat) (h:Int) (w:World) (K:KT) (Y4 Y5:YT):Prop:=SG P (cA c124 1920) none [9,8,10,0,1] [8,9,10,0,1] (f124_kl5 K Y4 Y5) (Env.mk 84 [(9,(VI a)),(8,(VI b)),(10,(VI c)),(0,(VS d f g)),(1,(VI h))] []) w
abbrev f124_k8 (K:KT) (Y4 Y5:YT):Exit→YT:=kseq P (cA c124 3840) (cA c124 3841) none [9,8,10,0,1] [8,9,10,0,1] (f124_kl5 K Y4 Y5)
abbrev f124_k9 (K:KT) (Y4 Y5:YT):Exit→YT:=kseq P (cA c124 7680) (cA c124 7681) none [8,10,0,1,9] [8,9,10,0,1] (f124_k8 K Y4 Y5)
def f124_s6 (a:Bool) (b c:Int) (d:OA) (f g:Nat) (h i:Int) (w:World) (K:KT) (Y4 Y5:YT):Prop:=SG P (cA c124 7681) none [8,10,0,1,9] [8,9,10,0,1] (f124_k8 K Y4 Y5) (Env.mk 84 [(43,(VB a)),(8,(VI b)),(10,(VI c)),(0,(VS d f g)),(1,(VI h)),(9,(VI i))] []) w
def f124_s7 (a b:Int) (c:OA) (d f:Nat) (g h:Int) (w:World) (K:KT) (Y4 Y5:YT):Prop:=SG P (cA c124 3841) none [9,8,10,0,1] [8,9,10,0,1] (f124_kl5 K Y4 Y5) (Env.mk 84 [(8,(VI a)),(10,(VI b)),(0,(VS c d f)),(1,(VI g)),(9,(VI h))] []) w
abbrev f124_k10 (K:KT) (Y4 Y5:YT):Exit→YT:=kblock 3 (f124_kl5 K Y4 Y5)
theorem f124_s7_eq (a c:Int) (d:OA) (e f:Nat) (g h:Int) (w:World) (K:KT) (Y4 Y5:YT):f124_s7 a c d e f g h w K Y4 Y5=(Y5 (Env.mk 84 [(9,(Value.int .i64 (IntKind.wrap .i64 ((h:Int)+1)))),(8,(Value.int .i64 a)),(10,(Value.int .i64 c)),(0,(Value.slice d e f)),(1,(Value.int .i64 g))] []) w):=Eq.trans SGe (Eq.trans (CSb 3 [8,9,10,0,1] (f124_k10 K Y4 Y5) (by kernel_rfl)) (by kernel_rfl))
def f124_s8 (a b c:Int) (d:OA) (f g:Nat) (h:Int) (w:World) (K:KT) (Y4:YT):Prop:=SG P (cA c124 481) none [9,8,10,0,1] [8,9,10,0,1] (f124_k5 K Y4) (Env.mk 84 [(10,(VI a)),(8,(VI b)),(9,(VI c)),(0,(VS d f g)),(1,(VI h))] []) w
abbrev f124_k11 (K:KT) (Y4:YT):Exit→YT:=kseq P (cA c124 962) (cA c124 963) none [9,8,10,0,1] [8,9,10,0,1] (f124_k5 K Y4)
abbrev f124_k12 (K:KT) (Y4:YT):Exit→YT:=kblock 4 (f124_k11 K Y4)
def f124_lp9 (K:KT) (Y4 Y9:YT) (e:Env) (w:World):Prop:=Join (fun e w=>CS P (cA c124 3848) none [10,8,9,0,1] [8,9,10,0,1] (kloop [10,8,9,0,1] Y9 (f124_k12 K Y4)) e w) e w
abbrev f124_kl9 (K:KT) (Y4 Y9:YT):Exit→YT:=kloop [10,8,9,0,1] Y9 (f124_k12 K Y4)
def f124_lb9 (a b c:Int) (d:OA) (f g:Nat) (h:Int) (w:World) (K:KT) (Y4 Y9:YT):Prop:=SG P (cA c124 3848) none [10,8,9,0,1] [8,9,10,0,1] (f124_kl9 K Y4 Y9) (Env.mk 84 [(10,(VI a)),(8,(VI b)),(9,(VI c)),(0,(VS d f g)),(1,(VI h))] []) w
abbrev f124_k13 (K:KT) (Y4 Y9:YT):Exit→YT:=kseq P (cA c124 7696) (cA c124 7697) none [10,8,9,0,1] [8,9,10,0,1] (f124_kl9 K Y4 Y9)
abbrev f124_k14 (K:KT) (Y4 Y9:YT):Exit→YT:=kseq P (cA c124 15392) (cA c124 15393) none [8,9,0,1,10] [8,9,10,0,1] (f124_k13 K Y4 Y9)
def f124_s10 (a:Bool) (b c:Int) (d:OA) (f g:Nat) (h i:Int) (w:World) (K:KT) (Y4 Y9:YT):Prop:=SG P (cA c124 15393) none [8,9,0,1,10] [8,9,10,0,1] (f124_k13 K Y4 Y9) (Env.mk 84 [(59,(VB a)),(8,(VI b)),(9,(VI c)),(0,(VS d f g)),(1,(VI h)),(10,(VI i))] []) w
def f124_s11 (a b:Int) (c:OA) (d f:Nat) (g h:Int) (w:World) (K:KT) (Y4 Y9:YT):Prop:=SG P (cA c124 7697) none [10,8,9,0,1] [8,9,10,0,1] (f124_kl9 K Y4 Y9) (Env.mk 84 [(8,(VI a)),(9,(VI b)),(0,(VS c d f)),(1,(VI g)),(10,(VI h))] []) w
abbrev f124_k15 (K:KT) (Y4 Y9:YT):Exit→YT:=kblock 5 (f124_kl9 K Y4 Y9)
theorem f124_s11_eq (a c:Int) (d:OA) (e f:Nat) (g h:Int) (w:World) (K:KT) (Y4 Y9:YT):f124_s11 a c d e f g h w K Y4 Y9=(Y9 (Env.mk 84 [(10,(Value.int .i64 (IntKind.wrap .i64 ((h:Int) - 1)))),(8,(Value.int .i64 a)),(9,(Value.int .i64 c)),(0,(Value.slice d e f)),(1,(Value.int .i64 g))] []) w):=Eq.trans SGe (Eq.trans (CSb 5 [8,9,10,0,1] (f124_k15 K Y4 Y9) (by kernel_rfl)) (by kernel_rfl))
def f124_s12 (a b c:Int) (d:OA) (f g:Nat) (h:Int) (w:World) (K:KT) (Y4:YT):Prop:=SG P (cA c124 963) none [9,8,10,0,1] [8,9,10,0,1] (f124_k5 K Y4) (Env.mk 84 [(8,(VI a)),(9,(VI b)),(10,(VI c)),(0,(VS d f g)),(1,(VI h))] []) w
abbrev f124_k16 (K:KT) (Y4:YT):Exit→YT:=kseq P (cA c124 1926) (cA c124 1927) none [9,8,10,0,1] [8,9,10,0,1] (f124_k5 K Y4)
abbrev f124_k17 (K:KT) (Y4:YT):Exit→YT:=kseq P (cA c124 3852) (cA c124 3853) none [8,0,1,10,9] [8,9,10,0,1] (f124_k16 K Y4)
def f124_s13 (a:Int) (w:World) (K:KT):Prop:=SG P (cA c124 31) none [8] [8] (f124_kb K) (Env.mk 84 [(9,(VI a))] []) w
abbrev f124_k18 (K:KT):Exit→YT:=kseq P (cA c124 62) (cA c124 63) none [8] [8] (f124_kb K)
theorem f124_s13_eq (c:Int) (w:World) (K:KT):f124_s13 c w K=(K (Value.int .i64 c) w):=Eq.trans SGe (Eq.trans (CSs [8] (f124_k18 K) (by kernel_rfl)) (by kernel_rfl))
def f124_s14 (a:Int) (b:OA) (c d:Nat) (f g h:Int) (w:World) (K:KT) (Y4:YT):Prop:=SG P (cA c124 1927) none [9,8,10,0,1] [8,9,10,0,1] (f124_k5 K Y4) (Env.mk 84 [(8,(VI a)),(0,(VS b c d)),(1,(VI f)),(10,(VI g)),(9,(VI h))] []) w
abbrev f124_k19 (K:KT) (Y4:YT):Exit→YT:=kseq P (cA c124 3854) (cA c124 3855) none [9,8,10,0,1] [8,9,10,0,1] (f124_k5 K Y4)
def f124_s15 (a:Int) (b:OA) (c d:Nat) (f g h:Int) (w:World) (K:KT) (Y4:YT):Prop:=SG P (cA c124 3855) none [9,8,10,0,1] [8,9,10,0,1] (f124_k5 K Y4) (Env.mk 84 [(8,(VI a)),(0,(VS b c d)),(1,(VI f)),(10,(VI g)),(9,(VI h))] []) w
abbrev f124_k20 (K:KT) (Y4:YT):Exit→YT:=kseq P (cA c124 7710) (cA c124 7711) none [9,8,10,0,1] [8,9,10,0,1] (f124_k5 K Y4)
theorem f124_s15_eq (c:Int) (d:OA) (e f:Nat) (g h i:Int) (w:World) (K:KT) (Y4:YT):f124_s15 c d e f g h i w K Y4=(Y4 (Env.mk 84 [(9,(Value.int .i64 (IntKind.wrap .i64 ((i:Int)+1)))),(8,(Value.int .i64 c)),(10,(Value.int .i64 (IntKind.wrap .i64 ((h:Int) - 1)))),(0,(Value.slice d e f)),(1,(Value.int .i64 g))] []) w):=Eq.trans SGe (Eq.trans (CSs [9,8,0,1,10] (f124_k20 K Y4) (by kernel_rfl)) (by kernel_rfl))
theorem f124_s14_eq (g:Int) (e:OA) (f h:Nat) (i c d:Int) (w:World) (K:KT) (Y4:YT):f124_s14 g e f h i c d w K Y4=(optS e (fun l=>0≤(c:Int)∧(c:Int) < (f:Nat)∧optS e (fun m=>0≤(d:Int)∧(d:Int) < (f:Nat)∧∃ j:Int,w.drew.cell? (l.add (Int.toNat c * 1))=some (.int .u32 j)∧∃ k:Int,w.drew.cell? (m.add (Int.toNat d * 1))=some (.int .u32 k)∧optS e (fun n=>0≤(d:Int)∧(d:Int) < (f:Nat)∧St1 (n.add (Int.toNat d * 1)) (Value.int .u32 j) w.drew (fun o=>optS e (fun p=>0≤(c:Int)∧(c:Int) < (f:Nat)∧St1 (p.add (Int.toNat c * 1)) (Value.int .u32 k) o (fun q=>f124_s15 g e f h i c d q K Y4))))))):=Eq.trans SGe (Eq.trans (CSs [8,0,1,10,9] (f124_k19 K Y4) (by kernel_rfl)) (by kernel_rfl))
theorem f124_s12_eq (e c d:Int) (f:OA) (g h:Nat) (i:Int) (w:World) (K:KT) (Y4:YT):f124_s12 e c d f g h i w K Y4=(BIf (decide ((c:Int) > d)) (f124_s13 c w K) (f124_s14 e f g h i d c w K Y4)):=Eq.trans SGe (Eq.trans (CSs [8,0,1,10,9] (f124_k16 K Y4) (by kernel_rfl)) (Eq.trans (CSs [64,8,9,10,0,1] (f124_k17 K Y4) (by kernel_rfl)) (by kernel_rfl)))
theorem f124_s10_eq (i:Bool) (a c:Int) (d:OA) (e f:Nat) (g h:Int) (w:World) (K:KT) (Y4 Y9:YT):f124_s10 i a c d e f g h w K Y4 Y9=(BIf i (f124_s11 a c d e f g h w K Y4 Y9) (f124_s12 a c h d e f g w K Y4)):=Eq.trans SGe (by kernel_rfl)
theorem f124_lb9_eq (c h g:Int) (e:OA) (f i:Nat) (d:Int) (w:World) (K:KT) (Y4 Y9:YT):f124_lb9 c h g e f i d w K Y4 Y9=(BIf (decide ((g:Int)≤c)) (optS e (fun m=>0≤(d:Int)∧(d:Int) < (f:Nat)∧optS e (fun n=>0≤(c:Int)∧(c:Int) < (f:Nat)∧∃ j:Int,w.drew.cell? (m.add (Int.toNat d * 1))=some (.int .u32 j)∧∃ k:Int,w.drew.cell? (n.add (Int.toNat c * 1))=some (.int .u32 k)∧CallL P 123 [(Value.int .u32 j),(Value.int .u32 k)] w.drew (fun o p=>∃ l:Bool,o=(.bool l)∧f124_s10 l h g e f i d c p K Y4 Y9)))) (f124_s10 false h g e f i d c w.drew K Y4 Y9)):=Eq.trans SGe (Eq.trans (CSs [8,9,0,1,10] (f124_k13 K Y4 Y9) (by kernel_rfl)) (Eq.trans (CSs [59,8,9,0,1,10] (f124_k14 K Y4 Y9) (by kernel_rfl)) (by kernel_rfl)))
theorem f124_s8_eq (c d e:Int) (f:OA) (g h:Nat) (i:Int) (w:World) (K:KT) (Y4:YT):f124_s8 c d e f g h i w K Y4=(LoopE (f124_lp9 K Y4) (Env.mk 84 [(10,(Value.int .i64 c)),(8,(Value.int .i64 d)),(9,(Value.int .i64 e)),(0,(Value.slice f g h)),(1,(Value.int .i64 i))] []) w):=Eq.trans SGe (Eq.trans (CSs [8,9,10,0,1] (f124_k11 K Y4) (by kernel_rfl)) (Eq.trans (CSb 4 [8,9,10,0,1] (f124_k12 K Y4) (by kernel_rfl)) ((CS_loop' (b:=(cA c124 3848)) (X':=[8,9,10,0,1]) (H:=[10,8,9,0,1]) (by kernel_rfl) (by kernel_rfl) (by kernel_rfl)).trans (by kernel_rfl))))
theorem f124_s6_eq (i:Bool) (a c:Int) (d:OA) (e f:Nat) (g h:Int) (w:World) (K:KT) (Y4 Y5:YT):f124_s6 i a c d e f g h w K Y4 Y5=(BIf i (f124_s7 a c d e f g h w K Y4 Y5) (f124_s8 c a h d e f g w K Y4)):=Eq.trans SGe (by kernel_rfl)
theorem f124_lb5_eq (c h g:Int) (e:OA) (f i:Nat) (d:Int) (w:World) (K:KT) (Y4 Y5:YT):f124_lb5 c h g e f i d w K Y4 Y5=(BIf (decide ((c:Int)≤g)) (optS e (fun m=>0≤(d:Int)∧(d:Int) < (f:Nat)∧optS e (fun n=>0≤(c:Int)∧(c:Int) < (f:Nat)∧∃ j:Int,w.drew.cell? (m.add (Int.toNat d * 1))=some (.int .u32 j)∧∃ k:Int,w.drew.cell? (n.add (Int.toNat c * 1))=some (.int .u32 k)∧CallL P 123 [(Value.int .u32 j),(Value.int .u32 k)] w.drew (fun o p=>∃ l:Bool,o=(.bool l)∧f124_s6 (!l) h g e f i d c p K Y4 Y5)))) (f124_s6 false h g e f i d c w.drew K Y4 Y5)):=Eq.trans SGe (Eq.trans (CSs [8,10,0,1,9] (f124_k8 K Y4 Y5) (by kernel_rfl)) (Eq.trans (CSs [43,8,10,0,1,9] (f124_k9 K Y4 Y5) (by kernel_rfl)) (by kernel_rfl)))
theorem f124_lb4_eq (c d e:Int) (f:OA) (g h:Nat) (i:Int) (w:World) (K:KT) (Y4:YT):f124_lb4 c d e f g h i w K Y4=(LoopE (f124_lp5 K Y4) (Env.mk 84 [(9,(Value.int .i64 c)),(8,(Value.int .i64 d)),(10,(Value.int .i64 e)),(0,(Value.slice f g h)),(1,(Value.int .i64 i))] []) w):=Eq.trans SGe (Eq.trans (CSb 1 [8,9,10,0,1] (f124_k5 K Y4) (by kernel_rfl)) (Eq.trans (CSs [10,8,9,0,1] (f124_k6 K Y4) (by kernel_rfl)) (Eq.trans (CSb 2 [8,9,10,0,1] (f124_k7 K Y4) (by kernel_rfl)) ((CS_loop' (b:=(cA c124 1920)) (X':=[8,9,10,0,1]) (H:=[9,8,10,0,1]) (by kernel_rfl) (by kernel_rfl) (by kernel_rfl)).trans (by kernel_rfl)))))
theorem f124_s3_eq (c d j k l m e:Int) (f:OA) (g h:Nat) (i n:Int) (w:World) (K:KT):f124_s3 c d j k l m e f g h i n w K=(LoopE (f124_lp4 K) (Env.mk 84 [(9,(Value.int .i64 d)),(8,(Value.int .i64 e)),(10,(Value.int .i64 c)),(0,(Value.slice f g h)),(1,(Value.int .i64 i))] []) w):=Eq.trans (b:=CS P (cA c124 15) none [8] [8] (f124_kb K) (Env.mk 84 [(10,(VI c)),(9,(VI d)),(28,(VI j)),(27,(VI k)),(26,(VI l)),(25,(VI m)),(8,(VI e)),(0,(VS f g h)),(1,(VI i)),(2,(VI n))] []) w) (by kernel_rfl) (Eq.trans (CSs [9] (f124_k3 K) (by kernel_rfl)) (Eq.trans (CSb 0 [8,9] (f124_k4 K) (by kernel_rfl)) ((CS_loop' (b:=(cA c124 120)) (X':=[8,9]) (H:=[9,8,10,0,1]) (by kernel_rfl) (by kernel_rfl) (by kernel_rfl)).trans (by kernel_rfl))))
theorem f124_s2_eq (e:Int) (f:OA) (g h:Nat) (c d:Int) (w:World) (K:KT):f124_s2 e f g h c d w K=(f124_s3 (IntKind.wrap .i64 ((d:Int) - 1)) (IntKind.wrap .i64 ((c:Int)+1)) (IntKind.wrap .i64 ((d:Int) - 1)) d (IntKind.wrap .i64 ((c:Int)+1)) c e f g h c d w K):=Eq.trans SGe (Eq.trans (CSs [9,8,10,0,1] (f124_k2 K) (by kernel_rfl)) (by kernel_rfl))
theorem f124_s1_eq (g:Int) (e:OA) (f h:Nat) (c i d:Int) (w:World) (K:KT):f124_s1 g e f h c i d w K=(optS e (fun l=>0≤(d:Int)∧(d:Int) < (f:Nat)∧optS e (fun m=>0≤(c:Int)∧(c:Int) < (f:Nat)∧∃ j:Int,w.drew.cell? (l.add (Int.toNat d * 1))=some (.int .u32 j)∧∃ k:Int,w.drew.cell? (m.add (Int.toNat c * 1))=some (.int .u32 k)∧optS e (fun n=>0≤(c:Int)∧(c:Int) < (f:Nat)∧St1 (n.add (Int.toNat c * 1)) (Value.int .u32 j) w.drew (fun o=>optS e (fun p=>0≤(d:Int)∧(d:Int) < (f:Nat)∧St1 (p.add (Int.toNat d * 1)) (Value.int .u32 k) o (fun q=>f124_s2 g e f h c i q K))))))):=Eq.trans (b:=CS P (cA c124 3) none [8] [8] (f124_kb K) (Env.mk 84 [(8,(VI g)),(0,(VS e f h)),(1,(VI c)),(2,(VI i)),(3,(VI d))] []) w) (by kernel_rfl) (Eq.trans (CSs [8,0,1,2] (f124_k1 K) (by kernel_rfl)) (by kernel_rfl))
theorem f124_s0_eq (c:OA) (d e:Nat) (f g h:Int) (w:World) (K:KT):f124_s0 c d e f g h w K=(f124_s1 0 c d e f g h w K):=Eq.trans (b:=CS P (cA c124 1) none [8] [8] (f124_kb K) (Env.mk 84 [(0,(VS c d e)),(1,(VI f)),(2,(VI g)),(3,(VI h))] []) w) (by kernel_rfl) (Eq.trans (CSs [8,0,1,2,3] (f124_k0 K) (by kernel_rfl)) (by kernel_rfl))
theorem f124_eq (a:OA) (b c:Nat) (d e f:Int) (w:World) (K:KT):f124 a b c d e f w K=(f124_s0 a b c d e f w K):=by kernel_rfl
theorem f124_ok (a:OA) (b c:Nat) (d e f:Int) (w:World) (K:KT) (h:f124 a b c d e f w K):CallL P 124 [(Value.slice a b c),(Value.int .i64 d),(Value.int .i64 e),(Value.int .i64 f)] w K:=okCS c124 Tryz.func124 (by kernel_rfl) (by kernel_rfl) h
end Go.Fx.Tryz
namespace Go.Fx.Tryz
open Go Go.Fx Go.Fx.Mo
open Go.Proofs
open Go.Sort (swp swp_size ltInt scanUp scanDown scanUp_ge scanDown_le scanUp_spec partLoop partLoop_eq partition partEqLoop partEqLoop_eq partitionEqual)
variable {w0 w:World} {H X:HL} {K:KT}
set_option maxRecDepth 20000
section
variable {p:Int→Bool} {d:Array Int} {i j:Nat}
theorem up_step (h1:i≤j) (h2:p d[i]! = true):scanUp p d j i=scanUp p d j (i+1):=by
 conv=>lhs; rw [scanUp]
 rw [if_pos (by simp [h1,h2])]
theorem up_stop (h:¬ (i≤j∧p d[i]! = true)):scanUp p d j i=i:=by
 rw [scanUp,if_neg (by simpa using h)]
theorem up_le (d:Array Int) (i j b:Nat) (hi:i≤b) (hj:j < b):scanUp p d j i≤b:=by
 by_cases h:i≤j+1
 ·have:=(scanUp_spec p d j _ i rfl).2.1 h; omega
 ·rw [up_stop (by omega)]; exact hi
theorem down_step (h0:1≤i) (h1:i≤j) (h2:p d[j]! = true):scanDown p d i j=scanDown p d i (j - 1):=by
 obtain ⟨q,rfl⟩:∃ q,j=q+1:=⟨j - 1,by omega⟩
 conv=>lhs; rw [scanDown]
 rw [if_pos (by simp [h1,h2])]
 rfl
theorem down_stop (h:¬ (i≤j∧p d[j]! = true)):scanDown p d i j=j:=by
 cases j with
 | zero=>rfl
 | succ q=>rw [scanDown,if_neg (by simpa using h)]
end
section
variable {g c:Nat} {T:TypeId} {z:List Value}
abbrev ptE (g c n a:Nat) (i j:Nat):Env:=Env.mk 168 [(10,(Value.int .i64 i)),(8,(Value.int .i64 0)),(9,(Value.bool false)),(11,(Value.int .i64 j)),(0,(Value.slice (some (Addr.mk g 0 none)) n c)),(1,(Value.int .i64 a))] []
abbrev ptF (g c n a:Nat) (i j:Nat):Env:=Env.mk 168 [(11,(Value.int .i64 j)),(8,(Value.int .i64 0)),(9,(Value.bool false)),(0,(Value.slice (some (Addr.mk g 0 none)) n c)),(1,(Value.int .i64 a)),(10,(Value.int .i64 i))] []
def UpInv (w0:World) (X:HL) (E:Nat→Env) (p:Int→Bool) (d:Array Int) (a b j I:Nat) (m:Nat) (ee:Env) (w:World):Prop:=
 ∃ i:Nat,a < i∧i≤b∧m=j+1 - i∧scanUp p d j i=I∧ee=E i∧St w0 w X
def DnInv (w0:World) (X:HL) (E:Nat→Env) (p:Int→Bool) (d:Array Int) (b I J:Nat) (m:Nat) (ee:Env) (w:World):Prop:=
 ∃ j:Nat,j < b∧m=j∧scanDown p d I j=J∧ee=E j∧St w0 w X
def PtInv (w0:World) (H:HL) (g c:Nat) (T:TypeId) (z:List Value) (n a b:Nat) (R:Nat × Array Int) (m:Nat) (ee:Env) (w:World):Prop:=
 ∃ (i j:Nat) (d:Array Int),a < i∧i≤b∧j < b∧m=j+1 - i∧d.size=n∧partLoop ltInt a i j d=R∧ee=ptE g c n a i j∧St w0 w ((g,Cs (uCs d z) T)::H)
theorem part_loop {d:Array Int} {n a b i j:Nat} {R:Nat × Array Int} (h:St w0 w ((g,Cs (uCs d z) T)::H)) (ha:a < i) (hi:i≤b) (hj:j < b) (hd:d.size=n) (hb:b≤n) (hn:n < 1000000000000) (hR:partLoop ltInt a i j d=R)
  (hK:∀ w',St w0 w' ((g,Cs (uCs (swp R.2 R.1 a) z) T)::H)→K (.tuple [I64 (R.1:Nat),.bool false].toArray) w'):LoopE (f125_lp17 K) (ptE g c n a i j) w:=by
 refine ⟨PtInv w0 H g c T z n a b R,⟨j+1 - i,i,j,d,ha,hi,hj,rfl,hd,hR,rfl,h⟩,?_⟩
 clear h ha hi hj hd hR
 rintro m ee w7 ⟨i',j',d2,ha',hi',hj',rfl,hd2,hR,rfl,h7⟩
 show f125_lb17 ..
 rw [f125_lb17_eq]
 rw [partLoop_eq] at hR
 subst hd2
 refine ⟨UpInv w0 ((g,Cs (uCs d2 z) T)::H) (fun i=>ptE g c d2.size a i j') (fun x=>ltInt x d2[a]!) d2 a b j' (scanUp (fun x=>ltInt x d2[a]!) d2 j' i'),⟨j'+1 - i',i',ha',hi',rfl,rfl,rfl,h7⟩,?_⟩
 have gI:=up_le (p:=fun x=>ltInt x d2[a]!) d2 i' j' b hi' hj'
 have gI0:=scanUp_ge (fun x=>ltInt x d2[a]!) d2 j' i'
 generalize scanUp (fun x=>ltInt x d2[a]!) d2 j' i'=I2 at hR gI gI0
 rintro m ee w8 ⟨i3,ha3,hi3,rfl,hup3,rfl,h8⟩
 show f125_lb18 ..
 rw [f125_lb18_eq,BIf_iff]
 have after3:∀ w9,St w0 w9 ((g,Cs (uCs d2 z) T)::H)→f125_s21 (j':Int) 0 false (some (Addr.mk g 0 none)) d2.size c a I2 w9 K (fun e' w'=>∃ m,m < j'+1 - i'∧PtInv w0 H g c T z d2.size a b R m e' w'):=by
  intro w9 h9
  rw [f125_s21_eq]
  refine ⟨DnInv w0 ((g,Cs (uCs d2 z) T)::H) (fun j=>ptF g c d2.size a I2 j) (fun x=>!ltInt x d2[a]!) d2 b I2 (scanDown (fun x=>!ltInt x d2[a]!) d2 I2 j'),⟨j',j',hj',rfl,rfl,rfl,h9⟩,?_⟩
  have gJ:=scanDown_le (fun x=>!ltInt x d2[a]!) d2 I2 j'
  generalize scanDown (fun x=>!ltInt x d2[a]!) d2 I2 j'=J2 at hR gJ
  rintro j4 ee w10 ⟨_,hj4,rfl,hdn4,rfl,h10⟩
  show f125_lb22 ..
  rw [f125_lb22_eq,BIf_iff]
  have after4:∀ w11,j4=J2→St w0 w11 ((g,Cs (uCs d2 z) T)::H)→f125_s25 0 false (j4:Int) (some (Addr.mk g 0 none)) d2.size c a I2 w11 K (fun e' w'=>∃ m,m < j'+1 - i'∧PtInv w0 H g c T z d2.size a b R m e' w'):=by
   intro w11 hj h11
   subst hj
   rw [f125_s25_eq,BIf_iff]
   constructor
   ·intro hgt
    have hgt:I2 > j4:=by simpa using hgt
    rw [if_pos hgt] at hR
    subst hR
    rw [f125_s26_eq]
    refine swap_at (i:=j4) (j:=a) rfl rfl (by omega) (by omega) h11 fun w12 h12=>?_
    rw [f125_s27_eq]
    exact hK w12 h12
   ·intro hle
    have hle:¬ I2 > j4:=by simpa using hle
    rw [if_neg hle] at hR
    rw [f125_s28_eq]
    refine swap_at (i:=I2) (j:=j4) rfl rfl (by omega) (by omega) h11 fun w12 h12=>?_
    have ej:IntKind.wrap .i64 ((j4:Int) - 1)=((j4 - 1:Nat):Int):=by rw [wrap_i64 (by omega) (by omega)]; omega
    have ei:IntKind.wrap .i64 ((I2:Int)+1)=((I2+1:Nat):Int):=by rw [wrap_i64 (by omega) (by omega)]; omega
    rw [f125_s29_eq,ei,ej]
    exact ⟨j4 - 1+1 - (I2+1),by omega,I2+1,j4 - 1,_,by omega,by omega,by omega,rfl,swp_size _ _ _,hR,rfl,h12⟩
  constructor
  ·intro hle
   have hle:I2≤j4:=by simpa using hle
   refine less_at (i:=j4) (j:=a) rfl rfl (by omega) (by omega) h10 (.head _) fun w11 h11=>⟨_,rfl,?_⟩
   rw [f125_s23_eq,BIf_iff]
   refine ⟨fun hb'=>?_,fun hb'=>?_⟩
   ·rw [f125_s24_eq]
    refine ⟨j4 - 1,by omega,j4 - 1,by omega,rfl,?_,?_,h11⟩
    ·rw [← hdn4]; exact (down_step (by omega) hle hb').symm
    ·rw [wrap_i64 (by omega) (by omega),show (j4:Int) - 1=((j4 - 1:Nat):Int) by omega]
   ·refine after4 w11 ?_ h11
    rw [← hdn4]; exact (down_stop (fun hh=>by rw [hh.2] at hb'; cases hb')).symm
  ·intro hgt
   have hgt:¬ I2≤j4:=by simpa using hgt
   rw [f125_s23_eq,BIf_false]
   refine after4 _ ?_ h10.drew
   rw [← hdn4]; exact (down_stop (fun hh=>hgt hh.1)).symm
 constructor
 ·intro hle
  have hle:i3≤j':=by simpa using hle
  refine less_at (i:=i3) (j:=a) rfl rfl (by omega) (by omega) h8 (.head _) fun w9 h9=>⟨_,rfl,?_⟩
  rw [f125_s19_eq,BIf_iff]
  refine ⟨fun hb'=>?_,fun hb'=>?_⟩
  ·rw [f125_s20_eq]
   refine ⟨j'+1 - (i3+1),by omega,i3+1,by omega,by omega,rfl,?_,?_,h9⟩
   ·rw [← hup3]; exact (up_step hle hb').symm
   ·rw [wrap_i64 (by omega) (by omega)]; rfl
  ·have:i3=I2:=by rw [← hup3]; exact (up_stop (fun hh=>by rw [hh.2] at hb'; cases hb')).symm
   rw [this]
   exact after3 w9 h9
 ·intro hgt
  have hgt:¬ i3≤j':=by simpa using hgt
  rw [f125_s19_eq,BIf_false]
  have:i3=I2:=by rw [← hup3]; exact (up_stop (fun hh=>hgt hh.1)).symm
  rw [this]
  exact after3 _ h8.drew
theorem partition_ok {d:Array Int} {a b pv:Nat} (h:St w0 w ((g,Cs (uCs d z) T)::H)) (hap:a≤pv) (hpb:pv < b) (hb:b≤d.size) (hn:d.size < 1000000000000)
  (hK:∀ w',St w0 w' ((g,Cs (uCs (partition ltInt d a b pv).2.2 z) T)::H)→K (.tuple [I64 ((partition ltInt d a b pv).1:Nat),.bool (partition ltInt d a b pv).2.1].toArray) w') :
  CallL P 125 [.slice (some (Addr.mk g 0 none)) d.size c,.int .i64 a,.int .i64 b,.int .i64 pv] w K:=by
 refine f125_ok _ _ _ _ _ _ _ _ ?_
 rw [f125_eq,f125_s0_eq,f125_s1_eq]
 refine swap_at (i:=a) (j:=pv) rfl rfl (by omega) (by omega) h fun w1 h1=>?_
 have hs1:(swp d a pv).size=d.size:=swp_size _ _ _
 unfold partition at hK
 simp only at hK
 generalize swp d a pv=d1 at h1 hs1 hK
 have ej:IntKind.wrap .i64 ((b:Int) - 1)=((b - 1:Nat):Int):=by rw [wrap_i64 (by omega) (by omega)]; omega
 have ei:IntKind.wrap .i64 ((a:Int)+1)=((a+1:Nat):Int):=by rw [wrap_i64 (by omega) (by omega)]; omega
 rw [f125_s2_eq,ej,ei,f125_s3_eq,← hs1]
 rw [← hs1] at hb hn
 refine ⟨UpInv w0 ((g,Cs (uCs d1 z) T)::H) (fun i=>ptE g c d1.size a i (b - 1)) (fun x=>ltInt x d1[a]!) d1 a b (b - 1) (scanUp (fun x=>ltInt x d1[a]!) d1 (b - 1) (a+1)),⟨b - 1+1 - (a+1),a+1,by omega,by omega,rfl,rfl,rfl,h1⟩,?_⟩
 have hI:=up_le (p:=fun x=>ltInt x d1[a]!) d1 (a+1) (b - 1) b (by omega) (by omega)
 have hI0:=scanUp_ge (fun x=>ltInt x d1[a]!) d1 (b - 1) (a+1)
 generalize hII:scanUp (fun x=>ltInt x d1[a]!) d1 (b - 1) (a+1)=I at hK hI hI0
 rintro m ee w2 ⟨i,hai,hib,rfl,hup,rfl,h2⟩
 show f125_lb4 ..
 rw [f125_lb4_eq,BIf_iff]
 have after:∀ w3,St w0 w3 ((g,Cs (uCs d1 z) T)::H)→f125_s7 ((b - 1:Nat):Int) 0 false (some (Addr.mk g 0 none)) d1.size c a I w3 K:=by
  intro w3 h3
  rw [f125_s7_eq]
  refine ⟨DnInv w0 ((g,Cs (uCs d1 z) T)::H) (fun j=>ptF g c d1.size a I j) (fun x=>!ltInt x d1[a]!) d1 b I (scanDown (fun x=>!ltInt x d1[a]!) d1 I (b - 1)),⟨b - 1,b - 1,by omega,rfl,rfl,rfl,h3⟩,?_⟩
  have hJ:=scanDown_le (fun x=>!ltInt x d1[a]!) d1 I (b - 1)
  generalize hJJ:scanDown (fun x=>!ltInt x d1[a]!) d1 I (b - 1)=J at hK hJ
  rintro j ee w4 ⟨_,hjb,rfl,hdn,rfl,h4⟩
  show f125_lb8 ..
  rw [f125_lb8_eq,BIf_iff]
  have after2:∀ w5,j=J→St w0 w5 ((g,Cs (uCs d1 z) T)::H)→f125_s11 (j:Int) (some (Addr.mk g 0 none)) d1.size c a 0 false I w5 K:=by
   intro w5 hjJ h5
   subst hjJ
   rw [f125_s11_eq,BIf_iff]
   constructor
   ·intro hgt
    have hgt:I > j:=by simpa using hgt
    simp only [if_pos hgt] at hK
    refine swap_at (i:=j) (j:=a) rfl rfl (by omega) (by omega) h5 fun w6 h6=>?_
    rw [f125_s12_eq]
    exact hK w6 h6
   ·intro hle
    have hle:¬ I > j:=by simpa using hle
    simp only [if_neg hle] at hK
    rw [f125_s13_eq]
    refine swap_at (i:=I) (j:=j) rfl rfl (by omega) (by omega) h5 fun w6 h6=>?_
    have hs2:(swp d1 I j).size=d1.size:=swp_size _ _ _
    have ej:IntKind.wrap .i64 ((j:Int) - 1)=((j - 1:Nat):Int):=by rw [wrap_i64 (by omega) (by omega)]; omega
    have ei:IntKind.wrap .i64 ((I:Int)+1)=((I+1:Nat):Int):=by rw [wrap_i64 (by omega) (by omega)]; omega
    rw [f125_s14_eq,ei,f125_s15_eq,ej,f125_s16_eq]
    exact part_loop h6 (by omega) (by omega) (by omega) hs2 hb hn rfl hK
  constructor
  ·intro hle
   have hle:I≤j:=by simpa using hle
   refine less_at (i:=j) (j:=a) rfl rfl (by omega) (by omega) h4 (.head _) fun w5 h5=>⟨_,rfl,?_⟩
   rw [f125_s9_eq,BIf_iff]
   refine ⟨fun hb'=>?_,fun hb'=>?_⟩
   ·rw [f125_s10_eq]
    refine ⟨j - 1,by omega,j - 1,by omega,rfl,?_,?_,h5⟩
    ·rw [← hdn]; exact (down_step (by omega) hle hb').symm
    ·rw [wrap_i64 (by omega) (by omega),show (j:Int) - 1=((j - 1:Nat):Int) by omega]
   ·refine after2 w5 ?_ h5
    rw [← hdn]; exact (down_stop (fun hh=>by rw [hh.2] at hb'; cases hb')).symm
  ·intro hgt
   have hgt:¬ I≤j:=by simpa using hgt
   rw [f125_s9_eq,BIf_false]
   refine after2 _ ?_ h4.drew
   rw [← hdn]; exact (down_stop (fun hh=>hgt hh.1)).symm
 constructor
 ·intro hle
  have hle:i≤b - 1:=by simp at hle; omega
  refine less_at (i:=i) (j:=a) rfl rfl (by omega) (by omega) h2 (.head _) fun w3 h3=>⟨_,rfl,?_⟩
  rw [f125_s5_eq,BIf_iff]
  refine ⟨fun hb'=>?_,fun hb'=>?_⟩
  ·rw [f125_s6_eq]
   refine ⟨b - 1+1 - (i+1),by omega,i+1,by omega,by omega,rfl,?_,?_,h3⟩
   ·rw [← hup]; exact (up_step hle hb').symm
   ·rw [wrap_i64 (by omega) (by omega)]; rfl
  ·have:i=I:=by rw [← hup]; exact (up_stop (fun hh=>by rw [hh.2] at hb'; cases hb')).symm
   rw [this]
   exact after w3 h3
 ·intro hgt
  have hgt:¬ i≤b - 1:=by simp at hgt; omega
  rw [f125_s5_eq,BIf_false]
  have:i=I:=by rw [← hup]; exact (up_stop (fun hh=>hgt hh.1)).symm
  rw [this]
  exact after _ h2.drew
abbrev peE (g c n a:Nat) (i j:Nat):Env:=Env.mk 84 [(9,(Value.int .i64 i)),(8,(Value.int .i64 0)),(10,(Value.int .i64 j)),(0,(Value.slice (some (Addr.mk g 0 none)) n c)),(1,(Value.int .i64 a))] []
abbrev peF (g c n a:Nat) (i j:Nat):Env:=Env.mk 84 [(10,(Value.int .i64 j)),(8,(Value.int .i64 0)),(9,(Value.int .i64 i)),(0,(Value.slice (some (Addr.mk g 0 none)) n c)),(1,(Value.int .i64 a))] []
def PeInv (w0:World) (H:HL) (g c:Nat) (T:TypeId) (z:List Value) (n a b:Nat) (R:Nat × Array Int) (m:Nat) (ee:Env) (w:World):Prop:=
 ∃ (i j:Nat) (d:Array Int),a < i∧i≤b∧j < b∧m=j+1 - i∧d.size=n∧partEqLoop ltInt a i j d=R∧ee=peE g c n a i j∧St w0 w ((g,Cs (uCs d z) T)::H)
theorem parteq_loop {d:Array Int} {n a b i j:Nat} {R:Nat × Array Int} (h:St w0 w ((g,Cs (uCs d z) T)::H)) (ha:a < i) (hi:i≤b) (hj:j < b) (hd:d.size=n) (hb:b≤n) (hn:n < 1000000000000) (hR:partEqLoop ltInt a i j d=R)
  (hK:∀ w',St w0 w' ((g,Cs (uCs R.2 z) T)::H)→K (I64 (R.1:Nat)) w'):LoopE (f124_lp4 K) (peE g c n a i j) w:=by
 refine ⟨PeInv w0 H g c T z n a b R,⟨j+1 - i,i,j,d,ha,hi,hj,rfl,hd,hR,rfl,h⟩,?_⟩
 clear h ha hi hj hd hR
 rintro m ee w7 ⟨i',j',d2,ha',hi',hj',rfl,hd2,hR,rfl,h7⟩
 show f124_lb4 ..
 rw [f124_lb4_eq]
 rw [partEqLoop_eq] at hR
 subst hd2
 refine ⟨UpInv w0 ((g,Cs (uCs d2 z) T)::H) (fun i=>peE g c d2.size a i j') (fun x=>!ltInt d2[a]! x) d2 a b j' (scanUp (fun x=>!ltInt d2[a]! x) d2 j' i'),⟨j'+1 - i',i',ha',hi',rfl,rfl,rfl,h7⟩,?_⟩
 have gI:=up_le (p:=fun x=>!ltInt d2[a]! x) d2 i' j' b hi' hj'
 have gI0:=scanUp_ge (fun x=>!ltInt d2[a]! x) d2 j' i'
 generalize scanUp (fun x=>!ltInt d2[a]! x) d2 j' i'=I2 at hR gI gI0
 rintro m ee w8 ⟨i3,ha3,hi3,rfl,hup3,rfl,h8⟩
 show f124_lb5 ..
 rw [f124_lb5_eq,BIf_iff]
 have after3:∀ w9,St w0 w9 ((g,Cs (uCs d2 z) T)::H)→f124_s8 (j':Int) 0 I2 (some (Addr.mk g 0 none)) d2.size c a w9 K (fun e' w'=>∃ m,m < j'+1 - i'∧PeInv w0 H g c T z d2.size a b R m e' w'):=by
  intro w9 h9
  rw [f124_s8_eq]
  refine ⟨DnInv w0 ((g,Cs (uCs d2 z) T)::H) (fun j=>peF g c d2.size a I2 j) (fun x=>ltInt d2[a]! x) d2 b I2 (scanDown (fun x=>ltInt d2[a]! x) d2 I2 j'),⟨j',j',hj',rfl,rfl,rfl,h9⟩,?_⟩
  have gJ:=scanDown_le (fun x=>ltInt d2[a]! x) d2 I2 j'
  generalize scanDown (fun x=>ltInt d2[a]! x) d2 I2 j'=J2 at hR gJ
  rintro j4 ee w10 ⟨_,hj4,rfl,hdn4,rfl,h10⟩
  show f124_lb9 ..
  rw [f124_lb9_eq,BIf_iff]
  have after4:∀ w11,j4=J2→St w0 w11 ((g,Cs (uCs d2 z) T)::H)→f124_s12 0 I2 (j4:Int) (some (Addr.mk g 0 none)) d2.size c a w11 K (fun e' w'=>∃ m,m < j'+1 - i'∧PeInv w0 H g c T z d2.size a b R m e' w'):=by
   intro w11 hj h11
   subst hj
   rw [f124_s12_eq,BIf_iff]
   constructor
   ·intro hgt
    have hgt:I2 > j4:=by simpa using hgt
    rw [if_pos hgt] at hR
    subst hR
    rw [f124_s13_eq]
    exact hK w11 h11
   ·intro hle
    have hle:¬ I2 > j4:=by simpa using hle
    rw [if_neg hle] at hR
    rw [f124_s14_eq]
    refine swap_at (i:=I2) (j:=j4) rfl rfl (by omega) (by omega) h11 fun w12 h12=>?_
    have ej:IntKind.wrap .i64 ((j4:Int) - 1)=((j4 - 1:Nat):Int):=by rw [wrap_i64 (by omega) (by omega)]; omega
    have ei:IntKind.wrap .i64 ((I2:Int)+1)=((I2+1:Nat):Int):=by rw [wrap_i64 (by omega) (by omega)]; omega
    rw [f124_s15_eq,ei,ej]
    exact ⟨j4 - 1+1 - (I2+1),by omega,I2+1,j4 - 1,_,by omega,by omega,by omega,rfl,swp_size _ _ _,hR,rfl,h12⟩
  constructor
  ·intro hle
   have hle:I2≤j4:=by simpa using hle
   refine less_at (i:=a) (j:=j4) rfl rfl (by omega) (by omega) h10 (.head _) fun w11 h11=>⟨_,rfl,?_⟩
   rw [f124_s10_eq,BIf_iff]
   refine ⟨fun hb'=>?_,fun hb'=>?_⟩
   ·rw [f124_s11_eq]
    refine ⟨j4 - 1,by omega,j4 - 1,by omega,rfl,?_,?_,h11⟩
    ·rw [← hdn4]; exact (down_step (by omega) hle hb').symm
    ·rw [wrap_i64 (by omega) (by omega),show (j4:Int) - 1=((j4 - 1:Nat):Int) by omega]
   ·refine after4 w11 ?_ h11
    rw [← hdn4]; exact (down_stop (fun hh=>by rw [hh.2] at hb'; cases hb')).symm
  ·intro hgt
   have hgt:¬ I2≤j4:=by simpa using hgt
   rw [f124_s10_eq,BIf_false]
   refine after4 _ ?_ h10.drew
   rw [← hdn4]; exact (down_stop (fun hh=>hgt hh.1)).symm
 constructor
 ·intro hle
  have hle:i3≤j':=by simpa using hle
  refine less_at (i:=a) (j:=i3) rfl rfl (by omega) (by omega) h8 (.head _) fun w9 h9=>⟨_,rfl,?_⟩
  rw [f124_s6_eq,BIf_iff]
  refine ⟨fun hb'=>?_,fun hb'=>?_⟩
  ·rw [f124_s7_eq]
   refine ⟨j'+1 - (i3+1),by omega,i3+1,by omega,by omega,rfl,?_,?_,h9⟩
   ·rw [← hup3]; exact (up_step hle hb').symm
   ·rw [wrap_i64 (by omega) (by omega)]; rfl
  ·have:i3=I2:=by rw [← hup3]; exact (up_stop (fun hh=>by rw [hh.2] at hb'; cases hb')).symm
   rw [this]
   exact after3 w9 h9
 ·intro hgt
  have hgt:¬ i3≤j':=by simpa using hgt
  rw [f124_s6_eq,BIf_false]
  have:i3=I2:=by rw [← hup3]; exact (up_stop (fun hh=>hgt hh.1)).symm
  rw [this]
  exact after3 _ h8.drew
theorem partitionEqual_ok {d:Array Int} {a b pv:Nat} (h:St w0 w ((g,Cs (uCs d z) T)::H)) (hap:a≤pv) (hpb:pv < b) (hb:b≤d.size) (hn:d.size < 1000000000000)
  (hK:∀ w',St w0 w' ((g,Cs (uCs (partitionEqual ltInt d a b pv).2 z) T)::H)→K (I64 ((partitionEqual ltInt d a b pv).1:Nat)) w') :
  CallL P 124 [.slice (some (Addr.mk g 0 none)) d.size c,.int .i64 a,.int .i64 b,.int .i64 pv] w K:=by
 refine f124_ok _ _ _ _ _ _ _ _ ?_
 rw [f124_eq,f124_s0_eq,f124_s1_eq]
 refine swap_at (i:=a) (j:=pv) rfl rfl (by omega) (by omega) h fun w1 h1=>?_
 have hs1:(swp d a pv).size=d.size:=swp_size _ _ _
 unfold partitionEqual at hK
 generalize swp d a pv=d1 at h1 hs1 hK
 have ej:IntKind.wrap .i64 ((b:Int) - 1)=((b - 1:Nat):Int):=by rw [wrap_i64 (by omega) (by omega)]; omega
 have ei:IntKind.wrap .i64 ((a:Int)+1)=((a+1:Nat):Int):=by rw [wrap_i64 (by omega) (by omega)]; omega
 rw [f124_s2_eq,ej,ei,f124_s3_eq]
 exact parteq_loop h1 (by omega) (by omega) (by omega) hs1 hb hn rfl hK
end
end Go.Fx.Tryz
namespace Go.Fx.Tryz
set_option maxRecDepth 100000
open Go Go.Fx Go.Proofs
noncomputable def c122:Code:=bodyOf Tryz.f122
noncomputable def rs122:List ResultVar:=Tryz.f122.results.toList
abbrev f122_kb (K:KT):Exit→YT:=bodyK P rs122 K
def f122 (a:OA) (b c:Nat) (d e:Int) (w:World) (K:KT):Prop:=CS P c122 none [6] [6] (f122_kb K) (env0 133 [(VS a b c),(VI d),(VI e)]) w
def f122_s0 (a:OA) (b c:Nat) (d e:Int) (w:World) (K:KT):Prop:=CS P (cA c122 1) none [6] [6] (f122_kb K) (Env.mk 133 [(0,(VS a b c)),(1,(VI d)),(2,(VI e))] []) w
abbrev f122_k0 (K:KT):Exit→YT:=kseq P (cA c122 2) (cA c122 3) none [6] [6] (f122_kb K)
def f122_s1 (a:OA) (b c:Nat) (d e:Int) (w:World) (K:KT):Prop:=CS P (cA c122 3) none [6] [6] (f122_kb K) (Env.mk 133 [(6,(VB false)),(0,(VS a b c)),(1,(VI d)),(2,(VI e))] []) w
abbrev f122_k1 (K:KT):Exit→YT:=kseq P (cA c122 6) (cA c122 7) none [6] [6] (f122_kb K)
def f122_s2 (a b c:Int) (d:OA) (e f:Nat) (g h:Int) (w:World) (K:KT):Prop:=CS P (cA c122 7) none [6] [6] (f122_kb K) (Env.mk 133 [(7,(VI a)),(12,(VI b)),(11,(VI c)),(6,(VB false)),(0,(VS d e f)),(1,(VI g)),(2,(VI h))] []) w
abbrev f122_k2 (K:KT):Exit→YT:=kseq P (cA c122 14) (cA c122 15) none [6] [6] (f122_kb K)
abbrev f122_k3 (K:KT):Exit→YT:=kseq P (cA c122 28) (cA c122 29) none [] [6] (f122_k2 K)
def f122_s3 (a b c d:Int) (e:OA) (f g:Nat) (h i:Int) (w:World) (K:KT):Prop:=CS P (cA c122 29) none [] [6] (f122_k2 K) (Env.mk 133 [(8,(VI a)),(7,(VI b)),(12,(VI c)),(11,(VI d)),(6,(VB false)),(0,(VS e f g)),(1,(VI h)),(2,(VI i))] []) w
abbrev f122_k4 (K:KT):Exit→YT:=kblock 0 (f122_k2 K)
def f122_lp4 (K:KT) (Y4:YT) (e:Env) (w:World):Prop:=Join (fun e w=>CS P (cA c122 116) none [7,6,8,0,2,1] [6] (kloop [7,6,8,0,2,1] Y4 (f122_k4 K)) e w) e w
abbrev f122_kl4 (K:KT) (Y4:YT):Exit→YT:=kloop [7,6,8,0,2,1] Y4 (f122_k4 K)
def f122_lb4 (a:Int) (b:Bool) (c:Int) (d:OA) (f g:Nat) (h i:Int) (w:World) (K:KT) (Y4:YT):Prop:=SG P (cA c122 116) none [7,6,8,0,2,1] [6] (f122_kl4 K Y4) (Env.mk 133 [(7,(VI a)),(6,(VB b)),(8,(VI c)),(0,(VS d f g)),(2,(VI h)),(1,(VI i))] []) w
abbrev f122_k5 (K:KT) (Y4:YT):Exit→YT:=kseq P (cA c122 232) (cA c122 233) none [7,6,8,0,2,1] [6] (f122_kl4 K Y4)
abbrev f122_k6 (K:KT) (Y4:YT):Exit→YT:=kseq P (cA c122 464) (cA c122 465) none [7,6,0,2,1,8] [6] (f122_k5 K Y4)
def f122_s5 (a:Int) (b:Bool) (c:OA) (d f:Nat) (g h i:Int) (w:World) (K:KT) (Y4:YT):Prop:=SG P (cA c122 233) none [7,6,8,0,2,1] [6] (f122_kl4 K Y4) (Env.mk 133 [(7,(VI a)),(6,(VB b)),(0,(VS c d f)),(2,(VI g)),(1,(VI h)),(8,(VI i))] []) w
abbrev f122_k7 (K:KT) (Y4:YT):Exit→YT:=kseq P (cA c122 466) (cA c122 467) none [7,6,8,0,2,1] [6] (f122_kl4 K Y4)
abbrev f122_k8 (K:KT) (Y4:YT):Exit→YT:=kblock 1 (f122_k7 K Y4)
abbrev f122_k9 (K:KT) (Y4:YT):Exit→YT:=kseq P (cA c122 1864) (cA c122 1865) none [7,6,0,2,1,8] [6,7,0,2,1,8] (f122_k8 K Y4)
abbrev f122_k10 (K:KT) (Y4:YT):Exit→YT:=kblock 2 (f122_k9 K Y4)
def f122_lp6 (K:KT) (Y4 Y6:YT) (e:Env) (w:World):Prop:=Join (fun e w=>CS P (cA c122 7456) none [7,6,0,2,1,8] [6,7,0,2,1,8] (kloop [7,6,0,2,1,8] Y6 (f122_k10 K Y4)) e w) e w
abbrev f122_kl6 (K:KT) (Y4 Y6:YT):Exit→YT:=kloop [7,6,0,2,1,8] Y6 (f122_k10 K Y4)
def f122_lb6 (a:Int) (b:Bool) (c:OA) (d f:Nat) (g h i:Int) (w:World) (K:KT) (Y4 Y6:YT):Prop:=SG P (cA c122 7456) none [7,6,0,2,1,8] [6,7,0,2,1,8] (f122_kl6 K Y4 Y6) (Env.mk 133 [(7,(VI a)),(6,(VB b)),(0,(VS c d f)),(2,(VI g)),(1,(VI h)),(8,(VI i))] []) w
abbrev f122_k11 (K:KT) (Y4 Y6:YT):Exit→YT:=kseq P (cA c122 14912) (cA c122 14913) none [7,6,0,2,1,8] [6,7,0,2,1,8] (f122_kl6 K Y4 Y6)
abbrev f122_k12 (K:KT) (Y4 Y6:YT):Exit→YT:=kseq P (cA c122 29824) (cA c122 29825) none [6,0,2,1,8,7] [6,7,0,2,1,8] (f122_k11 K Y4 Y6)
def f122_s7 (a b:Bool) (c:OA) (d f:Nat) (g h i j:Int) (w:World) (K:KT) (Y4 Y6:YT):Prop:=SG P (cA c122 29825) none [6,0,2,1,8,7] [6,7,0,2,1,8] (f122_k11 K Y4 Y6) (Env.mk 133 [(32,(VB a)),(6,(VB b)),(0,(VS c d f)),(2,(VI g)),(1,(VI h)),(8,(VI i)),(7,(VI j))] []) w
def f122_s8 (a:Bool) (b:OA) (c d:Nat) (f g h i:Int) (w:World) (K:KT) (Y4 Y6:YT):Prop:=SG P (cA c122 14913) none [7,6,0,2,1,8] [6,7,0,2,1,8] (f122_kl6 K Y4 Y6) (Env.mk 133 [(6,(VB a)),(0,(VS b c d)),(2,(VI f)),(1,(VI g)),(8,(VI h)),(7,(VI i))] []) w
abbrev f122_k13 (K:KT) (Y4 Y6:YT):Exit→YT:=kblock 3 (f122_kl6 K Y4 Y6)
theorem f122_s8_eq (a:Bool) (c:OA) (d e:Nat) (f g h i:Int) (w:World) (K:KT) (Y4 Y6:YT):f122_s8 a c d e f g h i w K Y4 Y6=(Y6 (Env.mk 133 [(7,(Value.int .i64 (IntKind.wrap .i64 ((i:Int)+1)))),(6,(Value.bool a)),(0,(Value.slice c d e)),(2,(Value.int .i64 f)),(1,(Value.int .i64 g)),(8,(Value.int .i64 h))] []) w):=Eq.trans SGe (Eq.trans (CSb 3 [6,7,0,2,1,8] (f122_k13 K Y4 Y6) (by kernel_rfl)) (by kernel_rfl))
def f122_s9 (a:Int) (b:OA) (c d:Nat) (f g h:Int) (i:Bool) (w:World) (K:KT) (Y4:YT):Prop:=SG P (cA c122 1865) none [7,6,0,2,1,8] [6,7,0,2,1,8] (f122_k8 K Y4) (Env.mk 133 [(7,(VI a)),(0,(VS b c d)),(2,(VI f)),(1,(VI g)),(8,(VI h)),(6,(VB i))] []) w
abbrev f122_k14 (K:KT) (Y4:YT):Exit→YT:=kseq P (cA c122 3730) (cA c122 3731) none [7,6,0,2,1,8] [6,7,0,2,1,8] (f122_k8 K Y4)
abbrev f122_k15 (K:KT) (Y4:YT):Exit→YT:=kseq P (cA c122 7460) (cA c122 7461) none [7,0,2,1,8,6] [6,7,0,2,1,8] (f122_k14 K Y4)
def f122_s10 (a:Int) (b:OA) (c d:Nat) (f g h:Int) (i:Bool) (w:World) (K:KT) (Y4:YT):Prop:=SG P (cA c122 3731) none [7,6,0,2,1,8] [6,7,0,2,1,8] (f122_k8 K Y4) (Env.mk 133 [(7,(VI a)),(0,(VS b c d)),(2,(VI f)),(1,(VI g)),(8,(VI h)),(6,(VB i))] []) w
abbrev f122_k17 (K:KT) (Y4:YT):Exit→YT:=kseq P (cA c122 7462) (cA c122 7463) none [7,6,0,2,1,8] [6,7,0,2,1,8] (f122_k8 K Y4)
abbrev f122_k18 (K:KT) (Y4:YT):Exit→YT:=kseq P (cA c122 14924) (cA c122 14925) none [6,7,0,2,1,8] [6,7,0,2,1,8] (f122_k17 K Y4)
def f122_s11 (a:Bool) (b:Int) (c:OA) (d f:Nat) (g h i:Int) (w:World) (K:KT) (Y4:YT):Prop:=SG P (cA c122 7463) none [7,6,0,2,1,8] [6,7,0,2,1,8] (f122_k8 K Y4) (Env.mk 133 [(6,(VB a)),(7,(VI b)),(0,(VS c d f)),(2,(VI g)),(1,(VI h)),(8,(VI i))] []) w
abbrev f122_k20 (K:KT) (Y4:YT):Exit→YT:=kseq P (cA c122 14926) (cA c122 14927) none [7,6,0,2,1,8] [6,7,0,2,1,8] (f122_k8 K Y4)
def f122_s12 (a:Bool) (b:Int) (c:OA) (d f:Nat) (g h i:Int) (w:World) (K:KT) (Y4:YT):Prop:=SG P (cA c122 14927) none [7,6,0,2,1,8] [6,7,0,2,1,8] (f122_k8 K Y4) (Env.mk 133 [(6,(VB a)),(7,(VI b)),(0,(VS c d f)),(2,(VI g)),(1,(VI h)),(8,(VI i))] []) w
abbrev f122_k21 (K:KT) (Y4:YT):Exit→YT:=kseq P (cA c122 29854) (cA c122 29855) none [7,6,0,2,1,8] [6,7,0,2,1,8] (f122_k8 K Y4)
abbrev f122_k22 (K:KT) (Y4:YT):Exit→YT:=kseq P (cA c122 59708) (cA c122 59709) none [6,7,0,2,1,8] [6,7,0,2,1,8] (f122_k21 K Y4)
def f122_s13 (a:Bool) (b c d:Int) (e:Bool) (f:Int) (g:OA) (h i:Nat) (j k l:Int) (w:World) (K:KT) (Y4:YT):Prop:=CS P (cA c122 119418) none [6,7,0,2,1,8] [6,7,0,2,1,8] (f122_k21 K Y4) (Env.mk 133 [(61,(VB true)),(61,(VB a)),(60,(VI b)),(59,(VI c)),(58,(VI d)),(6,(VB e)),(7,(VI f)),(0,(VS g h i)),(2,(VI j)),(1,(VI k)),(8,(VI l))] []) w
abbrev f122_k23 (K:KT) (Y4:YT):Exit→YT:=kseq P (cA c122 238836) (cA c122 238837) none [6,7,0,2,1,8] [6,7,0,2,1,8] (f122_k21 K Y4)
def f122_s14 (a b c:Int) (d:Bool) (e f g:Int) (h:Bool) (i:Int) (j:OA) (k l:Nat) (m n o:Int) (w:World) (K:KT) (Y4:YT):Prop:=CS P (cA c122 238837) none [6,7,0,2,1,8] [6,7,0,2,1,8] (f122_k21 K Y4) (Env.mk 133 [(9,(VI a)),(63,(VI b)),(62,(VI c)),(61,(VB true)),(61,(VB d)),(60,(VI e)),(59,(VI f)),(58,(VI g)),(6,(VB h)),(7,(VI i)),(0,(VS j k l)),(2,(VI m)),(1,(VI n)),(8,(VI o))] []) w
abbrev f122_k24 (K:KT) (Y4:YT):Exit→YT:=kblock 4 (f122_k21 K Y4)
def f122_lp15 (K:KT) (Y4 Y15:YT) (e:Env) (w:World):Prop:=Join (fun e w=>CS P (cA c122 955348) none [6,7,0,2,1,8,9] [6,7,0,2,1,8] (kloop [6,7,0,2,1,8,9] Y15 (f122_k24 K Y4)) e w) e w
abbrev f122_kl15 (K:KT) (Y4 Y15:YT):Exit→YT:=kloop [6,7,0,2,1,8,9] Y15 (f122_k24 K Y4)
def f122_lb15 (a:Bool) (b:Int) (c:OA) (d f:Nat) (g h i j:Int) (w:World) (K:KT) (Y4 Y15:YT):Prop:=SG P (cA c122 955348) none [6,7,0,2,1,8,9] [6,7,0,2,1,8] (f122_kl15 K Y4 Y15) (Env.mk 133 [(6,(VB a)),(7,(VI b)),(0,(VS c d f)),(2,(VI g)),(1,(VI h)),(8,(VI i)),(9,(VI j))] []) w
abbrev f122_k25 (K:KT) (Y4 Y15:YT):Exit→YT:=kseq P (cA c122 1910696) (cA c122 1910697) none [6,7,0,2,1,8,9] [6,7,0,2,1,8] (f122_kl15 K Y4 Y15)
abbrev f122_k26 (K:KT) (Y4 Y15:YT):Exit→YT:=kseq P (cA c122 3821392) (cA c122 3821393) none [6,7,0,2,1,8,9] [6,7,0,2,1,8] (f122_k25 K Y4 Y15)
def f122_s16 (a:Bool) (b:Int) (c:OA) (d f:Nat) (g h i j:Int) (w:World) (K:KT) (Y4 Y15:YT):Prop:=SG P (cA c122 1910697) none [6,7,0,2,1,8,9] [6,7,0,2,1,8] (f122_kl15 K Y4 Y15) (Env.mk 133 [(6,(VB a)),(7,(VI b)),(0,(VS c d f)),(2,(VI g)),(1,(VI h)),(8,(VI i)),(9,(VI j))] []) w
abbrev f122_k27 (K:KT) (Y4 Y15:YT):Exit→YT:=kseq P (cA c122 3821394) (cA c122 3821395) none [6,7,0,2,1,8,9] [6,7,0,2,1,8] (f122_kl15 K Y4 Y15)
abbrev f122_k28 (K:KT) (Y4 Y15:YT):Exit→YT:=kblock 5 (f122_k27 K Y4 Y15)
abbrev f122_k29 (K:KT) (Y4 Y15:YT):Exit→YT:=kseq P (cA c122 15285576) (cA c122 15285577) none [6,7,0,2,1,8,9] [6,7,0,2,1,8,9] (f122_k28 K Y4 Y15)
abbrev f122_k30 (K:KT) (Y4 Y15:YT):Exit→YT:=kseq P (cA c122 30571152) (cA c122 30571153) none [6,7,0,2,1,8,9] [6,7,0,2,1,8,9] (f122_k29 K Y4 Y15)
def f122_s17 (a b:Bool) (c:Int) (d:OA) (f g:Nat) (h i j k:Int) (w:World) (K:KT) (Y4 Y15:YT):Prop:=SG P (cA c122 30571153) none [6,7,0,2,1,8,9] [6,7,0,2,1,8,9] (f122_k29 K Y4 Y15) (Env.mk 133 [(78,(VB a)),(6,(VB b)),(7,(VI c)),(0,(VS d f g)),(2,(VI h)),(1,(VI i)),(8,(VI j)),(9,(VI k))] []) w
def f122_s18 (a:Bool) (b:Int) (c:OA) (d f:Nat) (g h i:Int) (w:World) (K:KT) (Y4:YT):Prop:=SG P (cA c122 29855) none [7,6,0,2,1,8] [6,7,0,2,1,8] (f122_k8 K Y4) (Env.mk 133 [(6,(VB a)),(7,(VI b)),(0,(VS c d f)),(2,(VI g)),(1,(VI h)),(8,(VI i))] []) w
abbrev f122_k31 (K:KT) (Y4:YT):Exit→YT:=kseq P (cA c122 59710) (cA c122 59711) none [7,6,0,2,1,8] [6,7,0,2,1,8] (f122_k8 K Y4)
def f122_s19 (a:Bool) (b c d:Int) (e:Bool) (f:Int) (g:OA) (h i:Nat) (j k l:Int) (w:World) (K:KT) (Y4:YT):Prop:=CS P (cA c122 119422) none [7,6,0,2,1,8] [6,7,0,2,1,8] (f122_k8 K Y4) (Env.mk 133 [(98,(VB true)),(98,(VB a)),(97,(VI b)),(96,(VI c)),(95,(VI d)),(6,(VB e)),(7,(VI f)),(0,(VS g h i)),(2,(VI j)),(1,(VI k)),(8,(VI l))] []) w
abbrev f122_k32 (K:KT) (Y4:YT):Exit→YT:=kseq P (cA c122 238844) (cA c122 238845) none [7,6,0,2,1,8] [6,7,0,2,1,8] (f122_k8 K Y4)
def f122_s20 (a b c:Int) (d:Bool) (e f g:Int) (h:Bool) (i:Int) (j:OA) (k l:Nat) (m n o:Int) (w:World) (K:KT) (Y4:YT):Prop:=CS P (cA c122 238845) none [7,6,0,2,1,8] [6,7,0,2,1,8] (f122_k8 K Y4) (Env.mk 133 [(10,(VI a)),(100,(VI b)),(99,(VI c)),(98,(VB true)),(98,(VB d)),(97,(VI e)),(96,(VI f)),(95,(VI g)),(6,(VB h)),(7,(VI i)),(0,(VS j k l)),(2,(VI m)),(1,(VI n)),(8,(VI o))] []) w
abbrev f122_k33 (K:KT) (Y4:YT):Exit→YT:=kblock 6 (f122_k8 K Y4)
def f122_lp21 (K:KT) (Y4 Y21:YT) (e:Env) (w:World):Prop:=Join (fun e w=>CS P (cA c122 955380) none [6,7,0,2,1,8,10] [6,7,0,2,1,8] (kloop [6,7,0,2,1,8,10] Y21 (f122_k33 K Y4)) e w) e w
abbrev f122_kl21 (K:KT) (Y4 Y21:YT):Exit→YT:=kloop [6,7,0,2,1,8,10] Y21 (f122_k33 K Y4)
def f122_lb21 (a:Bool) (b:Int) (c:OA) (d f:Nat) (g h i j:Int) (w:World) (K:KT) (Y4 Y21:YT):Prop:=SG P (cA c122 955380) none [6,7,0,2,1,8,10] [6,7,0,2,1,8] (f122_kl21 K Y4 Y21) (Env.mk 133 [(6,(VB a)),(7,(VI b)),(0,(VS c d f)),(2,(VI g)),(1,(VI h)),(8,(VI i)),(10,(VI j))] []) w
abbrev f122_k34 (K:KT) (Y4 Y21:YT):Exit→YT:=kseq P (cA c122 1910760) (cA c122 1910761) none [6,7,0,2,1,8,10] [6,7,0,2,1,8] (f122_kl21 K Y4 Y21)
abbrev f122_k35 (K:KT) (Y4 Y21:YT):Exit→YT:=kseq P (cA c122 3821520) (cA c122 3821521) none [6,7,0,2,1,8,10] [6,7,0,2,1,8] (f122_k34 K Y4 Y21)
def f122_s22 (a:Bool) (b:Int) (c:OA) (d f:Nat) (g h i j:Int) (w:World) (K:KT) (Y4 Y21:YT):Prop:=SG P (cA c122 1910761) none [6,7,0,2,1,8,10] [6,7,0,2,1,8] (f122_kl21 K Y4 Y21) (Env.mk 133 [(6,(VB a)),(7,(VI b)),(0,(VS c d f)),(2,(VI g)),(1,(VI h)),(8,(VI i)),(10,(VI j))] []) w
abbrev f122_k36 (K:KT) (Y4 Y21:YT):Exit→YT:=kseq P (cA c122 3821522) (cA c122 3821523) none [6,7,0,2,1,8,10] [6,7,0,2,1,8] (f122_kl21 K Y4 Y21)
abbrev f122_k37 (K:KT) (Y4 Y21:YT):Exit→YT:=kblock 7 (f122_k36 K Y4 Y21)
abbrev f122_k38 (K:KT) (Y4 Y21:YT):Exit→YT:=kseq P (cA c122 15286088) (cA c122 15286089) none [6,7,0,2,1,8,10] [6,7,0,2,1,8,10] (f122_k37 K Y4 Y21)
abbrev f122_k39 (K:KT) (Y4 Y21:YT):Exit→YT:=kseq P (cA c122 30572176) (cA c122 30572177) none [6,7,0,2,1,8,10] [6,7,0,2,1,8,10] (f122_k38 K Y4 Y21)
def f122_s23 (a b:Bool) (c:Int) (d:OA) (f g:Nat) (h i j k:Int) (w:World) (K:KT) (Y4 Y21:YT):Prop:=SG P (cA c122 30572177) none [6,7,0,2,1,8,10] [6,7,0,2,1,8,10] (f122_k38 K Y4 Y21) (Env.mk 133 [(116,(VB a)),(6,(VB b)),(7,(VI c)),(0,(VS d f g)),(2,(VI h)),(1,(VI i)),(8,(VI j)),(10,(VI k))] []) w
def f122_s24 (a:Int) (b:Bool) (c:OA) (d f:Nat) (g h i:Int) (w:World) (K:KT) (Y4:YT):Prop:=SG P (cA c122 467) none [7,6,8,0,2,1] [6] (f122_kl4 K Y4) (Env.mk 133 [(7,(VI a)),(6,(VB b)),(0,(VS c d f)),(2,(VI g)),(1,(VI h)),(8,(VI i))] []) w
theorem f122_s24_eq (a:Int) (c:Bool) (d:OA) (e f:Nat) (g h i:Int) (w:World) (K:KT) (Y4:YT):f122_s24 a c d e f g h i w K Y4=(Y4 (Env.mk 133 [(7,(Value.int .i64 a)),(6,(Value.bool c)),(8,(Value.int .i64 (IntKind.wrap .i64 ((i:Int)+1)))),(0,(Value.slice d e f)),(2,(Value.int .i64 g)),(1,(Value.int .i64 h))] []) w):=Eq.trans SGe (by kernel_rfl)
def f122_s25 (a:Bool) (b:Int) (c:OA) (d f:Nat) (g h i j:Int) (w:World) (K:KT) (Y4 Y21:YT):Prop:=SG P (cA c122 15286089) none [6,7,0,2,1,8,10] [6,7,0,2,1,8,10] (f122_k37 K Y4 Y21) (Env.mk 133 [(6,(VB a)),(7,(VI b)),(0,(VS c d f)),(2,(VI g)),(1,(VI h)),(8,(VI i)),(10,(VI j))] []) w
def f122_s26 (a:Bool) (b:Int) (c:OA) (d f:Nat) (g h i j:Int) (w:World) (K:KT) (Y4 Y21:YT):Prop:=SG P (cA c122 3821523) none [6,7,0,2,1,8,10] [6,7,0,2,1,8] (f122_kl21 K Y4 Y21) (Env.mk 133 [(6,(VB a)),(7,(VI b)),(0,(VS c d f)),(2,(VI g)),(1,(VI h)),(8,(VI i)),(10,(VI j))] []) w
theorem f122_s26_eq (a:Bool) (c:Int) (d:OA) (e f:Nat) (g h i j:Int) (w:World) (K:KT) (Y4 Y21:YT):f122_s26 a c d e f g h i j w K Y4 Y21=(Y21 (Env.mk 133 [(6,(Value.bool a)),(7,(Value.int .i64 c)),(0,(Value.slice d e f)),(2,(Value.int .i64 g)),(1,(Value.int .i64 h)),(8,(Value.int .i64 i)),(10,(Value.int .i64 (IntKind.wrap .i64 ((j:Int)+1))))] []) w):=Eq.trans SGe (by kernel_rfl)
theorem f122_s25_eq (e:Bool) (f:Int) (c:OA) (d g:Nat) (h i j a:Int) (w:World) (K:KT) (Y4 Y21:YT):f122_s25 e f c d g h i j a w K Y4 Y21=(optS c (fun m=>0≤((IntKind.wrap .i64 ((a:Int) - 1)):Int)∧((IntKind.wrap .i64 ((a:Int) - 1)):Int) < (d:Nat)∧optS c (fun n=>0≤(a:Int)∧(a:Int) < (d:Nat)∧∃ k:Int,w.drew.cell? (m.add (Int.toNat (IntKind.wrap .i64 ((a:Int) - 1)) * 1))=some (.int .u32 k)∧∃ l:Int,w.drew.cell? (n.add (Int.toNat a * 1))=some (.int .u32 l)∧optS c (fun o=>0≤(a:Int)∧(a:Int) < (d:Nat)∧St1 (o.add (Int.toNat a * 1)) (Value.int .u32 k) w.drew (fun p=>optS c (fun q=>0≤((IntKind.wrap .i64 ((a:Int) - 1)):Int)∧((IntKind.wrap .i64 ((a:Int) - 1)):Int) < (d:Nat)∧St1 (q.add (Int.toNat (IntKind.wrap .i64 ((a:Int) - 1)) * 1)) (Value.int .u32 l) p (fun r=>f122_s26 e f c d g h i j a r K Y4 Y21))))))):=Eq.trans SGe (by kernel_rfl)
theorem f122_s23_eq (j a:Bool) (c:Int) (d:OA) (e f:Nat) (g h i k:Int) (w:World) (K:KT) (Y4 Y21:YT):f122_s23 j a c d e f g h i k w K Y4 Y21=(BIf j (f122_s24 c a d e f g h i w K Y4) (f122_s25 a c d e f g h i k w K Y4 Y21)):=Eq.trans SGe (by kernel_rfl)
theorem f122_s22_eq (f:Bool) (g:Int) (d:OA) (e h:Nat) (i j k c:Int) (w:World) (K:KT) (Y4 Y21:YT):f122_s22 f g d e h i j k c w K Y4 Y21=(optS d (fun o=>0≤(c:Int)∧(c:Int) < (e:Nat)∧optS d (fun p=>0≤((IntKind.wrap .i64 ((c:Int) - 1)):Int)∧((IntKind.wrap .i64 ((c:Int) - 1)):Int) < (e:Nat)∧∃ l:Int,w.drew.cell? (o.add (Int.toNat c * 1))=some (.int .u32 l)∧∃ m:Int,w.drew.cell? (p.add (Int.toNat (IntKind.wrap .i64 ((c:Int) - 1)) * 1))=some (.int .u32 m)∧CallL P 123 [(Value.int .u32 l),(Value.int .u32 m)] w.drew (fun q r=>∃ n:Bool,q=(.bool n)∧f122_s23 (!n) f g d e h i j k c r K Y4 Y21)))):=Eq.trans SGe (Eq.trans (CSs [6,7,0,2,1,8,10] (f122_k36 K Y4 Y21) (by kernel_rfl)) (Eq.trans (CSb 7 [6,7,0,2,1,8,10] (f122_k37 K Y4 Y21) (by kernel_rfl)) (Eq.trans (CSs [6,7,0,2,1,8,10] (f122_k38 K Y4 Y21) (by kernel_rfl)) (Eq.trans (CSs [116,6,7,0,2,1,8,10] (f122_k39 K Y4 Y21) (by kernel_rfl)) (by kernel_rfl)))))
theorem f122_lb21_eq (d:Bool) (e:Int) (f:OA) (g h:Nat) (c i j k:Int) (w:World) (K:KT) (Y4 Y21:YT):f122_lb21 d e f g h c i j k w K Y4 Y21=(BIf (decide ((k:Int) < c)) (f122_s22 d e f g h c i j k w K Y4 Y21) (f122_s24 e d f g h c i j w K Y4)):=Eq.trans SGe (Eq.trans (CSs [6,7,0,2,1,8,10] (f122_k34 K Y4 Y21) (by kernel_rfl)) (Eq.trans (CSs [103,6,7,0,2,1,8,10] (f122_k35 K Y4 Y21) (by kernel_rfl)) (by kernel_rfl)))
theorem f122_s20_eq (a k l:Int) (m:Bool) (n o p:Int) (c:Bool) (d:Int) (e:OA) (f g:Nat) (h i j:Int) (w:World) (K:KT) (Y4:YT):f122_s20 a k l m n o p c d e f g h i j w K Y4=(LoopE (f122_lp21 K Y4) (Env.mk 133 [(6,(Value.bool c)),(7,(Value.int .i64 d)),(0,(Value.slice e f g)),(2,(Value.int .i64 h)),(1,(Value.int .i64 i)),(8,(Value.int .i64 j)),(10,(Value.int .i64 a))] []) w):=Eq.trans (b:=CS P (cA c122 238845) none [7,6,0,2,1,8] [6,7,0,2,1,8] (f122_k8 K Y4) (Env.mk 133 [(10,(VI a)),(100,(VI k)),(99,(VI l)),(98,(VB true)),(98,(VB m)),(97,(VI n)),(96,(VI o)),(95,(VI p)),(6,(VB c)),(7,(VI d)),(0,(VS e f g)),(2,(VI h)),(1,(VI i)),(8,(VI j))] []) w) (by kernel_rfl) (Eq.trans (CSb 6 [6,7,0,2,1,8] (f122_k33 K Y4) (by kernel_rfl)) ((CS_loop' (b:=(cA c122 955380)) (X':=[6,7,0,2,1,8]) (H:=[6,7,0,2,1,8,10]) (by kernel_rfl) (by kernel_rfl) (by kernel_rfl)).trans (by kernel_rfl)))
theorem f122_s19_eq (d:Bool) (e f g:Int) (h:Bool) (c:Int) (i:OA) (j k:Nat) (l m n:Int) (w:World) (K:KT) (Y4:YT):f122_s19 d e f g h c i j k l m n w K Y4=(f122_s20 (IntKind.wrap .i64 ((c:Int)+1)) (IntKind.wrap .i64 ((c:Int)+1)) c d e f g h c i j k l m n w K Y4):=Eq.trans (b:=CS P (cA c122 119422) none [7,6,0,2,1,8] [6,7,0,2,1,8] (f122_k8 K Y4) (Env.mk 133 [(98,(VB true)),(98,(VB d)),(97,(VI e)),(96,(VI f)),(95,(VI g)),(6,(VB h)),(7,(VI c)),(0,(VS i j k)),(2,(VI l)),(1,(VI m)),(8,(VI n))] []) w) (by kernel_rfl) (Eq.trans (CSs [6,7,0,2,1,8,10] (f122_k32 K Y4) (by kernel_rfl)) (by kernel_rfl))
theorem f122_s18_eq (e:Bool) (c:Int) (f:OA) (g h:Nat) (d i j:Int) (w:World) (K:KT) (Y4:YT):f122_s18 e c f g h d i j w K Y4=(BIf (decide (((IntKind.wrap .i64 ((d:Int) - c)):Int)≥2)) (f122_s19 (decide (((IntKind.wrap .i64 ((d:Int) - c)):Int)≥2)) (IntKind.wrap .i64 ((d:Int) - c)) c d e c f g h d i j w K Y4) (f122_s24 c e f g h d i j w K Y4)):=Eq.trans SGe (Eq.trans (CSs [98,6,7,0,2,1,8] (f122_k31 K Y4) (by kernel_rfl)) (by kernel_rfl))
def f122_s27 (a:Bool) (b:Int) (c:OA) (d f:Nat) (g h i j:Int) (w:World) (K:KT) (Y4 Y15:YT):Prop:=SG P (cA c122 15285577) none [6,7,0,2,1,8,9] [6,7,0,2,1,8,9] (f122_k28 K Y4 Y15) (Env.mk 133 [(6,(VB a)),(7,(VI b)),(0,(VS c d f)),(2,(VI g)),(1,(VI h)),(8,(VI i)),(9,(VI j))] []) w
def f122_s28 (a:Bool) (b:Int) (c:OA) (d f:Nat) (g h i j:Int) (w:World) (K:KT) (Y4 Y15:YT):Prop:=SG P (cA c122 3821395) none [6,7,0,2,1,8,9] [6,7,0,2,1,8] (f122_kl15 K Y4 Y15) (Env.mk 133 [(6,(VB a)),(7,(VI b)),(0,(VS c d f)),(2,(VI g)),(1,(VI h)),(8,(VI i)),(9,(VI j))] []) w
theorem f122_s28_eq (a:Bool) (c:Int) (d:OA) (e f:Nat) (g h i j:Int) (w:World) (K:KT) (Y4 Y15:YT):f122_s28 a c d e f g h i j w K Y4 Y15=(Y15 (Env.mk 133 [(6,(Value.bool a)),(7,(Value.int .i64 c)),(0,(Value.slice d e f)),(2,(Value.int .i64 g)),(1,(Value.int .i64 h)),(8,(Value.int .i64 i)),(9,(Value.int .i64 (IntKind.wrap .i64 ((j:Int) - 1))))] []) w):=Eq.trans SGe (by kernel_rfl)
theorem f122_s27_eq (e:Bool) (f:Int) (c:OA) (d g:Nat) (h i j a:Int) (w:World) (K:KT) (Y4 Y15:YT):f122_s27 e f c d g h i j a w K Y4 Y15=(optS c (fun m=>0≤((IntKind.wrap .i64 ((a:Int) - 1)):Int)∧((IntKind.wrap .i64 ((a:Int) - 1)):Int) < (d:Nat)∧optS c (fun n=>0≤(a:Int)∧(a:Int) < (d:Nat)∧∃ k:Int,w.drew.cell? (m.add (Int.toNat (IntKind.wrap .i64 ((a:Int) - 1)) * 1))=some (.int .u32 k)∧∃ l:Int,w.drew.cell? (n.add (Int.toNat a * 1))=some (.int .u32 l)∧optS c (fun o=>0≤(a:Int)∧(a:Int) < (d:Nat)∧St1 (o.add (Int.toNat a * 1)) (Value.int .u32 k) w.drew (fun p=>optS c (fun q=>0≤((IntKind.wrap .i64 ((a:Int) - 1)):Int)∧((IntKind.wrap .i64 ((a:Int) - 1)):Int) < (d:Nat)∧St1 (q.add (Int.toNat (IntKind.wrap .i64 ((a:Int) - 1)) * 1)) (Value.int .u32 l) p (fun r=>f122_s28 e f c d g h i j a r K Y4 Y15))))))):=Eq.trans SGe (by kernel_rfl)
theorem f122_s17_eq (j a:Bool) (c:Int) (d:OA) (e f:Nat) (g h i k:Int) (w:World) (K:KT) (Y4 Y15:YT):f122_s17 j a c d e f g h i k w K Y4 Y15=(BIf j (f122_s18 a c d e f g h i w K Y4) (f122_s27 a c d e f g h i k w K Y4 Y15)):=Eq.trans SGe (by kernel_rfl)
theorem f122_s16_eq (f:Bool) (g:Int) (d:OA) (e h:Nat) (i j k c:Int) (w:World) (K:KT) (Y4 Y15:YT):f122_s16 f g d e h i j k c w K Y4 Y15=(optS d (fun o=>0≤(c:Int)∧(c:Int) < (e:Nat)∧optS d (fun p=>0≤((IntKind.wrap .i64 ((c:Int) - 1)):Int)∧((IntKind.wrap .i64 ((c:Int) - 1)):Int) < (e:Nat)∧∃ l:Int,w.drew.cell? (o.add (Int.toNat c * 1))=some (.int .u32 l)∧∃ m:Int,w.drew.cell? (p.add (Int.toNat (IntKind.wrap .i64 ((c:Int) - 1)) * 1))=some (.int .u32 m)∧CallL P 123 [(Value.int .u32 l),(Value.int .u32 m)] w.drew (fun q r=>∃ n:Bool,q=(.bool n)∧f122_s17 (!n) f g d e h i j k c r K Y4 Y15)))):=Eq.trans SGe (Eq.trans (CSs [6,7,0,2,1,8,9] (f122_k27 K Y4 Y15) (by kernel_rfl)) (Eq.trans (CSb 5 [6,7,0,2,1,8,9] (f122_k28 K Y4 Y15) (by kernel_rfl)) (Eq.trans (CSs [6,7,0,2,1,8,9] (f122_k29 K Y4 Y15) (by kernel_rfl)) (Eq.trans (CSs [78,6,7,0,2,1,8,9] (f122_k30 K Y4 Y15) (by kernel_rfl)) (by kernel_rfl)))))
theorem f122_lb15_eq (c:Bool) (d:Int) (e:OA) (f g:Nat) (h i j k:Int) (w:World) (K:KT) (Y4 Y15:YT):f122_lb15 c d e f g h i j k w K Y4 Y15=(BIf (decide ((k:Int)≥1)) (f122_s16 c d e f g h i j k w K Y4 Y15) (f122_s18 c d e f g h i j w K Y4)):=Eq.trans SGe (Eq.trans (CSs [6,7,0,2,1,8,9] (f122_k25 K Y4 Y15) (by kernel_rfl)) (Eq.trans (CSs [65,6,7,0,2,1,8,9] (f122_k26 K Y4 Y15) (by kernel_rfl)) (by kernel_rfl)))
theorem f122_s14_eq (a k l:Int) (m:Bool) (n o p:Int) (c:Bool) (d:Int) (e:OA) (f g:Nat) (h i j:Int) (w:World) (K:KT) (Y4:YT):f122_s14 a k l m n o p c d e f g h i j w K Y4=(LoopE (f122_lp15 K Y4) (Env.mk 133 [(6,(Value.bool c)),(7,(Value.int .i64 d)),(0,(Value.slice e f g)),(2,(Value.int .i64 h)),(1,(Value.int .i64 i)),(8,(Value.int .i64 j)),(9,(Value.int .i64 a))] []) w):=Eq.trans (b:=CS P (cA c122 238837) none [6,7,0,2,1,8] [6,7,0,2,1,8] (f122_k21 K Y4) (Env.mk 133 [(9,(VI a)),(63,(VI k)),(62,(VI l)),(61,(VB true)),(61,(VB m)),(60,(VI n)),(59,(VI o)),(58,(VI p)),(6,(VB c)),(7,(VI d)),(0,(VS e f g)),(2,(VI h)),(1,(VI i)),(8,(VI j))] []) w) (by kernel_rfl) (Eq.trans (CSb 4 [6,7,0,2,1,8] (f122_k24 K Y4) (by kernel_rfl)) ((CS_loop' (b:=(cA c122 955348)) (X':=[6,7,0,2,1,8]) (H:=[6,7,0,2,1,8,9]) (by kernel_rfl) (by kernel_rfl) (by kernel_rfl)).trans (by kernel_rfl)))
theorem f122_s13_eq (d:Bool) (e f g:Int) (h:Bool) (c:Int) (i:OA) (j k:Nat) (l m n:Int) (w:World) (K:KT) (Y4:YT):f122_s13 d e f g h c i j k l m n w K Y4=(f122_s14 (IntKind.wrap .i64 ((c:Int) - 1)) (IntKind.wrap .i64 ((c:Int) - 1)) c d e f g h c i j k l m n w K Y4):=Eq.trans (b:=CS P (cA c122 119418) none [6,7,0,2,1,8] [6,7,0,2,1,8] (f122_k21 K Y4) (Env.mk 133 [(61,(VB true)),(61,(VB d)),(60,(VI e)),(59,(VI f)),(58,(VI g)),(6,(VB h)),(7,(VI c)),(0,(VS i j k)),(2,(VI l)),(1,(VI m)),(8,(VI n))] []) w) (by kernel_rfl) (Eq.trans (CSs [6,7,0,2,1,8,9] (f122_k23 K Y4) (by kernel_rfl)) (by kernel_rfl))
theorem f122_s12_eq (e:Bool) (c:Int) (f:OA) (g h:Nat) (i d j:Int) (w:World) (K:KT) (Y4:YT):f122_s12 e c f g h i d j w K Y4=(BIf (decide (((IntKind.wrap .i64 ((c:Int) - d)):Int)≥2)) (f122_s13 (decide (((IntKind.wrap .i64 ((c:Int) - d)):Int)≥2)) (IntKind.wrap .i64 ((c:Int) - d)) d c e c f g h i d j w K Y4) (f122_s18 e c f g h i d j w K Y4)):=Eq.trans SGe (Eq.trans (CSs [6,7,0,2,1,8] (f122_k21 K Y4) (by kernel_rfl)) (Eq.trans (CSs [61,6,7,0,2,1,8] (f122_k22 K Y4) (by kernel_rfl)) (by kernel_rfl)))
theorem f122_s11_eq (f:Bool) (c:Int) (d:OA) (e g:Nat) (h i j:Int) (w:World) (K:KT) (Y4:YT):f122_s11 f c d e g h i j w K Y4=(optS d (fun m=>0≤((IntKind.wrap .i64 ((c:Int) - 1)):Int)∧((IntKind.wrap .i64 ((c:Int) - 1)):Int) < (e:Nat)∧optS d (fun n=>0≤(c:Int)∧(c:Int) < (e:Nat)∧∃ k:Int,w.drew.cell? (m.add (Int.toNat (IntKind.wrap .i64 ((c:Int) - 1)) * 1))=some (.int .u32 k)∧∃ l:Int,w.drew.cell? (n.add (Int.toNat c * 1))=some (.int .u32 l)∧optS d (fun o=>0≤(c:Int)∧(c:Int) < (e:Nat)∧St1 (o.add (Int.toNat c * 1)) (Value.int .u32 k) w.drew (fun p=>optS d (fun q=>0≤((IntKind.wrap .i64 ((c:Int) - 1)):Int)∧((IntKind.wrap .i64 ((c:Int) - 1)):Int) < (e:Nat)∧St1 (q.add (Int.toNat (IntKind.wrap .i64 ((c:Int) - 1)) * 1)) (Value.int .u32 l) p (fun r=>f122_s12 f c d e g h i j r K Y4))))))):=Eq.trans SGe (Eq.trans (CSs [6,7,0,2,1,8] (f122_k20 K Y4) (by kernel_rfl)) (by kernel_rfl))
theorem f122_s10_eq (e:Int) (f:OA) (g h:Nat) (c d i:Int) (j:Bool) (w:World) (K:KT) (Y4:YT):f122_s10 e f g h c d i j w K Y4=(BIf (decide (((IntKind.wrap .i64 ((c:Int) - d)):Int) < 50)) (K (Value.bool false) w) (f122_s11 j e f g h c d i w K Y4)):=Eq.trans SGe (Eq.trans (CSs [6,7,0,2,1,8] (f122_k17 K Y4) (by kernel_rfl)) (Eq.trans (CSs [41,7,0,2,1,8,6] (f122_k18 K Y4) (by kernel_rfl)) (by kernel_rfl)))
theorem f122_s9_eq (c:Int) (e:OA) (f g:Nat) (d h i:Int) (j:Bool) (w:World) (K:KT) (Y4:YT):f122_s9 c e f g d h i j w K Y4=(BIf ((c:Int) == d) (K (Value.bool true) w) (f122_s10 c e f g d h i j w K Y4)):=Eq.trans SGe (Eq.trans (CSs [7,0,2,1,8,6] (f122_k14 K Y4) (by kernel_rfl)) (Eq.trans (CSs [37,7,0,2,1,8,6] (f122_k15 K Y4) (by kernel_rfl)) (by kernel_rfl)))
theorem f122_s7_eq (j a:Bool) (c:OA) (d e:Nat) (f g h i:Int) (w:World) (K:KT) (Y4 Y6:YT):f122_s7 j a c d e f g h i w K Y4 Y6=(BIf j (f122_s8 a c d e f g h i w K Y4 Y6) (f122_s9 i c d e f g h a w K Y4)):=Eq.trans SGe (by kernel_rfl)
theorem f122_lb6_eq (c:Int) (g:Bool) (d:OA) (e h:Nat) (f i j:Int) (w:World) (K:KT) (Y4 Y6:YT):f122_lb6 c g d e h f i j w K Y4 Y6=(BIf (decide ((c:Int) < f)) (optS d (fun n=>0≤(c:Int)∧(c:Int) < (e:Nat)∧optS d (fun o=>0≤((IntKind.wrap .i64 ((c:Int) - 1)):Int)∧((IntKind.wrap .i64 ((c:Int) - 1)):Int) < (e:Nat)∧∃ k:Int,w.drew.cell? (n.add (Int.toNat c * 1))=some (.int .u32 k)∧∃ l:Int,w.drew.cell? (o.add (Int.toNat (IntKind.wrap .i64 ((c:Int) - 1)) * 1))=some (.int .u32 l)∧CallL P 123 [(Value.int .u32 k),(Value.int .u32 l)] w.drew (fun p q=>∃ m:Bool,p=(.bool m)∧f122_s7 (!m) g d e h f i j c q K Y4 Y6)))) (f122_s7 false g d e h f i j c w.drew K Y4 Y6)):=Eq.trans SGe (Eq.trans (CSs [6,0,2,1,8,7] (f122_k11 K Y4 Y6) (by kernel_rfl)) (Eq.trans (CSs [32,6,0,2,1,8,7] (f122_k12 K Y4 Y6) (by kernel_rfl)) (by kernel_rfl)))
theorem f122_s5_eq (c:Int) (d:Bool) (e:OA) (f g:Nat) (h i j:Int) (w:World) (K:KT) (Y4:YT):f122_s5 c d e f g h i j w K Y4=(LoopE (f122_lp6 K Y4) (Env.mk 133 [(7,(Value.int .i64 c)),(6,(Value.bool d)),(0,(Value.slice e f g)),(2,(Value.int .i64 h)),(1,(Value.int .i64 i)),(8,(Value.int .i64 j))] []) w):=Eq.trans SGe (Eq.trans (CSs [7,6,0,2,1,8] (f122_k7 K Y4) (by kernel_rfl)) (Eq.trans (CSb 1 [6,7,0,2,1,8] (f122_k8 K Y4) (by kernel_rfl)) (Eq.trans (CSs [7,0,2,1,8,6] (f122_k9 K Y4) (by kernel_rfl)) (Eq.trans (CSb 2 [6,7,0,2,1,8] (f122_k10 K Y4) (by kernel_rfl)) ((CS_loop' (b:=(cA c122 7456)) (X':=[6,7,0,2,1,8]) (H:=[7,6,0,2,1,8]) (by kernel_rfl) (by kernel_rfl) (by kernel_rfl)).trans (by kernel_rfl))))))
def f122_s29 (w:World) (K:KT):Prop:=SG P (cA c122 15) none [6] [6] (f122_kb K) (Env.mk 133 [] []) w
abbrev f122_k40 (K:KT):Exit→YT:=kseq P (cA c122 30) (cA c122 31) none [6] [6] (f122_kb K)
theorem f122_s29_eq (w:World) (K:KT):f122_s29 w K=(K (Value.bool false) w):=Eq.trans SGe (Eq.trans (CSs [6] (f122_k40 K) (by kernel_rfl)) (by kernel_rfl))
theorem f122_lb4_eq (d:Int) (e:Bool) (c:Int) (f:OA) (g h:Nat) (i j:Int) (w:World) (K:KT) (Y4:YT):f122_lb4 d e c f g h i j w K Y4=(BIf (decide ((c:Int) < 5)) (f122_s5 d e f g h i j c w K Y4) (f122_s29 w K)):=Eq.trans SGe (Eq.trans (CSs [7,6,0,2,1,8] (f122_k5 K Y4) (by kernel_rfl)) (Eq.trans (CSs [14,7,6,0,2,1,8] (f122_k6 K Y4) (by kernel_rfl)) (by kernel_rfl)))
theorem f122_s3_eq (a c i j:Int) (d:OA) (e f:Nat) (g h:Int) (w:World) (K:KT):f122_s3 a c i j d e f g h w K=(LoopE (f122_lp4 K) (Env.mk 133 [(7,(Value.int .i64 c)),(6,(Value.bool false)),(8,(Value.int .i64 a)),(0,(Value.slice d e f)),(2,(Value.int .i64 h)),(1,(Value.int .i64 g))] []) w):=Eq.trans (b:=CS P (cA c122 29) none [] [6] (f122_k2 K) (Env.mk 133 [(8,(VI a)),(7,(VI c)),(12,(VI i)),(11,(VI j)),(6,(VB false)),(0,(VS d e f)),(1,(VI g)),(2,(VI h))] []) w) (by kernel_rfl) (Eq.trans (CSb 0 [6] (f122_k4 K) (by kernel_rfl)) ((CS_loop' (b:=(cA c122 116)) (X':=[6]) (H:=[7,6,8,0,2,1]) (by kernel_rfl) (by kernel_rfl) (by kernel_rfl)).trans (by kernel_rfl)))
theorem f122_s2_eq (c d e:Int) (f:OA) (g h:Nat) (i j:Int) (w:World) (K:KT):f122_s2 c d e f g h i j w K=(f122_s3 0 c d e f g h i j w K):=Eq.trans (b:=CS P (cA c122 7) none [6] [6] (f122_kb K) (Env.mk 133 [(7,(VI c)),(12,(VI d)),(11,(VI e)),(6,(VB false)),(0,(VS f g h)),(1,(VI i)),(2,(VI j))] []) w) (by kernel_rfl) (Eq.trans (CSs [] (f122_k2 K) (by kernel_rfl)) (Eq.trans (CSs [7,6,8,0,2,1] (f122_k3 K) (by kernel_rfl)) (by kernel_rfl)))
theorem f122_s1_eq (d:OA) (e f:Nat) (c g:Int) (w:World) (K:KT):f122_s1 d e f c g w K=(f122_s2 (IntKind.wrap .i64 ((c:Int)+1)) (IntKind.wrap .i64 ((c:Int)+1)) c d e f c g w K):=Eq.trans (b:=CS P (cA c122 3) none [6] [6] (f122_kb K) (Env.mk 133 [(6,(VB false)),(0,(VS d e f)),(1,(VI c)),(2,(VI g))] []) w) (by kernel_rfl) (Eq.trans (CSs [7,6,0,2,1] (f122_k1 K) (by kernel_rfl)) (by kernel_rfl))
theorem f122_s0_eq (c:OA) (d e:Nat) (f g:Int) (w:World) (K:KT):f122_s0 c d e f g w K=(f122_s1 c d e f g w K):=Eq.trans (b:=CS P (cA c122 1) none [6] [6] (f122_kb K) (Env.mk 133 [(0,(VS c d e)),(1,(VI f)),(2,(VI g))] []) w) (by kernel_rfl) (Eq.trans (CSs [6,0,2,1] (f122_k0 K) (by kernel_rfl)) (by kernel_rfl))
theorem f122_eq (a:OA) (b c:Nat) (d e:Int) (w:World) (K:KT):f122 a b c d e w K=(f122_s0 a b c d e w K):=by kernel_rfl
theorem f122_ok (a:OA) (b c:Nat) (d e:Int) (w:World) (K:KT) (h:f122 a b c d e w K):CallL P 122 [(Value.slice a b c),(Value.int .i64 d),(Value.int .i64 e)] w K:=okCS c122 Tryz.func122 (by kernel_rfl) (by kernel_rfl) h
end Go.Fx.Tryz
namespace Go.Fx.Tryz
open Go Go.Fx Go.Fx.Mo
open Go.Proofs
open Go.Sort (swp swp_size ltInt scanSorted shiftDown shiftUp partialIns partialInsertionSort)
variable {w0 w:World} {H X:HL} {K:KT}
set_option maxRecDepth 20000
section
variable {g c:Nat} {T:TypeId} {z:List Value} {Y4:YT}
theorem shiftDown_size:∀ (j:Nat) (d:Array Int),(shiftDown ltInt j d).size=d.size
 | 0,d=>rfl
 | j+1,d=>by
  unfold shiftDown
  split
  ·rfl
  ·rw [shiftDown_size j,swp_size]
theorem shiftUp_size (b:Nat):∀ (m j:Nat) (d:Array Int),b - j=m→(shiftUp ltInt b j d).size=d.size
 | 0,j,d,h=>by rw [shiftUp,if_neg (by omega)]
 | m+1,j,d,h=>by
  rw [shiftUp,if_pos (by omega)]
  split
  ·rfl
  ·rw [shiftUp_size b m (j+1) _ (by omega),swp_size]
def PuInv (w0:World) (H:HL) (g c:Nat) (T:TypeId) (z:List Value) (n a b i s:Nat) (D:Array Int) (m:Nat) (ee:Env) (w:World):Prop:=
 ∃ (k:Nat) (d:Array Int),i < k∧k≤b∧m=b - k∧d.size=n∧shiftUp ltInt b k d=D∧ee=Env.mk 133 [(6,(Value.bool false)),(7,(Value.int .i64 i)),(0,(Value.slice (some (Addr.mk g 0 none)) n c)),(2,(Value.int .i64 b)),(1,(Value.int .i64 a)),(8,(Value.int .i64 s)),(10,(Value.int .i64 k))] []∧St w0 w ((g,Cs (uCs d z) T)::H)
theorem pi_s18 {d:Array Int} {n a b i s:Nat} (h:St w0 w ((g,Cs (uCs d z) T)::H)) (hd:d.size=n) (hi:i < b) (hb:b≤n) (hn:n < 1000000000000)
  (hK:∀ w',St w0 w' ((g,Cs (uCs (if b - i≥2 then shiftUp ltInt b (i+1) d else d) z) T)::H)→f122_s24 i false (some (Addr.mk g 0 none)) n c b a s w' K Y4) :
  f122_s18 false i (some (Addr.mk g 0 none)) n c b a s w K Y4:=by
 have e1:IntKind.wrap .i64 ((b:Int) - (i:Int))=((b - i:Nat):Int):=by rw [wrap_i64 (by omega) (by omega)]; omega
 have e2:IntKind.wrap .i64 ((i:Int)+1)=((i+1:Nat):Int):=by rw [wrap_i64 (by omega) (by omega)]; omega
 rw [f122_s18_eq,e1,BIf_iff]
 refine ⟨fun h2=>?_,fun h2=>?_⟩
 ·have h2:b - i≥2:=by simp at h2; omega
  rw [if_pos h2] at hK
  rw [f122_s19_eq,e2,f122_s20_eq]
  refine ⟨PuInv w0 H g c T z n a b i s (shiftUp ltInt b (i+1) d),⟨b - (i+1),i+1,d,by omega,by omega,rfl,hd,rfl,rfl,h⟩,?_⟩
  generalize shiftUp ltInt b (i+1) d=D at hK
  clear h hd
  rintro m ee w1 ⟨k,d,hik,hkb,rfl,hd,hD,rfl,h1⟩
  show f122_lb21 ..
  subst hd
  rw [shiftUp] at hD
  rw [f122_lb21_eq,BIf_iff]
  constructor
  ·intro hlt
   have hlt:k < b:=by simpa using hlt
   rw [if_pos hlt] at hD
   have ek:IntKind.wrap .i64 ((k:Int) - 1)=((k - 1:Nat):Int):=by rw [wrap_i64 (by omega) (by omega)]; omega
   rw [f122_s22_eq]
   refine less_at (i:=k) (j:=k - 1) rfl ek (by omega) (by omega) h1 (.head _) fun w2 h2=>⟨_,rfl,?_⟩
   rw [f122_s23_eq,BIf_iff]
   refine ⟨fun hb'=>?_,fun hb'=>?_⟩
   ·rw [if_pos hb'] at hD
    subst hD
    exact hK w2 h2
   ·rw [if_neg (by simp [hb'])] at hD
    rw [f122_s25_eq]
    refine swap_at (i:=k) (j:=k - 1) rfl ek (by omega) (by omega) h2 fun w3 h3=>?_
    rw [f122_s26_eq]
    refine ⟨b - (k+1),by omega,k+1,_,by omega,by omega,rfl,swp_size _ _ _,hD,?_,h3⟩
    rw [wrap_i64 (by omega) (by omega)]; rfl
  ·intro hge
   have hge:¬ k < b:=by simpa using hge
   rw [if_neg hge] at hD
   subst hD
   exact hK w1 h1
 ·have h2:¬ b - i≥2:=by simp at h2; omega
  rw [if_neg h2] at hK
  exact hK w h
def PdInv (w0:World) (H:HL) (g c:Nat) (T:TypeId) (z:List Value) (n a b i s:Nat) (D:Array Int) (m:Nat) (ee:Env) (w:World):Prop:=
 ∃ (k:Nat) (d:Array Int),k < i∧m=k∧d.size=n∧shiftDown ltInt k d=D∧ee=Env.mk 133 [(6,(Value.bool false)),(7,(Value.int .i64 i)),(0,(Value.slice (some (Addr.mk g 0 none)) n c)),(2,(Value.int .i64 b)),(1,(Value.int .i64 a)),(8,(Value.int .i64 s)),(9,(Value.int .i64 k))] []∧St w0 w ((g,Cs (uCs d z) T)::H)
theorem pi_s12 {d:Array Int} {n a b i s:Nat} (h:St w0 w ((g,Cs (uCs d z) T)::H)) (hd:d.size=n) (hai:a < i) (hi:i < b) (hb:b≤n) (hn:n < 1000000000000)
  (hK:∀ w',St w0 w' ((g,Cs (uCs (if i - a≥2 then shiftDown ltInt (i - 1) d else d) z) T)::H)→f122_s18 false i (some (Addr.mk g 0 none)) n c b a s w' K Y4) :
  f122_s12 false i (some (Addr.mk g 0 none)) n c b a s w K Y4:=by
 have e1:IntKind.wrap .i64 ((i:Int) - (a:Int))=((i - a:Nat):Int):=by rw [wrap_i64 (by omega) (by omega)]; omega
 have e2:IntKind.wrap .i64 ((i:Int) - 1)=((i - 1:Nat):Int):=by rw [wrap_i64 (by omega) (by omega)]; omega
 rw [f122_s12_eq,e1,BIf_iff]
 refine ⟨fun h2=>?_,fun h2=>?_⟩
 ·have h2:i - a≥2:=by simp at h2; omega
  rw [if_pos h2] at hK
  rw [f122_s13_eq,e2,f122_s14_eq]
  refine ⟨PdInv w0 H g c T z n a b i s (shiftDown ltInt (i - 1) d),⟨i - 1,i - 1,d,by omega,rfl,hd,rfl,rfl,h⟩,?_⟩
  generalize shiftDown ltInt (i - 1) d=D at hK
  clear h hd
  rintro k ee w1 ⟨_,d,hki,rfl,hd,hD,rfl,h1⟩
  show f122_lb15 ..
  subst hd
  rw [f122_lb15_eq,BIf_iff]
  constructor
  ·intro hge
   obtain ⟨q,rfl⟩:∃ q,k=q+1:=⟨k - 1,by simp at hge; omega⟩
   have ek:IntKind.wrap .i64 (((q+1:Nat):Int) - 1)=(q:Int):=by rw [wrap_i64 (by omega) (by omega)]; omega
   unfold shiftDown at hD
   rw [f122_s16_eq]
   refine less_at (i:=q+1) (j:=q) rfl ek (by omega) (by omega) h1 (.head _) fun w2 h2=>⟨_,rfl,?_⟩
   rw [f122_s17_eq,BIf_iff]
   refine ⟨fun hb'=>?_,fun hb'=>?_⟩
   ·rw [if_pos hb'] at hD
    subst hD
    exact hK w2 h2
   ·rw [if_neg (by simp [hb'])] at hD
    rw [f122_s27_eq]
    refine swap_at (i:=q+1) (j:=q) rfl ek (by omega) (by omega) h2 fun w3 h3=>?_
    rw [f122_s28_eq,ek]
    exact ⟨q,by omega,q,_,by omega,rfl,swp_size _ _ _,hD,rfl,h3⟩
  ·intro hlt
   have:k=0:=by simp at hlt; omega
   subst this
   have hD:d=D:=hD
   subst hD
   exact hK w1 h1
 ·have h2:¬ i - a≥2:=by simp at h2; omega
  rw [if_neg h2] at hK
  exact hK w h
def PsInv (w0:World) (X:HL) (g c:Nat) (d:Array Int) (a b s I:Nat) (m:Nat) (ee:Env) (w:World):Prop:=
 ∃ i:Nat,a < i∧i≤b∧m=b - i∧scanSorted ltInt d b i=I∧ee=Env.mk 133 [(7,(Value.int .i64 i)),(6,(Value.bool false)),(0,(Value.slice (some (Addr.mk g 0 none)) d.size c)),(2,(Value.int .i64 b)),(1,(Value.int .i64 a)),(8,(Value.int .i64 s))] []∧St w0 w X
def PiInv (w0:World) (H:HL) (g c:Nat) (T:TypeId) (z:List Value) (n a b:Nat) (R:Array Int × Bool) (m:Nat) (ee:Env) (w:World):Prop:=
 ∃ (i:Nat) (d:Array Int),a < i∧i≤b∧m≤5∧d.size=n∧partialIns ltInt a b m i d=R∧ee=Env.mk 133 [(7,(Value.int .i64 i)),(6,(Value.bool false)),(8,(Value.int .i64 ((5 - m:Nat):Int))),(0,(Value.slice (some (Addr.mk g 0 none)) n c)),(2,(Value.int .i64 b)),(1,(Value.int .i64 a))] []∧St w0 w ((g,Cs (uCs d z) T)::H)
theorem partial_ok {d:Array Int} {a b:Nat} (h:St w0 w ((g,Cs (uCs d z) T)::H)) (hab:a < b) (hb:b≤d.size) (hn:d.size < 1000000000000)
  (hK:∀ w',St w0 w' ((g,Cs (uCs (partialInsertionSort ltInt d a b).1 z) T)::H)→K (.bool (partialInsertionSort ltInt d a b).2) w') :
  CallL P 122 [.slice (some (Addr.mk g 0 none)) d.size c,.int .i64 a,.int .i64 b] w K:=by
 refine f122_ok _ _ _ _ _ _ _ ?_
 have ei:IntKind.wrap .i64 ((a:Int)+1)=((a+1:Nat):Int):=by rw [wrap_i64 (by omega) (by omega)]; omega
 rw [f122_eq,f122_s0_eq,f122_s1_eq,ei,f122_s2_eq,f122_s3_eq]
 unfold partialInsertionSort at hK
 refine ⟨PiInv w0 H g c T z d.size a b (partialIns ltInt a b 5 (a+1) d),⟨5,a+1,d,by omega,by omega,by omega,rfl,rfl,rfl,h⟩,?_⟩
 generalize hnn:d.size=n at hb hn
 generalize partialIns ltInt a b 5 (a+1) d=R at hK
 clear h hnn d
 rintro m ee w1 ⟨i,d,hai,hib,hm5,hd,hR,rfl,h1⟩
 show f122_lb4 ..
 subst hd
 rw [f122_lb4_eq,BIf_iff]
 constructor
 ·intro hlt
  obtain ⟨m,rfl⟩:∃ q,m=q+1:=⟨m - 1,by simp at hlt; omega⟩
  rw [f122_s5_eq]
  unfold partialIns at hR
  simp only at hR
  refine ⟨PsInv w0 ((g,Cs (uCs d z) T)::H) g c d a b (5 - (m+1)) (scanSorted ltInt d b i),⟨b - i,i,hai,hib,rfl,rfl,rfl,h1⟩,?_⟩
  generalize scanSorted ltInt d b i=I at hR
  clear h1
  rintro q ee w2 ⟨i2,hai2,hib2,rfl,hI,rfl,h2⟩
  show f122_lb6 ..
  rw [scanSorted] at hI
  rw [f122_lb6_eq,BIf_iff]
  have after:∀ w3,i2=I→St w0 w3 ((g,Cs (uCs d z) T)::H)→f122_s9 i2 (some (Addr.mk g 0 none)) d.size c b a ((5 - (m+1):Nat):Int) false w3 K (fun e' w'=>∃ m',m' < m+1∧PiInv w0 H g c T z d.size a b R m' e' w'):=by
   intro w3 hi h3
   subst hi
   rw [f122_s9_eq,BIf_iff]
   refine ⟨fun he=>?_,fun he=>?_⟩
   ·have he:i2=b:=by simp at he; omega
    rw [if_pos he] at hR
    subst hR
    exact hK w3 h3
   ·have he:i2≠b:=by simp at he; omega
    rw [if_neg he] at hR
    have e1:IntKind.wrap .i64 ((b:Int) - (a:Int))=((b - a:Nat):Int):=by rw [wrap_i64 (by omega) (by omega)]; omega
    rw [f122_s10_eq,e1,BIf_iff]
    refine ⟨fun h50=>?_,fun h50=>?_⟩
    ·have h50:b - a < 50:=by simp at h50; omega
     rw [if_pos h50] at hR
     subst hR
     exact hK w3 h3
    ·have h50:¬ b - a < 50:=by simp at h50; omega
     rw [if_neg h50] at hR
     have e2:IntKind.wrap .i64 ((i2:Int) - 1)=((i2 - 1:Nat):Int):=by rw [wrap_i64 (by omega) (by omega)]; omega
     rw [f122_s11_eq]
     refine swap_at (i:=i2) (j:=i2 - 1) rfl e2 (by omega) (by omega) h3 fun w4 h4=>?_
     refine pi_s12 h4 (swp_size _ _ _) hai2 (by omega) hb hn fun w5 h5=>?_
     have hsz:(if i2 - a≥2 then shiftDown ltInt (i2 - 1) (swp d i2 (i2 - 1)) else swp d i2 (i2 - 1)).size=d.size:=by
      split
      ·rw [shiftDown_size,swp_size]
      ·rw [swp_size]
     refine pi_s18 h5 hsz (by omega) hb hn fun w6 h6=>?_
     rw [f122_s24_eq]
     refine ⟨m,by omega,i2,_,hai2,hib2,by omega,?_,hR,?_,h6⟩
     ·split
      ·rw [shiftUp_size _ _ _ _ rfl,hsz]
      ·exact hsz
     ·have:IntKind.wrap .i64 (((5 - (m+1):Nat):Int)+1)=((5 - m:Nat):Int):=by rw [wrap_i64 (by omega) (by omega)]; omega
      rw [this]
  constructor
  ·intro hlt2
   have hlt2:i2 < b:=by simpa using hlt2
   have e2:IntKind.wrap .i64 ((i2:Int) - 1)=((i2 - 1:Nat):Int):=by rw [wrap_i64 (by omega) (by omega)]; omega
   refine less_at (i:=i2) (j:=i2 - 1) rfl e2 (by omega) (by omega) h2 (.head _) fun w3 h3=>⟨_,rfl,?_⟩
   rw [f122_s7_eq,BIf_iff]
   refine ⟨fun hb'=>?_,fun hb'=>?_⟩
   ·rw [if_pos (by simp [hlt2]; simpa using hb')] at hI
    rw [f122_s8_eq]
    refine ⟨b - (i2+1),by omega,i2+1,by omega,by omega,rfl,hI,?_,h3⟩
    rw [wrap_i64 (by omega) (by omega)]; rfl
   ·rw [if_neg (by rw [hb']; simp)] at hI
    exact after w3 hI h3
  ·intro hge
   have hge:¬ i2 < b:=by simpa using hge
   rw [if_neg (by simp [hge])] at hI
   rw [f122_s7_eq,BIf_false]
   exact after _ hI h2.drew
 ·intro hge
  have:m=0:=by simp at hge; omega
  subst this
  have hR:(d,false)=R:=hR
  subst hR
  rw [f122_s29_eq]
  exact hK w1 h1
end
end Go.Fx.Tryz
namespace Go.Fx.Tryz
set_option maxRecDepth 100000
open Go Go.Fx Go.Proofs
noncomputable def c99:Code:=bodyOf Tryz.f99
noncomputable def rs99:List ResultVar:=Tryz.f99.results.toList
abbrev f99_kb (K:KT):Exit→YT:=bodyK P rs99 K
def f99 (a:OA) (b c:Nat) (d e f:Int) (w:World) (K:KT):Prop:=CS P c99 none [] [] (f99_kb K) (env0 134 [(VS a b c),(VI d),(VI e),(VI f)]) w
def f99_s0 (a:OA) (b c:Nat) (d e f:Int) (w:World) (K:KT):Prop:=CS P (cA c99 1) none [] [] (f99_kb K) (Env.mk 134 [(0,(VS a b c)),(1,(VI d)),(2,(VI e)),(3,(VI f))] []) w
abbrev f99_k0 (K:KT):Exit→YT:=kseq P (cA c99 2) (cA c99 3) none [] [] (f99_kb K)
def f99_s1 (a:OA) (b c:Nat) (d e f:Int) (w:World) (K:KT):Prop:=CS P (cA c99 3) none [] [] (f99_kb K) (Env.mk 134 [(8,(VB true)),(0,(VS a b c)),(1,(VI d)),(2,(VI e)),(3,(VI f))] []) w
abbrev f99_k1 (K:KT):Exit→YT:=kseq P (cA c99 6) (cA c99 7) none [] [] (f99_kb K)
def f99_s2 (a:OA) (b c:Nat) (d e f:Int) (w:World) (K:KT):Prop:=CS P (cA c99 7) none [] [] (f99_kb K) (Env.mk 134 [(9,(VB true)),(8,(VB true)),(0,(VS a b c)),(1,(VI d)),(2,(VI e)),(3,(VI f))] []) w
abbrev f99_k2 (K:KT):Exit→YT:=kblock 0 (f99_kb K)
def f99_lp3 (K:KT) (Y3:YT) (e:Env) (w:World):Prop:=Join (fun e w=>CS P (cA c99 28) none [2,1,0,9,8,3] [] (kloop [2,1,0,9,8,3] Y3 (f99_k2 K)) e w) e w
abbrev f99_kl3 (K:KT) (Y3:YT):Exit→YT:=kloop [2,1,0,9,8,3] Y3 (f99_k2 K)
def f99_lb3 (a b:Int) (c:OA) (d f:Nat) (g h:Bool) (i:Int) (w:World) (K:KT) (Y3:YT):Prop:=SG P (cA c99 28) none [2,1,0,9,8,3] [] (f99_kl3 K Y3) (Env.mk 134 [(2,(VI a)),(1,(VI b)),(0,(VS c d f)),(9,(VB g)),(8,(VB h)),(3,(VI i))] []) w
abbrev f99_k3 (K:KT) (Y3:YT):Exit→YT:=kblock 1 (f99_kl3 K Y3)
abbrev f99_k4 (K:KT) (Y3:YT):Exit→YT:=kseq P (cA c99 112) (cA c99 113) none [2,1,0,9,8,3] [2,1,0,9,8,3] (f99_k3 K Y3)
def f99_s4 (a b:Int) (c:OA) (d f:Nat) (g h:Bool) (i j:Int) (w:World) (K:KT) (Y3:YT):Prop:=SG P (cA c99 227) none [2,1,0,9,8,3] [2,1,0,9,8,3] (f99_k3 K Y3) (Env.mk 134 [(2,(VI a)),(1,(VI b)),(0,(VS c d f)),(9,(VB g)),(8,(VB h)),(3,(VI i)),(10,(VI j))] []) w
abbrev f99_k8 (K:KT) (Y3:YT):Exit→YT:=kseq P (cA c99 454) (cA c99 455) none [2,1,0,9,8,3] [2,1,0,9,8,3] (f99_k3 K Y3)
abbrev f99_k9 (K:KT) (Y3:YT):Exit→YT:=kseq P (cA c99 908) (cA c99 909) none [2,1,0,9,8,10,3] [2,1,0,9,8,3] (f99_k8 K Y3)
def f99_s5 (a b:Int) (c:OA) (d f:Nat) (g h:Bool) (i j:Int) (w:World) (K:KT) (Y3:YT):Prop:=SG P (cA c99 455) none [2,1,0,9,8,3] [2,1,0,9,8,3] (f99_k3 K Y3) (Env.mk 134 [(2,(VI a)),(1,(VI b)),(0,(VS c d f)),(9,(VB g)),(8,(VB h)),(10,(VI i)),(3,(VI j))] []) w
abbrev f99_k11 (K:KT) (Y3:YT):Exit→YT:=kseq P (cA c99 910) (cA c99 911) none [2,1,0,9,8,3] [2,1,0,9,8,3] (f99_k3 K Y3)
abbrev f99_k12 (K:KT) (Y3:YT):Exit→YT:=kseq P (cA c99 1820) (cA c99 1821) none [2,1,0,9,8,3,10] [2,1,0,9,8,3] (f99_k11 K Y3)
def f99_s6 (a b:Int) (c:OA) (d f:Nat) (g h:Bool) (i j:Int) (w:World) (K:KT) (Y3:YT):Prop:=SG P (cA c99 911) none [2,1,0,9,8,3] [2,1,0,9,8,3] (f99_k3 K Y3) (Env.mk 134 [(2,(VI a)),(1,(VI b)),(0,(VS c d f)),(9,(VB g)),(8,(VB h)),(3,(VI i)),(10,(VI j))] []) w
abbrev f99_k14 (K:KT) (Y3:YT):Exit→YT:=kseq P (cA c99 1822) (cA c99 1823) none [2,1,0,9,8,3] [2,1,0,9,8,3] (f99_k3 K Y3)
def f99_s7 (a b:Int) (c:OA) (d f:Nat) (g h:Bool) (i j k l:Int) (w:World) (K:KT) (Y3:YT):Prop:=SG P (cA c99 3647) none [2,1,0,9,8,3] [2,1,0,9,8,3] (f99_k3 K Y3) (Env.mk 134 [(2,(VI a)),(1,(VI b)),(0,(VS c d f)),(9,(VB g)),(8,(VB h)),(3,(VI i)),(11,(VI j)),(10,(VI k)),(12,(VI l))] []) w
abbrev f99_k19 (K:KT) (Y3:YT):Exit→YT:=kseq P (cA c99 7294) (cA c99 7295) none [2,1,0,9,8,3] [2,1,0,9,8,3] (f99_k3 K Y3)
abbrev f99_k20 (K:KT) (Y3:YT):Exit→YT:=kseq P (cA c99 14588) (cA c99 14589) none [2,0,9,8,3,11,1,10] [2,1,0,9,8,3] (f99_k19 K Y3)
def f99_s8 (a:Bool) (b c:Int) (d:OA) (f g:Nat) (h i:Bool) (j k l:Int) (w:World) (K:KT) (Y3:YT):Prop:=SG P (cA c99 14589) none [2,0,9,8,3,11,1,10] [2,1,0,9,8,3] (f99_k19 K Y3) (Env.mk 134 [(68,(VB a)),(2,(VI b)),(1,(VI c)),(0,(VS d f g)),(9,(VB h)),(8,(VB i)),(3,(VI j)),(11,(VI k)),(10,(VI l))] []) w
def f99_s9 (a:Int) (b:OA) (c d:Nat) (f g:Bool) (h i j k:Int) (w:World) (K:KT) (Y3:YT):Prop:=SG P (cA c99 7295) none [2,1,0,9,8,3] [2,1,0,9,8,3] (f99_k3 K Y3) (Env.mk 134 [(2,(VI a)),(0,(VS b c d)),(9,(VB f)),(8,(VB g)),(3,(VI h)),(11,(VI i)),(1,(VI j)),(10,(VI k))] []) w
abbrev f99_k22 (K:KT) (Y3:YT):Exit→YT:=kseq P (cA c99 14590) (cA c99 14591) none [2,1,0,9,8,3] [2,1,0,9,8,3] (f99_k3 K Y3)
abbrev f99_k23 (K:KT) (Y3:YT):Exit→YT:=kseq P (cA c99 29180) (cA c99 29181) none [2,0,3,1,10,11] [2,1,0,9,8,3] (f99_k22 K Y3)
def f99_s10 (a:Bool) (b:Int) (c:OA) (d f:Nat) (g h:Bool) (i j k l:Int) (w:World) (K:KT) (Y3:YT):Prop:=SG P (cA c99 29181) none [2,0,3,1,10,11] [2,1,0,9,8,3] (f99_k22 K Y3) (Env.mk 134 [(87,(VB a)),(2,(VI b)),(0,(VS c d f)),(9,(VB g)),(8,(VB h)),(3,(VI i)),(11,(VI j)),(1,(VI k)),(10,(VI l))] []) w
def f99_s11 (a:Int) (b:OA) (c d:Nat) (f g h i:Int) (w:World) (K:KT) (Y3:YT):Prop:=SG P (cA c99 14591) none [2,1,0,9,8,3] [2,1,0,9,8,3] (f99_k3 K Y3) (Env.mk 134 [(2,(VI a)),(0,(VS b c d)),(3,(VI f)),(1,(VI g)),(10,(VI h)),(11,(VI i))] []) w
abbrev f99_k26 (K:KT) (Y3:YT):Exit→YT:=kseq P (cA c99 29182) (cA c99 29183) none [2,1,0,9,8,3] [2,1,0,9,8,3] (f99_k3 K Y3)
theorem f99_s11_eq (d:Int) (e:OA) (f g:Nat) (i h j k:Int) (w:World) (K:KT) (Y3:YT):f99_s11 d e f g i h j k w K Y3=(CallL P 125 [(Value.slice e f g),(Value.int .i64 h),(Value.int .i64 d),(Value.int .i64 k)] w (fun n m=>∃ c:Int,∃ l:Bool,n=(.tuple [(Value.int .i64 c),(Value.bool l)].toArray)∧(8:Int)≠0∧BIf (decide (((IntKind.wrap .i64 ((c:Int) - h)):Int) < (IntKind.wrap .i64 ((d:Int) - c)))) (CallL P 99 [(Value.slice e f g),(Value.int .i64 h),(Value.int .i64 c),(Value.int .i64 i)] m (fun o p=>o=(.tuple [].toArray)∧Y3 (Env.mk 134 [(2,(Value.int .i64 d)),(1,(Value.int .i64 (IntKind.wrap .i64 ((c:Int)+1)))),(0,(Value.slice e f g)),(9,(Value.bool l)),(8,(Value.bool (decide (((IntKind.wrap .i64 ((c:Int) - h)):Int)≥(IntKind.wrap .i64 ((j:Int).tdiv 8)))))),(3,(Value.int .i64 i))] []) p)) (CallL P 99 [(Value.slice e f g),(Value.int .i64 (IntKind.wrap .i64 ((c:Int)+1))),(Value.int .i64 d),(Value.int .i64 i)] m (fun q r=>q=(.tuple [].toArray)∧Y3 (Env.mk 134 [(2,(Value.int .i64 c)),(1,(Value.int .i64 h)),(0,(Value.slice e f g)),(9,(Value.bool l)),(8,(Value.bool (decide (((IntKind.wrap .i64 ((d:Int) - c)):Int)≥(IntKind.wrap .i64 ((j:Int).tdiv 8)))))),(3,(Value.int .i64 i))] []) r)))):=Eq.trans SGe (Eq.trans (CSs [2,0,3,14,1,10,15] (f99_k26 K Y3) (by kernel_rfl)) (by kernel_rfl))
theorem f99_s10_eq (i:Bool) (a:Int) (c:OA) (d e:Nat) (j k:Bool) (f g h l:Int) (w:World) (K:KT) (Y3:YT):f99_s10 i a c d e j k f g h l w K Y3=(BIf i (CallL P 124 [(Value.slice c d e),(Value.int .i64 h),(Value.int .i64 a),(Value.int .i64 g)] w (fun n o=>∃ m:Int,n=(.int .i64 m)∧Y3 (Env.mk 134 [(2,(Value.int .i64 a)),(1,(Value.int .i64 m)),(0,(Value.slice c d e)),(9,(Value.bool j)),(8,(Value.bool k)),(3,(Value.int .i64 f))] []) o)) (f99_s11 a c d e f h l g w K Y3)):=Eq.trans SGe (by kernel_rfl)
theorem f99_s9_eq (g:Int) (e:OA) (f h:Nat) (i j:Bool) (k d c l:Int) (w:World) (K:KT) (Y3:YT):f99_s9 g e f h i j k d c l w K Y3=(BIf (decide ((c:Int) > 0)) (optS e (fun p=>0≤((IntKind.wrap .i64 ((c:Int) - 1)):Int)∧((IntKind.wrap .i64 ((c:Int) - 1)):Int) < (f:Nat)∧optS e (fun q=>0≤(d:Int)∧(d:Int) < (f:Nat)∧∃ m:Int,w.drew.cell? (p.add (Int.toNat (IntKind.wrap .i64 ((c:Int) - 1)) * 1))=some (.int .u32 m)∧∃ n:Int,w.drew.cell? (q.add (Int.toNat d * 1))=some (.int .u32 n)∧CallL P 123 [(Value.int .u32 m),(Value.int .u32 n)] w.drew (fun r s=>∃ o:Bool,r=(.bool o)∧f99_s10 (!o) g e f h i j k d c l s K Y3)))) (f99_s10 false g e f h i j k d c l w.drew K Y3)):=Eq.trans SGe (Eq.trans (CSs [2,0,3,1,10,11] (f99_k22 K Y3) (by kernel_rfl)) (Eq.trans (CSs [87,2,0,9,8,3,11,1,10] (f99_k23 K Y3) (by kernel_rfl)) (by kernel_rfl)))
theorem f99_s8_eq (l:Bool) (a c:Int) (d:OA) (e f:Nat) (g h:Bool) (i j k:Int) (w:World) (K:KT) (Y3:YT):f99_s8 l a c d e f g h i j k w K Y3=(BIf l (CallL P 122 [(Value.slice d e f),(Value.int .i64 c),(Value.int .i64 a)] w (fun o m=>∃ n:Bool,o=(.bool n)∧BIf n (K (Value.tuple [].toArray) m) (f99_s9 a d e f g h i j c k m K Y3))) (f99_s9 a d e f g h i j c k w K Y3)):=Eq.trans SGe (by kernel_rfl)
theorem f99_s7_eq (e f:Int) (g:OA) (h i:Nat) (c d:Bool) (j k l m:Int) (w:World) (K:KT) (Y3:YT):f99_s7 e f g h i c d j k l m w K Y3=(BIf d (BIf c (f99_s8 ((m:Int) == 1) e f g h i c d j k l w K Y3) (f99_s8 false e f g h i c d j k l w K Y3)) (f99_s8 false e f g h i c d j k l w K Y3)):=Eq.trans SGe (Eq.trans (CSs [2,0,9,8,3,11,1,10] (f99_k19 K Y3) (by kernel_rfl)) (Eq.trans (CSs [68,2,1,0,9,8,3,11,10] (f99_k20 K Y3) (by kernel_rfl)) (by kernel_rfl)))
theorem f99_s6_eq (c d:Int) (e:OA) (f g:Nat) (h i:Bool) (j k:Int) (w:World) (K:KT) (Y3:YT):f99_s6 c d e f g h i j k w K Y3=(CallL P 120 [(Value.slice e f g),(Value.int .i64 d),(Value.int .i64 c)] w (fun o n=>∃ l:Int,∃ m:Int,o=(.tuple [(Value.int .i64 l),(Value.int .i64 m)].toArray)∧BIf ((m:Int) == 2) (CallL P 121 [(Value.slice e f g),(Value.int .i64 d),(Value.int .i64 c)] n (fun p q=>p=(.tuple [].toArray)∧f99_s7 c d e f g h i j (IntKind.wrap .i64 (((IntKind.wrap .i64 ((c:Int) - 1)):Int) - (IntKind.wrap .i64 ((l:Int) - d)))) k 1 q K Y3)) (f99_s7 c d e f g h i j l k m n K Y3))):=Eq.trans SGe (Eq.trans (CSs [2,1,0,9,8,3,10,11,12] (f99_k14 K Y3) (by kernel_rfl)) (by kernel_rfl))
theorem f99_s5_eq (c d:Int) (e:OA) (f g:Nat) (i h:Bool) (j k:Int) (w:World) (K:KT) (Y3:YT):f99_s5 c d e f g i h j k w K Y3=(BIf (!h) (CallL P 119 [(Value.slice e f g),(Value.int .i64 d),(Value.int .i64 c)] w (fun l m=>l=(.tuple [].toArray)∧f99_s6 c d e f g i h (IntKind.wrap .i64 ((k:Int) - 1)) j m K Y3)) (f99_s6 c d e f g i h k j w K Y3)):=Eq.trans SGe (Eq.trans (CSs [2,1,0,9,8,3,10] (f99_k11 K Y3) (by kernel_rfl)) (Eq.trans (CSs [35,2,1,0,9,8,10,3] (f99_k12 K Y3) (by kernel_rfl)) (by kernel_rfl)))
theorem f99_s4_eq (c d:Int) (e:OA) (f g:Nat) (i j:Bool) (h k:Int) (w:World) (K:KT) (Y3:YT):f99_s4 c d e f g i j h k w K Y3=(BIf ((h:Int) == 0) (CallL P 118 [(Value.slice e f g),(Value.int .i64 d),(Value.int .i64 c)] w (fun l m=>l=(.tuple [].toArray)∧K (Value.tuple [].toArray) m)) (f99_s5 c d e f g i j k h w K Y3)):=Eq.trans SGe (Eq.trans (CSs [2,1,0,9,8,10,3] (f99_k8 K Y3) (by kernel_rfl)) (Eq.trans (CSs [29,2,1,0,9,8,3,10] (f99_k9 K Y3) (by kernel_rfl)) (by kernel_rfl)))
theorem f99_lb3_eq (c d:Int) (e:OA) (f g:Nat) (h i:Bool) (j:Int) (w:World) (K:KT) (Y3:YT):f99_lb3 c d e f g h i j w K Y3=(BIf (decide (((IntKind.wrap .i64 ((c:Int) - d)):Int)≤12)) (CallL P 117 [(Value.slice e f g),(Value.int .i64 d),(Value.int .i64 c)] w (fun k l=>k=(.tuple [].toArray)∧K (Value.tuple [].toArray) l)) (f99_s4 c d e f g h i j (IntKind.wrap .i64 ((c:Int) - d)) w K Y3)):=Eq.trans SGe (Eq.trans (CSb 1 [2,1,0,9,8,3] (f99_k3 K Y3) (by kernel_rfl)) (Eq.trans (CSs [2,1,0,9,8,3,10] (f99_k4 K Y3) (by kernel_rfl)) (by kernel_rfl)))
theorem f99_s2_eq (a:OA) (c d:Nat) (e f g:Int) (w:World) (K:KT):f99_s2 a c d e f g w K=(LoopE (f99_lp3 K) (Env.mk 134 [(2,(Value.int .i64 f)),(1,(Value.int .i64 e)),(0,(Value.slice a c d)),(9,(Value.bool true)),(8,(Value.bool true)),(3,(Value.int .i64 g))] []) w):=Eq.trans (b:=CS P (cA c99 7) none [] [] (f99_kb K) (Env.mk 134 [(9,(VB true)),(8,(VB true)),(0,(VS a c d)),(1,(VI e)),(2,(VI f)),(3,(VI g))] []) w) (by kernel_rfl) (Eq.trans (CSb 0 [] (f99_k2 K) (by kernel_rfl)) ((CS_loop' (b:=(cA c99 28)) (X':=[]) (H:=[2,1,0,9,8,3]) (by kernel_rfl) (by kernel_rfl) (by kernel_rfl)).trans (by kernel_rfl)))
theorem f99_s1_eq (c:OA) (d e:Nat) (f g h:Int) (w:World) (K:KT):f99_s1 c d e f g h w K=(f99_s2 c d e f g h w K):=Eq.trans (b:=CS P (cA c99 3) none [] [] (f99_kb K) (Env.mk 134 [(8,(VB true)),(0,(VS c d e)),(1,(VI f)),(2,(VI g)),(3,(VI h))] []) w) (by kernel_rfl) (Eq.trans (CSs [2,1,0,9,8,3] (f99_k1 K) (by kernel_rfl)) (by kernel_rfl))
theorem f99_s0_eq (c:OA) (d e:Nat) (f g h:Int) (w:World) (K:KT):f99_s0 c d e f g h w K=(f99_s1 c d e f g h w K):=Eq.trans (b:=CS P (cA c99 1) none [] [] (f99_kb K) (Env.mk 134 [(0,(VS c d e)),(1,(VI f)),(2,(VI g)),(3,(VI h))] []) w) (by kernel_rfl) (Eq.trans (CSs [2,1,0,8,3] (f99_k0 K) (by kernel_rfl)) (by kernel_rfl))
theorem f99_eq (a:OA) (b c:Nat) (d e f:Int) (w:World) (K:KT):f99 a b c d e f w K=(f99_s0 a b c d e f w K):=by kernel_rfl
theorem f99_ok (a:OA) (b c:Nat) (d e f:Int) (w:World) (K:KT) (h:f99 a b c d e f w K):CallL P 99 [(Value.slice a b c),(Value.int .i64 d),(Value.int .i64 e),(Value.int .i64 f)] w K:=okCS c99 Tryz.func99 (by kernel_rfl) (by kernel_rfl) h
end Go.Fx.Tryz
namespace Go.Fx.Tryz
open Go Go.Fx Go.Fx.Mo
open Go.Proofs
open Go.Sort (swp ltInt pdq Below rd SWO swo_ltInt insertionSort_holds heapSort_holds partialInsertionSort_holds partition_holds partitionEqual_holds reverseRange_holds breakPatterns_holds choosePivot_holds pdq_sorts Hint rd_facts round_eq round_part pdq_small pdq_heap pdq_done pdq_eq pdq_left pdq_right choosePivot breakPatterns reverseRange partialInsertionSort partition partitionEqual)
variable {w0 w:World} {H X:HL} {K:KT}
set_option maxRecDepth 20000
section
variable {g c:Nat} {T:TypeId} {z:List Value}
def PqInv (w0:World) (H:HL) (g c:Nat) (T:TypeId) (z:List Value) (n M:Nat) (D:Array Int) (m:Nat) (ee:Env) (w:World):Prop:=
 ∃ (a b limit:Nat) (wb wp:Bool) (d:Array Int),m=b - a∧m≤M∧a≤b∧b≤n∧limit≤100∧d.size=n∧Below ltInt a b d∧pdq ltInt d a b limit wb wp=D∧
  ee=Env.mk 134 [(2,(Value.int .i64 b)),(1,(Value.int .i64 a)),(0,(Value.slice (some (Addr.mk g 0 none)) n c)),(9,(Value.bool wp)),(8,(Value.bool wb)),(3,(Value.int .i64 limit))] []∧St w0 w ((g,Cs (uCs d z) T)::H)
theorem hint2 (h:Hint):(hintI h == 2)=decide (h=.decreasing):=by cases h <;> rfl
theorem hint1 (h:Hint):(hintI h == 1)=decide (h=.increasing):=by cases h <;> rfl
theorem pdq_s9 {N n M:Nat} {D:Array Int} {d3:Array Int} {a b lim pv:Nat} {wb wp:Bool} {m:Nat}
  (ih:∀ {w:World} {K:KT} {d:Array Int} {a b limit:Nat},b - a < N→St w0 w ((g,Cs (uCs d z) T)::H)→a≤b→b≤d.size→d.size < 1000000000000→limit≤100→Below ltInt a b d→
   (∀ w',St w0 w' ((g,Cs (uCs (pdq ltInt d a b limit true true) z) T)::H)→K (.tuple [].toArray) w')→CallL P 99 [.slice (some (Addr.mk g 0 none)) d.size c,.int .i64 a,.int .i64 b,.int .i64 limit] w K)
  (h:St w0 w ((g,Cs (uCs d3 z) T)::H)) (hd:d3.size=n) (hab:12 < b - a) (hb:b≤n) (hn:n < 1000000000000) (hlim:lim≤100) (hp:a≤pv∧pv < b) (hB:Below ltInt a b d3) (hM:b - a≤M) (hN:b - a≤N) (hm:m=b - a)
  (he:(decide (a > 0) && !ltInt d3[a - 1]! d3[pv]!)=true→pdq ltInt (partitionEqual ltInt d3 a b pv).2 (partitionEqual ltInt d3 a b pv).1 b lim wb wp=D)
  (hl:(decide (a > 0) && !ltInt d3[a - 1]! d3[pv]!)=false→(partition ltInt d3 a b pv).1 - a < b - (partition ltInt d3 a b pv).1→pdq ltInt (pdq ltInt (partition ltInt d3 a b pv).2.2 a (partition ltInt d3 a b pv).1 lim true true) ((partition ltInt d3 a b pv).1+1) b lim (decide ((partition ltInt d3 a b pv).1 - a≥(b - a) / 8)) (partition ltInt d3 a b pv).2.1=D)
  (hr:(decide (a > 0) && !ltInt d3[a - 1]! d3[pv]!)=false→¬ (partition ltInt d3 a b pv).1 - a < b - (partition ltInt d3 a b pv).1→pdq ltInt (pdq ltInt (partition ltInt d3 a b pv).2.2 ((partition ltInt d3 a b pv).1+1) b lim true true) a (partition ltInt d3 a b pv).1 lim (decide (b - (partition ltInt d3 a b pv).1≥(b - a) / 8)) (partition ltInt d3 a b pv).2.1=D) :
  f99_s9 b (some (Addr.mk g 0 none)) n c wp wb lim pv a ((b - a:Nat):Int) w K (fun e' w'=>∃ m',m' < m∧PqInv w0 H g c T z n M D m' e' w'):=by
 subst hd
 have s11:∀ w1,(decide (a > 0) && !ltInt d3[a - 1]! d3[pv]!)=false→St w0 w1 ((g,Cs (uCs d3 z) T)::H)→f99_s11 b (some (Addr.mk g 0 none)) d3.size c lim a ((b - a:Nat):Int) pv w1 K (fun e' w'=>∃ m',m' < m∧PqInv w0 H g c T z d3.size M D m' e' w'):=by
  intro w1 hc h1
  rw [f99_s11_eq]
  refine partition_ok h1 hp.1 hp.2 hb hn fun w2 h2=>⟨_,_,rfl,by omega,?_⟩
  obtain ⟨r1,r2,r3,r4,r5,r6,r7⟩:=round_part swo_ltInt (partition_holds ltInt) (d3:=d3) (d4:=(partition ltInt d3 a b pv).2.2) (mid:=(partition ltInt d3 a b pv).1) (ap:=(partition ltInt d3 a b pv).2.1) hp.1 hp.2 hb hB rfl
  have hl:=hl hc
  have hr:=hr hc
  generalize (partition ltInt d3 a b pv).1=mid at *
  generalize (partition ltInt d3 a b pv).2.1=ap at *
  generalize (partition ltInt d3 a b pv).2.2=d4 at *
  have e1:IntKind.wrap .i64 ((mid:Int) - (a:Int))=((mid - a:Nat):Int):=by rw [wrap_i64 (by omega) (by omega)]; omega
  have e2:IntKind.wrap .i64 ((b:Int) - (mid:Int))=((b - mid:Nat):Int):=by rw [wrap_i64 (by omega) (by omega)]; omega
  have e3:IntKind.wrap .i64 (((b - a:Nat):Int).tdiv 8)=(((b - a) / 8:Nat):Int):=by rw [Int.tdiv_eq_ediv_of_nonneg (by omega),wrap_i64 (by omega) (by omega)]; omega
  have e4:IntKind.wrap .i64 ((mid:Int)+1)=((mid+1:Nat):Int):=by rw [wrap_i64 (by omega) (by omega)]; omega
  rw [e1,e2,e3,e4,BIf_iff,← r3]
  refine ⟨fun hlt=>?_,fun hge=>?_⟩
  ·have hlt:mid - a < b - mid:=by simp at hlt; omega
   refine ih (by omega) h2 r1 (by omega) (by omega) hlim r4 fun w3 h3=>⟨rfl,?_⟩
   obtain ⟨q1,q2⟩:=pdq_sorts ltInt swo_ltInt d4 a mid lim true true r1 (by omega) r4
   have q3:=(r6 _ q1 q2).1
   refine ⟨b - (mid+1),by omega,mid+1,b,lim,_,_,_,rfl,by omega,by omega,by omega,hlim,q1.1,q3,hl hlt,?_,h3⟩
   have:decide (((mid - a:Nat):Int)≥(((b - a) / 8:Nat):Int))=decide (mid - a≥(b - a) / 8):=by
    rw [Bool.eq_iff_iff]; simp only [decide_eq_true_eq]; omega
   rw [this]
  ·have hge:¬ mid - a < b - mid:=by simp at hge; omega
   refine ih (by omega) h2 (by omega) (by omega) (by omega) hlim r5 fun w3 h3=>⟨rfl,?_⟩
   obtain ⟨q1,q2⟩:=pdq_sorts ltInt swo_ltInt d4 (mid+1) b lim true true (by omega) (by omega) r5
   have q3:=(r7 _ q1 q2).1
   refine ⟨mid - a,by omega,a,mid,lim,_,_,_,rfl,by omega,by omega,by omega,hlim,q1.1,q3,hr hge,?_,h3⟩
   have:decide (((b - mid:Nat):Int)≥(((b - a) / 8:Nat):Int))=decide (b - mid≥(b - a) / 8):=by
    rw [Bool.eq_iff_iff]; simp only [decide_eq_true_eq]; omega
   rw [this]
 rw [f99_s9_eq,BIf_iff]
 constructor
 ·intro ha0
  have ha0:a > 0:=by simp at ha0; omega
  have e1:IntKind.wrap .i64 ((a:Int) - 1)=((a - 1:Nat):Int):=by rw [wrap_i64 (by omega) (by omega)]; omega
  refine less_at (i:=a - 1) (j:=pv) e1 rfl (by omega) (by omega) h (.head _) fun w1 h1=>⟨_,rfl,?_⟩
  rw [f99_s10_eq,BIf_iff]
  refine ⟨fun hn'=>?_,fun hn'=>?_⟩
  ·have hc:(decide (a > 0) && !ltInt d3[a - 1]! d3[pv]!)=true:=by simp [ha0]; simpa using hn'
   have he:=he hc
   refine partitionEqual_ok h1 hp.1 hp.2 hb hn fun w2 h2=>⟨_,rfl,?_⟩
   obtain ⟨r1,r2,r3,r4,_⟩:=round_eq swo_ltInt (partitionEqual_holds (lt:=ltInt)) (d3:=d3) (d4:=(partitionEqual ltInt d3 a b pv).2) (mid:=(partitionEqual ltInt d3 a b pv).1) ha0 hp.1 hp.2 hb hB (by simpa using hn') rfl
   exact ⟨b - (partitionEqual ltInt d3 a b pv).1,by omega,_,b,lim,wb,wp,_,rfl,by omega,r2,hb,hlim,r3,r4,he,rfl,h2⟩
  ·exact s11 w1 (by rw [hn',Bool.and_false]) h1
 ·intro ha0
  have ha0:¬ a > 0:=by simp at ha0; omega
  rw [f99_s10_eq,BIf_false]
  exact s11 _ (by simp [ha0]) h.drew
theorem pdq_ok:∀ (N:Nat) {w:World} {K:KT} {d:Array Int} {a b limit:Nat},b - a < N→St w0 w ((g,Cs (uCs d z) T)::H)→a≤b→b≤d.size→d.size < 1000000000000→limit≤100→Below ltInt a b d→
  (∀ w',St w0 w' ((g,Cs (uCs (pdq ltInt d a b limit true true) z) T)::H)→K (.tuple [].toArray) w')→CallL P 99 [.slice (some (Addr.mk g 0 none)) d.size c,.int .i64 a,.int .i64 b,.int .i64 limit] w K
 | 0,_,_,_,_,_,_,hN,_,_,_,_,_,_,_=>absurd hN (Nat.not_lt_zero _)
 | N+1,w,K,d,a,b,limit,hN,h,hab,hb,hn,hlim,hB,hK=>by
  refine f99_ok _ _ _ _ _ _ _ _ ?_
  rw [f99_eq,f99_s0_eq,f99_s1_eq,f99_s2_eq]
  refine ⟨PqInv w0 H g c T z d.size (b - a) (pdq ltInt d a b limit true true),⟨b - a,a,b,limit,true,true,d,rfl,Nat.le_refl _,hab,hb,hlim,rfl,hB,rfl,rfl,h⟩,?_⟩
  generalize pdq ltInt d a b limit true true=D at hK
  have hM:b - a≤N:=by omega
  generalize b - a=M at hM
  generalize hnn:d.size=n at hb hn
  clear h hab hb hB hN hlim hnn
  rintro m ee w1 ⟨a,b,limit,wb,wp,d,hm,hmM,hab,hb,hlim,hd,hB,hD,rfl,h1⟩
  show f99_lb3 ..
  have el:IntKind.wrap .i64 ((b:Int) - (a:Int))=((b - a:Nat):Int):=by rw [wrap_i64 (by omega) (by omega)]; omega
  subst hd
  rw [f99_lb3_eq,el,BIf_iff]
  constructor
  ·intro h12
   have h12:b - a≤12:=by simp at h12; omega
   rw [pdq_small h12] at hD
   subst hD
   exact insertion_ok h1 hab hb hn fun w2 h2=>⟨rfl,hK w2 h2⟩
  ·intro h12
   have h12:¬ b - a≤12:=by simp at h12; omega
   rw [f99_s4_eq,BIf_iff]
   constructor
   ·intro h0
    have h0:limit=0:=by simp at h0; omega
    rw [pdq_heap h12 h0] at hD
    subst hD
    exact heap_ok h1 hab hb hn fun w2 h2=>⟨rfl,hK w2 h2⟩
   ·intro h0
    have h0:¬ limit=0:=by simp at h0; omega
    obtain ⟨k1,k2,k3,k4,k5,k6,k7,k8⟩:=rd_facts (lt:=ltInt) (d:=d) (a:=a) (b:=b) (limit:=limit) (wb:=wb) (wp:=wp) swo_ltInt partialInsertionSort_holds reverseRange_holds (by omega) hb hB
    have kl:(rd ltInt d a b limit wb wp).lim≤100:=Nat.le_trans Go.Sort.rd_lim_le hlim
    have t9:∀ w2,(rd ltInt d a b limit wb wp).pi.2=false→St w0 w2 ((g,Cs (uCs (rd ltInt d a b limit wb wp).pi.1 z) T)::H)→
      f99_s9 b (some (Addr.mk g 0 none)) d.size c wp wb (rd ltInt d a b limit wb wp).lim (rd ltInt d a b limit wb wp).pivot a ((b - a:Nat):Int) w2 K (fun e' w'=>∃ m',m' < m∧PqInv w0 H g c T z d.size M D m' e' w'):=by
     intro w2 hpi h2
     refine pdq_s9 (N:=N) (fun q1 q2 q3 q4 q5 q6 q7 q8=>pdq_ok N q1 q2 q3 q4 q5 q6 q7 q8) h2 k7 (by omega) hb hn kl k6 k8 (by omega) (by omega) hm (fun hc=>?_) (fun hc hlt=>?_) (fun hc hge=>?_)
     ·rw [← hD]
      have ha0:a > 0:=by simp at hc; exact hc.1
      have hnl:ltInt (rd ltInt d a b limit wb wp).pi.1[a - 1]! (rd ltInt d a b limit wb wp).pi.1[(rd ltInt d a b limit wb wp).pivot]! = false:=by simp at hc; exact hc.2
      obtain ⟨r1,r2,_⟩:=round_eq swo_ltInt (partitionEqual_holds (lt:=ltInt)) (d3:=(rd ltInt d a b limit wb wp).pi.1) (pivot:=(rd ltInt d a b limit wb wp).pivot) (d4:=(partitionEqual ltInt (rd ltInt d a b limit wb wp).pi.1 a b (rd ltInt d a b limit wb wp).pivot).2) (mid:=(partitionEqual ltInt (rd ltInt d a b limit wb wp).pi.1 a b (rd ltInt d a b limit wb wp).pivot).1) ha0 k6.1 k6.2 (by rw [k7]; exact hb) k8 hnl rfl
      exact (pdq_eq h12 h0 hpi hc ⟨r1,r2⟩).symm
     ·rw [← hD]
      obtain ⟨r1,r2,_⟩:=partition_holds ltInt swo_ltInt (rd ltInt d a b limit wb wp).pi.1 a b (rd ltInt d a b limit wb wp).pivot k6.1 k6.2 (by rw [k7]; exact hb)
      exact (pdq_left h12 h0 hpi hc ⟨r1,r2⟩ hlt).symm
     ·rw [← hD]
      obtain ⟨r1,r2,_⟩:=partition_holds ltInt swo_ltInt (rd ltInt d a b limit wb wp).pi.1 a b (rd ltInt d a b limit wb wp).pivot k6.1 k6.2 (by rw [k7]; exact hb)
      exact (pdq_right h12 h0 hpi hc ⟨r1,r2⟩ hge).symm
    have t7:∀ w2,St w0 w2 ((g,Cs (uCs (rd ltInt d a b limit wb wp).d2 z) T)::H)→
      f99_s7 b a (some (Addr.mk g 0 none)) d.size c wp wb (rd ltInt d a b limit wb wp).lim (rd ltInt d a b limit wb wp).pivot ((b - a:Nat):Int) (hintI (rd ltInt d a b limit wb wp).hint) w2 K (fun e' w'=>∃ m',m' < m∧PqInv w0 H g c T z d.size M D m' e' w'):=by
     intro w2 h2
     have no:(wb && wp && decide ((rd ltInt d a b limit wb wp).hint=.increasing))=false→f99_s8 false b a (some (Addr.mk g 0 none)) d.size c wp wb (rd ltInt d a b limit wb wp).lim (rd ltInt d a b limit wb wp).pivot ((b - a:Nat):Int) w2 K (fun e' w'=>∃ m',m' < m∧PqInv w0 H g c T z d.size M D m' e' w'):=by
      intro hc
      have hp:=Go.Sort.rd_pi_no hc
      rw [f99_s8_eq,BIf_false]
      refine t9 w2 (by rw [hp]) ?_
      rw [hp]
      exact h2
     rw [f99_s7_eq,BIf_iff]
     refine ⟨fun hwb=>?_,fun hwb=>no (by rw [hwb]; rfl)⟩
     rw [BIf_iff]
     refine ⟨fun hwp=>?_,fun hwp=>no (by rw [hwp,Bool.and_false]; rfl)⟩
     rw [hint1]
     cases hh:decide ((rd ltInt d a b limit wb wp).hint=.increasing) with
     | false=>exact no (by rw [hh,Bool.and_false])
     | true=>
      have hp:=Go.Sort.rd_pi_yes (lt:=ltInt) (d:=d) (a:=a) (b:=b) (limit:=limit) (wb:=wb) (wp:=wp) (by rw [hwb,hwp] at hh ⊢; rw [hh]; rfl)
      rw [f99_s8_eq,BIf_true,← k4]
      refine partial_ok h2 (by omega) (by omega) (by omega) fun w3 h3=>⟨_,rfl,?_⟩
      rw [BIf_iff]
      refine ⟨fun hy=>?_,fun hy=>?_⟩
      ·rw [pdq_done h12 h0 (by rw [hp]; exact hy)] at hD
       subst hD
       rw [hp] at hK
       exact hK w3 h3
      ·rw [k4]
       refine t9 w3 (by rw [hp]; exact hy) ?_
       rw [hp]
       exact h3
    have t6:∀ w2,St w0 w2 ((g,Cs (uCs (rd ltInt d a b limit wb wp).d1 z) T)::H)→
      f99_s6 b a (some (Addr.mk g 0 none)) d.size c wp wb (rd ltInt d a b limit wb wp).lim ((b - a:Nat):Int) w2 K (fun e' w'=>∃ m',m' < m∧PqInv w0 H g c T z d.size M D m' e' w'):=by
     intro w2 h2
     rw [f99_s6_eq,← k1]
     refine pivot_ok (.head _) h2 (by omega) (by omega) (by omega) fun w3 h3=>⟨_,_,rfl,?_⟩
     have hc:(rd ltInt d a b limit wb wp).c=choosePivot ltInt (rd ltInt d a b limit wb wp).d1 a b:=Go.Sort.rd_c
     rw [← hc,hint2,BIf_iff]
     refine ⟨fun hdec=>?_,fun hdec=>?_⟩
     ·have hdec:(rd ltInt d a b limit wb wp).c.2=.decreasing:=by simpa using hdec
      obtain ⟨x1,x2,x3⟩:=Go.Sort.rd_dec hdec
      refine reverse_ok h3 (by omega) (by omega) (by omega) fun w4 h4=>⟨rfl,?_⟩
      have e1:IntKind.wrap .i64 (IntKind.wrap .i64 ((b:Int) - 1) - IntKind.wrap .i64 (((rd ltInt d a b limit wb wp).c.1:Int) - (a:Int)))=((rd ltInt d a b limit wb wp).pivot:Int):=by
       rw [x2,wrap_i64 (x:=(b:Int) - 1) (by omega) (by omega),wrap_i64 (x:=((rd ltInt d a b limit wb wp).c.1:Int) - (a:Int)) (by omega) (by omega),wrap_i64 (by omega) (by omega)]
       omega
      rw [e1,k1]
      have:=t7 w4 (by rw [x1]; exact h4)
      rw [x3] at this
      exact this
     ·have hdec:(rd ltInt d a b limit wb wp).c.2≠.decreasing:=by simpa using hdec
      obtain ⟨x1,x2,x3⟩:=Go.Sort.rd_not hdec
      have:=t7 w3 (by rw [x1]; exact h3)
      rw [x2,x3] at this
      rw [k1]
      exact this
    rw [f99_s5_eq,BIf_iff]
    refine ⟨fun hwb=>?_,fun hwb=>?_⟩
    ·have hwb:wb=false:=by simpa using hwb
     subst hwb
     obtain ⟨x1,x2⟩:=Go.Sort.rd_false (lt:=ltInt) (d:=d) (a:=a) (b:=b) (limit:=limit) (wp:=wp)
     refine break_ok h1 hab hb hn fun w2 h2=>⟨rfl,?_⟩
     have e1:IntKind.wrap .i64 ((limit:Int) - 1)=((limit - 1:Nat):Int):=by rw [wrap_i64 (by omega) (by omega)]; omega
     rw [e1]
     have:=t6 w2 (by rw [x1]; exact h2)
     rw [x2] at this
     exact this
    ·have hwb:wb=true:=by simpa using hwb
     subst hwb
     obtain ⟨x1,x2⟩:=Go.Sort.rd_true (lt:=ltInt) (d:=d) (a:=a) (b:=b) (limit:=limit) (wp:=wp)
     have:=t6 w1 (by rw [x1]; exact h1)
     rw [x2] at this
     exact this
end
end Go.Fx.Tryz
namespace Go.Fx.Tryz
set_option maxRecDepth 100000
open Go Go.Fx Go.Proofs
noncomputable def c77:Code:=bodyOf Tryz.f77
noncomputable def rs77:List ResultVar:=Tryz.f77.results.toList
abbrev f77_kb (K:KT):Exit→YT:=bodyK P rs77 K
def f77 (a:OA) (b c:Nat) (w:World) (K:KT):Prop:=CS P c77 none [] [] (f77_kb K) (env0 11 [(VS a b c)]) w
theorem f77_eq (a:OA) (b c:Nat) (w:World) (K:KT):f77 a b c w K=(∃ d:Int,(∀ wq,Ext w wq→(Builtin.len_ #[49] 3 [(Value.slice a b c)].toArray).run P wq=.ok (.int .i64 d) wq)∧CallL P 89 [(Value.int .u64 (IntKind.wrap .u64 d))] w (fun f g=>∃ e:Int,f=(.int .i64 e)∧CallL P 99 [(Value.slice a b c),(Value.int .i64 0),(Value.int .i64 d),(Value.int .i64 e)] g (fun h i=>h=(.tuple [].toArray)∧K (Value.tuple [].toArray) i))):=by kernel_rfl
theorem f77_ok (a:OA) (b c:Nat) (w:World) (K:KT) (h:f77 a b c w K):CallL P 77 [(Value.slice a b c)] w K:=okCS c77 Tryz.func77 (by kernel_rfl) (by kernel_rfl) h
noncomputable def c76:Code:=bodyOf Tryz.f76
noncomputable def rs76:List ResultVar:=Tryz.f76.results.toList
abbrev f76_kb (K:KT):Exit→YT:=bodyK P rs76 K
def f76 (a:Value) (w:World) (K:KT):Prop:=CS P c76 none [2] [2] (f76_kb K) (env0 5 [a]) w
theorem f76_eq (a:Value) (w:World) (K:KT):f76 a w K=(CallL P 98 [(Value.slice none 0 0),a] w (fun e f=>∃ (b:OA) (c d:Nat),e=(.slice b c d)∧K (Value.slice b c d) f)):=by kernel_rfl
theorem f76_ok (a:Value) (w:World) (K:KT) (h:f76 a w K):CallL P 76 [a] w K:=okCS c76 Tryz.func76 (by kernel_rfl) (by kernel_rfl) h
noncomputable def c98:Code:=bodyOf Tryz.f98
noncomputable def rs98:List ResultVar:=Tryz.f98.results.toList
abbrev f98_kb (K:KT):Exit→YT:=bodyK P rs98 K
def f98 (a:OA) (b c:Nat) (d:Value) (w:World) (K:KT):Prop:=CS P c98 none [4] [4] (f98_kb K) (env0 13 [(VS a b c),d]) w
abbrev f98_k1 (K:KT):Exit→YT:=kseq P (cA c98 6) (cA c98 7) none [4] [4] (f98_kb K)
abbrev f98_k3 (K:KT):Exit→YT:=kblock 0 (f98_k1 K)
def f98_rd0 (a:Addr) (b:OA) (c e l:Nat) (R:LoopState→Option Code→Loop) (post:Option Code→World→Prop) (args:List Value) (W:World):Prop:=args.length=1∧CS P (cA c98 52) (some l) [2,5] [] (kround P (cA c98 53) l R post) { putParams (Env.mk 13 [(2,(VP (some a))),(4,(VS b c e))] []) [7] args with d:=[] } W
abbrev f98_ka0 (l:Nat) (R:LoopState→Option Code→Loop) (post:Option Code→World→Prop):Exit→YT:=kround P (cA c98 53) l R post
def f98_ra0 (a:Addr) (b:OA) (c d:Nat) (e:Int) (w:World) (l:Nat) (R:LoopState→Option Code→Loop) (post:Option Code→World→Prop):Prop:=CS P (cA c98 52) (some l) [2,5] [] (f98_ka0 l R post) (Env.mk 13 [(7,(Value.int .u32 e)),(2,(VP (some a))),(4,(VS b c d))] []) w
def f98_s1 (a:Addr) (b:Int) (w:World) (l:Nat) (R:LoopState→Option Code→Loop) (post:Option Code→World→Prop):Prop:=SG P (cA c98 53) (some l) [] [] (endS l R post) (Env.mk 13 [(2,(VP (some a))),(5,(Value.int .u32 b))] []) w
theorem f98_s1_eq (a:Addr) (b:Int) (w:World) (l:Nat) (R:LoopState→Option Code→Loop) (post:Option Code→World→Prop):f98_s1 a b w l R post=(∃ (c:OA) (d e:Nat),w.cell? a=some (.slice c d e)∧sizesAre 1 [(Value.int .u32 b)]∧NewC (([(Value.int .u32 b)].map fun (v:Value)=>v.cells.toList).flatten.toArray) 43 w (fun k m=>∃ (f:OA) (g h:Nat),∃ i:World,(Builtin.append_ #[49,49] 49 [(Value.slice c d e),(Value.slice (some (Addr.mk k 0 none)) 1 1)].toArray).run P m=.ok (.slice f g h) i∧St1 a (Value.slice f g h) i (fun j=>j.heap[l]?=some (.loop (R .busy none))∧post none (j.putObj l (.loop (R .ready none)))))):=by kernel_rfl
theorem f98_ra0_eq (a:Addr) (c:OA) (d e:Nat) (b:Int) (w:World) (l:Nat) (R:LoopState→Option Code→Loop) (post:Option Code→World→Prop):f98_ra0 a c d e b w l R post=(w.heap[l]?=some (.loop (R .ready none))∧f98_s1 a b (w.putObj l (.loop (R .busy none))) l R post):=by kernel_rfl
theorem f98_rd0_eq (b:Addr) (c:OA) (d e:Nat) (a:Int) (w:World) (l:Nat) (R:LoopState→Option Code→Loop) (post:Option Code→World→Prop):f98_rd0 b c d e l R post [(Value.int .u32 a)] w=([(Value.int .u32 a)].length=1∧f98_ra0 b c d e a w l R post):=by kernel_rfl
def f98_rn0 (a:Addr) (b:OA) (c e:Nat) (d:List Deferred) (w:World) (K:KT):Prop:=(f98_k3 K) .normal (Env.mk 13 [(2,(VP (some a))),(4,(VS b c e))] d) w
def f98_s2 (a:Addr) (d:List Deferred) (w:World) (K:KT):Prop:=SG P (cA c98 7) none [4] [4] (f98_kb K) (Env.mk 13 [(2,(VP (some a)))] d) w
theorem f98_s2_eq (a:Addr) (d:List Deferred) (w:World) (K:KT):f98_s2 a d w K=(∃ (b:OA) (c e:Nat),w.cell? a=some (.slice b c e)∧LeaveS P rs98 (Env.mk 13 [(4,(Value.slice b c e)),(12,(Value.slice b c e)),(2,(Value.pointer (some a)))] d) K d w):=by kernel_rfl
theorem f98_rn0_eq (a:Addr) (b:OA) (c e:Nat) (d:List Deferred) (w:World) (K:KT):f98_rn0 a b c e d w K=(f98_s2 a d w K):=by kernel_rfl
theorem f98_eq (a:OA) (b c:Nat) (d:Value) (w:World) (K:KT):f98 a b c d w K=(NewC #[(Value.slice a b c)] 49 w (fun e f=>RangeC P (f98_k3 K) (Env.mk 13 [(2,(Value.pointer (some (Addr.mk e 0 none)))),(4,(Value.slice none 0 0))] []) f d (f98_rd0 (Addr.mk e 0 none) none 0 0))):=by kernel_rfl
theorem f98_ok (a:OA) (b c:Nat) (d:Value) (w:World) (K:KT) (h:f98 a b c d w K):CallL P 98 [(Value.slice a b c),d] w K:=okCS c98 Tryz.func98 (by kernel_rfl) (by kernel_rfl) h
noncomputable def c78:Code:=bodyOf Tryz.f78
noncomputable def rs78:List ResultVar:=Tryz.f78.results.toList
abbrev f78_kb (K:KT):Exit→YT:=bodyK P rs78 K
def f78 (a:Value) (b:Addr) (w:World) (K:KT):Prop:=CS P c78 none [] [] (f78_kb K) (env0 14 [a,(VP (some b))]) w
abbrev f78_k1 (K:KT):Exit→YT:=kblock 0 (f78_kb K)
def f78_lp0 (K:KT) (Y0:YT) (e:Env) (w:World):Prop:=Join (fun e w=>CS P (cA c78 12) none [0,5] [] (kloop [0,5] Y0 (f78_k1 K)) e w) e w
abbrev f78_kl0 (K:KT) (Y0:YT):Exit→YT:=kloop [0,5] Y0 (f78_k1 K)
def f78_lb0 (a:Value) (b:Addr) (w:World) (K:KT) (Y0:YT):Prop:=SG P (cA c78 12) none [0,5] [] (f78_kl0 K Y0) (Env.mk 14 [(0,a),(5,(VP (some b)))] []) w
def f78_s1 (a:Value) (b:Addr) (w:World) (K:KT) (Y0:YT):Prop:=SG P (cA c78 51) none [0,5] [] (f78_kl0 K Y0) (Env.mk 14 [(0,a),(5,(VP (some b)))] []) w
theorem f78_s1_eq (a:Value) (b:Addr) (w:World) (K:KT) (Y0:YT):f78_s1 a b w K Y0=(∃ (k14 g:Value) (c:World),(Instr.entry (Value.pointer (some b))).run P w=.ok (.tuple #[k14,g]) c∧∃ d:Int,k14=(.int .u32 d)∧CallF P a [(Value.int .u32 d)] c (fun h e=>∃ f:Bool,h=(.bool f)∧BIf (!f) (K (Value.tuple [].toArray) e) (Y0 (Env.mk 14 [(0,a),(5,(Value.pointer (some b)))] []) e))):=by kernel_rfl
theorem f78_lb0_eq (b:Value) (a:Addr) (w:World) (K:KT) (Y0:YT):f78_lb0 b a w K Y0=((∃ c:World,(Instr.next (Value.pointer (some a)) false 0).run P w=.ok (.tuple #[.bool false]) c∧K (Value.tuple [].toArray) c)∨∃ (k9 e:Value) (d:World),(Instr.next (Value.pointer (some a)) false 0).run P w=.ok (.tuple #[.bool true,k9,e]) d∧f78_s1 b a d K Y0):=by kernel_rfl
theorem f78_eq (a:Value) (b:Addr) (w:World) (K:KT):f78 a b w K=(∃ c:Option Nat,w.cell? b=some (.map c)∧∃ (d:Nat) (e:World),(Instr.range 35 (Value.map c)).run P w=.ok (.pointer (some (Addr.mk d 0 none))) e∧LoopE (f78_lp0 K) (Env.mk 14 [(0,a),(5,(Value.pointer (some (Addr.mk d 0 none))))] []) e):=by kernel_rfl
theorem f78_ok (a:Value) (b:Addr) (w:World) (K:KT) (h:f78 a b w K):CallL P 78 [a,(Value.pointer (some b))] w K:=okCS c78 Tryz.func78 (by kernel_rfl) (by kernel_rfl) h
noncomputable def c46:Code:=bodyOf Tryz.f46
noncomputable def rs46:List ResultVar:=Tryz.f46.results.toList
abbrev f46_kb (K:KT):Exit→YT:=bodyK P rs46 K
def f46 (a:Option Nat) (w:World) (K:KT):Prop:=CS P c46 none [2] [2] (f46_kb K) (env0 4 [(Value.map a)]) w
theorem f46_eq (a:Option Nat) (w:World) (K:KT):f46 a w K=(NewC #[(Value.map a)] 35 w (fun b c=>K (Value.func (.func 78) #[] #[(Value.pointer (some (Addr.mk b 0 none)))]) c)):=by kernel_rfl
theorem f46_ok (a:Option Nat) (w:World) (K:KT) (h:f46 a w K):CallL P 46 [(Value.map a)] w K:=okCS c46 Tryz.func46 (by kernel_rfl) (by kernel_rfl) h
noncomputable def c15:Code:=bodyOf Tryz.f15
noncomputable def rs15:List ResultVar:=Tryz.f15.results.toList
abbrev f15_kb (K:KT):Exit→YT:=bodyK P rs15 K
def f15 (a:OA) (b c:Nat) (d:OA) (e f:Nat) (w:World) (K:KT):Prop:=CS P c15 none [4] [4] (f15_kb K) (env0 26 [(VS a b c),(VS d e f)]) w
def f15_s0 (a:OA) (b c:Nat) (d:OA) (e f:Nat) (w:World) (K:KT):Prop:=CS P (cA c15 1) none [4] [4] (f15_kb K) (Env.mk 26 [(0,(VS a b c)),(1,(VS d e f))] []) w
abbrev f15_k0 (K:KT):Exit→YT:=kseq P (cA c15 2) (cA c15 3) none [4] [4] (f15_kb K)
def f15_s1 (a:OA) (b c:Nat) (d:OA) (e f:Nat) (w:World) (K:KT):Prop:=CS P (cA c15 3) none [4] [4] (f15_kb K) (Env.mk 26 [(4,(VB false)),(0,(VS a b c)),(1,(VS d e f))] []) w
abbrev f15_k1 (K:KT):Exit→YT:=kseq P (cA c15 6) (cA c15 7) none [4] [4] (f15_kb K)
abbrev f15_k2 (K:KT):Exit→YT:=kseq P (cA c15 12) (cA c15 13) none [1,0,4] [4] (f15_k1 K)
def f15_s2 (a:OA) (b c:Nat) (d:OA) (f g:Nat) (h:Bool) (w:World) (K:KT):Prop:=SG P (cA c15 7) none [4] [4] (f15_kb K) (Env.mk 26 [(1,(VS a b c)),(0,(VS d f g)),(4,(VB h))] []) w
abbrev f15_k4 (K:KT):Exit→YT:=kseq P (cA c15 14) (cA c15 15) none [4] [4] (f15_kb K)
abbrev f15_k5 (K:KT):Exit→YT:=kseq P (cA c15 28) (cA c15 29) none [] [4] (f15_k4 K)
def f15_s3 (a:Int) (b:OA) (c d:Nat) (e:OA) (f g:Nat) (h:Bool) (w:World) (K:KT):Prop:=CS P (cA c15 29) none [] [4] (f15_k4 K) (Env.mk 26 [(5,(VI a)),(1,(VS b c d)),(0,(VS e f g)),(4,(VB h))] []) w
abbrev f15_k6 (K:KT):Exit→YT:=kblock 0 (f15_k4 K)
def f15_lp4 (K:KT) (Y4:YT) (e:Env) (w:World):Prop:=Join (fun e w=>CS P (cA c15 116) none [5,1,0,4] [4] (kloop [5,1,0,4] Y4 (f15_k6 K)) e w) e w
abbrev f15_kl4 (K:KT) (Y4:YT):Exit→YT:=kloop [5,1,0,4] Y4 (f15_k6 K)
def f15_lb4 (a:Int) (b:OA) (c d:Nat) (f:OA) (g h:Nat) (i:Bool) (w:World) (K:KT) (Y4:YT):Prop:=SG P (cA c15 116) none [5,1,0,4] [4] (f15_kl4 K Y4) (Env.mk 26 [(5,(VI a)),(1,(VS b c d)),(0,(VS f g h)),(4,(VB i))] []) w
abbrev f15_k7 (K:KT) (Y4:YT):Exit→YT:=kseq P (cA c15 232) (cA c15 233) none [5,1,0,4] [4] (f15_kl4 K Y4)
abbrev f15_k8 (K:KT) (Y4:YT):Exit→YT:=kseq P (cA c15 464) (cA c15 465) none [1,0,5,4] [4] (f15_k7 K Y4)
def f15_s5 (a:OA) (b c:Nat) (d:OA) (f g:Nat) (h:Int) (i:Bool) (w:World) (K:KT) (Y4:YT):Prop:=SG P (cA c15 233) none [5,1,0,4] [4] (f15_kl4 K Y4) (Env.mk 26 [(1,(VS a b c)),(0,(VS d f g)),(5,(VI h)),(4,(VB i))] []) w
abbrev f15_k9 (K:KT) (Y4:YT):Exit→YT:=kseq P (cA c15 466) (cA c15 467) none [5,1,0,4] [4] (f15_kl4 K Y4)
abbrev f15_k10 (K:KT) (Y4:YT):Exit→YT:=kblock 1 (f15_k9 K Y4)
abbrev f15_k11 (K:KT) (Y4:YT):Exit→YT:=kseq P (cA c15 1864) (cA c15 1865) none [1,0,4,5] [4,1,0,5] (f15_k10 K Y4)
def f15_s6 (a:OA) (b c:Nat) (d:OA) (f g:Nat) (h:Bool) (i:Int) (w:World) (K:KT) (Y4:YT):Prop:=SG P (cA c15 467) none [5,1,0,4] [4] (f15_kl4 K Y4) (Env.mk 26 [(1,(VS a b c)),(0,(VS d f g)),(4,(VB h)),(5,(VI i))] []) w
theorem f15_s6_eq (a:OA) (c d:Nat) (e:OA) (f g:Nat) (h:Bool) (i:Int) (w:World) (K:KT) (Y4:YT):f15_s6 a c d e f g h i w K Y4=(Y4 (Env.mk 26 [(5,(Value.int .i64 (IntKind.wrap .i64 ((i:Int)+1)))),(1,(Value.slice a c d)),(0,(Value.slice e f g)),(4,(Value.bool h))] []) w):=Eq.trans SGe (by kernel_rfl)
theorem f15_s5_eq (d:OA) (e h:Nat) (f:OA) (g i:Nat) (c:Int) (j:Bool) (w:World) (K:KT) (Y4:YT):f15_s5 d e h f g i c j w K Y4=(optS f (fun m=>0≤(c:Int)∧(c:Int) < (g:Nat)∧optS d (fun n=>0≤(c:Int)∧(c:Int) < (e:Nat)∧∃ k:Int,w.drew.cell? (m.add (Int.toNat c * 1))=some (.int .u32 k)∧∃ l:Int,w.drew.cell? (n.add (Int.toNat c * 1))=some (.int .u32 l)∧BIf ((k:Int) != l) (K (Value.bool false) w.drew) (f15_s6 d e h f g i j c w.drew K Y4)))):=Eq.trans SGe (Eq.trans (CSs [1,0,4,5] (f15_k9 K Y4) (by kernel_rfl)) (Eq.trans (CSb 1 [4,1,0,5] (f15_k10 K Y4) (by kernel_rfl)) (Eq.trans (CSs [25,1,0,5,4] (f15_k11 K Y4) (by kernel_rfl)) (by kernel_rfl))))
def f15_s7 (w:World) (K:KT):Prop:=SG P (cA c15 15) none [4] [4] (f15_kb K) (Env.mk 26 [] []) w
abbrev f15_k13 (K:KT):Exit→YT:=kseq P (cA c15 30) (cA c15 31) none [4] [4] (f15_kb K)
theorem f15_s7_eq (w:World) (K:KT):f15_s7 w K=(K (Value.bool true) w):=Eq.trans SGe (Eq.trans (CSs [4] (f15_k13 K) (by kernel_rfl)) (by kernel_rfl))
theorem f15_lb4_eq (c:Int) (g:OA) (h i:Nat) (d:OA) (e f:Nat) (j:Bool) (w:World) (K:KT) (Y4:YT):f15_lb4 c g h i d e f j w K Y4=(∃ k:Int,(∀ wq,Ext w wq→(Builtin.len_ #[49] 3 [(Value.slice d e f)].toArray).run P wq=.ok (.int .i64 k) wq)∧BIf (decide ((c:Int) < k)) (f15_s5 g h i d e f c j w K Y4) (f15_s7 w K)):=Eq.trans SGe (Eq.trans (CSs [1,0,5,4] (f15_k7 K Y4) (by kernel_rfl)) (Eq.trans (CSs [14,1,0,5,4] (f15_k8 K Y4) (by kernel_rfl)) (by kernel_rfl)))
theorem f15_s3_eq (a:Int) (c:OA) (d e:Nat) (f:OA) (g h:Nat) (i:Bool) (w:World) (K:KT):f15_s3 a c d e f g h i w K=(LoopE (f15_lp4 K) (Env.mk 26 [(5,(Value.int .i64 a)),(1,(Value.slice c d e)),(0,(Value.slice f g h)),(4,(Value.bool i))] []) w):=Eq.trans (b:=CS P (cA c15 29) none [] [4] (f15_k4 K) (Env.mk 26 [(5,(VI a)),(1,(VS c d e)),(0,(VS f g h)),(4,(VB i))] []) w) (by kernel_rfl) (Eq.trans (CSb 0 [4] (f15_k6 K) (by kernel_rfl)) ((CS_loop' (b:=(cA c15 116)) (X':=[4]) (H:=[5,1,0,4]) (by kernel_rfl) (by kernel_rfl) (by kernel_rfl)).trans (by kernel_rfl)))
theorem f15_s2_eq (c:OA) (d e:Nat) (f:OA) (g h:Nat) (i:Bool) (w:World) (K:KT):f15_s2 c d e f g h i w K=(f15_s3 0 c d e f g h i w K):=Eq.trans SGe (Eq.trans (CSs [] (f15_k4 K) (by kernel_rfl)) (Eq.trans (CSs [5,1,0,4] (f15_k5 K) (by kernel_rfl)) (by kernel_rfl)))
theorem f15_s1_eq (c:OA) (d e:Nat) (f:OA) (g h:Nat) (w:World) (K:KT):f15_s1 c d e f g h w K=(∃ i:Int,(∀ wq,Ext w wq→(Builtin.len_ #[49] 3 [(Value.slice c d e)].toArray).run P wq=.ok (.int .i64 i) wq)∧∃ j:Int,(∀ wq,Ext w wq→(Builtin.len_ #[49] 3 [(Value.slice f g h)].toArray).run P wq=.ok (.int .i64 j) wq)∧BIf ((i:Int) != j) (K (Value.bool false) w) (f15_s2 f g h c d e false w K)):=Eq.trans (b:=CS P (cA c15 3) none [4] [4] (f15_kb K) (Env.mk 26 [(4,(VB false)),(0,(VS c d e)),(1,(VS f g h))] []) w) (by kernel_rfl) (Eq.trans (CSs [1,0,4] (f15_k1 K) (by kernel_rfl)) (Eq.trans (CSs [10,1,0,4] (f15_k2 K) (by kernel_rfl)) (by kernel_rfl)))
theorem f15_s0_eq (c:OA) (d e:Nat) (f:OA) (g h:Nat) (w:World) (K:KT):f15_s0 c d e f g h w K=(f15_s1 c d e f g h w K):=Eq.trans (b:=CS P (cA c15 1) none [4] [4] (f15_kb K) (Env.mk 26 [(0,(VS c d e)),(1,(VS f g h))] []) w) (by kernel_rfl) (Eq.trans (CSs [1,0,4] (f15_k0 K) (by kernel_rfl)) (by kernel_rfl))
theorem f15_eq (a:OA) (b c:Nat) (d:OA) (e f:Nat) (w:World) (K:KT):f15 a b c d e f w K=(f15_s0 a b c d e f w K):=by kernel_rfl
theorem f15_ok (a:OA) (b c:Nat) (d:OA) (e f:Nat) (w:World) (K:KT) (h:f15 a b c d e f w K):CallL P 15 [(Value.slice a b c),(Value.slice d e f)] w K:=okCS c15 Tryz.func15 (by kernel_rfl) (by kernel_rfl) h
end Go.Fx.Tryz
namespace Go.Fx.Tryz
open Go Go.Fx Go.Fx.Mo
open Go.Proofs
open Go.Sort (ltInt pdq bitsLen)
variable {w0 w:World} {H:HL} {K:KT}
set_option maxRecDepth 20000
theorem keys122_ok {v0:Value} {b1 mb clk:Nat} {t1:TypeId} {es:Array MapEntry} {X0:HL} (Fr:List Int→List (Nat × Obj)→Prop) (h:St w0 w X0) (hF0:Fr [] X0)
  (hFm:∀ vis X,Fr vis X→(b1,Cs [.map (some mb)] t1)∈X∧(mb,.map es clk)∈X) (hst:MapKept.Stamped es clk) (hks:∀ e∈es.toList,∃ k:Int,e.key=.int .u32 k)
  (hy:∀ vis k W X it o,vis.length < es.size→Fr vis X→w0.heap.size≤it→St w0 W ((it,o)::X)→CallF P v0 [.int .u32 k] W fun r W'=>r=.bool true∧∃ X',Fr (vis++[k]) X'∧St w0 W' ((it,o)::X'))
  (hK:∀ W vis X it o,(es.toList.map (·.key)).Perm (vis.map encU)→Fr vis X→w0.heap.size≤it→St w0 W ((it,o)::X)→K (.tuple [].toArray) W) :
  CallL P 78 [v0,.pointer (some (Addr.mk b1 0 none))] w K:=by
 refine f78_ok _ _ _ _ ?_
 rw [f78_eq]
 refine ⟨some mb,by rw [cell_of (h.has _ _ (hFm _ _ hF0).1)]; rfl,w.heap.size,_,run_range mapType124 (h.has _ _ (hFm _ _ hF0).2),?_⟩
 have hit:=h.le
 have h1:=h.alloc (.mapIter (some mb) clk #[] clk)
 generalize hi:w.heap.size=it at hit h1
 refine LoopE_map (es:=es) (fun vis seen w'=>∃ ks X,vis.map (·.key)=ks.map encU∧Fr ks X∧St w0 w' ((it,.mapIter (some mb) clk seen clk)::X)) ⟨[],X0,rfl,hF0,h1⟩ ?_ ?_
 ·rintro vis seen w1 hv ⟨ks,X,hk,hF,hw⟩ Y
  show f78_lb0 ..
  rw [f78_lb0_eq]
  refine .inl ⟨w1,run_next_over (hw.get (k:=0) rfl) (hw.has _ _ (.tail _ (hFm _ _ hF).2)) hst hv.over,hK w1 ks X it _ ?_ hF hit hw⟩
  rw [← hk]
  have:=hv.perm.map (·.key)
  rwa [List.append_nil] at this
 ·rintro vis rem seen w1 hr hv ⟨ks,X,hk,hF,hw⟩ Y hY
  show f78_lb0 ..
  rw [f78_lb0_eq]
  have hm:=hw.has _ _ (.tail _ (hFm _ _ hF).2)
  obtain ⟨e,w2,he,hn,hw2,hk2,hrun⟩:=run_next_some (P:=P) (hw.get (k:=0) rfl) hm hst (hv.more hst hr)
  obtain ⟨k,hek⟩:=hks e he
  have h3:St w0 (w2.putObj it (.mapIter (some mb) clk (seen.push e.born) clk)) ((it,.mapIter (some mb) clk (seen.push e.born) clk)::X):=(hw.same hw2 hk2).put (k:=0) rfl _
  refine .inr ⟨_,_,_,hrun,?_⟩
  rw [f78_s1_eq]
  refine ⟨e.key,e.val,_,run_entry (h3.get (k:=0) rfl) (h3.has _ _ (.tail _ (hFm _ _ hF).2)) (by simp) (find_born hst he),k,hek,?_⟩
  have hlt:ks.length < es.size:=by
   have h5:=hv.perm.length_eq
   have h6:=congrArg List.length hk
   have h7:0 < rem.length:=List.length_pos_iff.2 hr
   simp at h5 h6
   omega
  refine CallF_mono ?_ (hy ks k _ X it _ hlt hF hit h3)
  rintro r W' ⟨rfl,X',hF',h4⟩
  refine ⟨true,rfl,?_⟩
  rw [Bool.not_true,BIf_false]
  exact hY e W' he hn ⟨ks++[k],X',by rw [List.map_append,List.map_append,hk]; simp [hek],hF',h4⟩
theorem en122:enterable P 78=true:=by kernel_rfl
theorem range_keys {KK:Exit→YT} {e:Env} {round:Nat→(LoopState→Option Code→Loop)→(Option Code→World→Prop)→List Value→World→Prop}
  (h:St w0 w H) {b1 mb clk:Nat} {t1:TypeId} {es:Array MapEntry} (hst:MapKept.Stamped es clk) (hks:∀ e∈es.toList,∃ k:Int,e.key=.int .u32 k)
  (I:List Int→List (Nat × Obj)→Prop) (I0:I [] H) (hI:∀ vis H',I vis H'→(b1,Cs [.map (some mb)] t1)∈H'∧(mb,.map es clk)∈H')
  (hround:∀ l l' R post vis k W H' it o,vis.length < es.size→I vis H'→St w0 W ((l,.loop (R .ready none))::(l',.deferred (some []))::(it,o)::H')→w0.heap.size≤l→w0.heap.size≤l'→w0.heap.size≤it→
   (∀ W' H'',I (vis++[k]) H''→St w0 W' ((l,.loop (R .ready none))::(l',.deferred (some []))::(it,o)::H'')→post none W')→round l R post [.int .u32 k] W)
  (hend:∀ W H' l' vis,w0.heap.size≤l'→(es.toList.map (·.key)).Perm (vis.map encU)→I vis H'→St w0 W ((l',.deferred (some []))::H')→KK .normal { e with d:=mk l'::e.d } W) :
  RangeC P KK e w (.func (.func 78) #[] #[.pointer (some (Addr.mk b1 0 none))]) round:=by
 refine ⟨en122,fun R hy=>?_⟩
 have h1:=(h.alloc (.deferred (some []))).alloc (.loop (R .ready none))
 have hsz:(w.alloc (.deferred (some []))).heap.size=w.heap.size+1:=by simp
 rw [hsz] at h1
 have hle:w0.heap.size≤w.heap.size:=h.le
 refine keys122_ok (mb:=mb) (t1:=t1) (fun vis X=>∃ H',I vis H'∧X=(w.heap.size+1,.loop (R .ready none))::(w.heap.size,.deferred (some []))::H') h1 ⟨H,I0,rfl⟩ ?_ hst hks ?_ ?_
 ·rintro vis X ⟨H',hi,rfl⟩
  exact ⟨.tail _ (.tail _ (hI vis H' hi).1),.tail _ (.tail _ (hI vis H' hi).2)⟩
 ·rintro vis k W X it o hlt ⟨H',hi,rfl⟩ hit hs
  have hs':St w0 W ((w.heap.size+1,.loop (R .ready none))::(w.heap.size,.deferred (some []))::(it,o)::H'):=hs.perm ((List.Perm.swap _ _ _).trans ((List.Perm.swap _ _ _).cons _))
  refine CallF_mono ?_ (hy [.int .u32 k] W (fun j W'=>match j with
   | none=>∃ H'',I (vis++[k]) H''∧St w0 W' ((w.heap.size+1,.loop (R .ready none))::(w.heap.size,.deferred (some []))::(it,o)::H'')
   | some _=>False)
   (hround _ _ R _ vis k W H' it o hlt hi hs' (by omega) (by omega) hit (fun W' H'' h1 h2=>⟨H'',h1,h2⟩)) (hs'.get (k:=0) rfl))
  rintro v W' ⟨j,rfl,hj⟩
  cases j with
  | none=>
   obtain ⟨H'',h2,h3⟩:=hj
   exact ⟨rfl,_,⟨H'',h2,rfl⟩,h3.perm (((List.Perm.swap _ _ _).cons _).trans (List.Perm.swap _ _ _))⟩
  | some c=>exact hj.elim
 ·rintro W vis X it o hp ⟨H',hi,rfl⟩ hit hs
  have hs:=hs.tail hit
  refine ⟨.ready,none,hs.get (k:=0) rfl,by simp,?_⟩
  exact hend _ H' _ vis hle hp hi ((hs.put (k:=0) rfl _).tail (by omega))
theorem leave_132 (sa:Option Addr) (sl sc:Nat) (v2:Value) (r:List (Nat × Value)) (d0:List Deferred) (w:World) (K:KT) :
  LeaveS P rs98 (Env.mk 13 ((4,(Value.slice sa sl sc))::(12,v2)::r) d0) K [] w=K (Value.slice sa sl sc) w:=by kernel_rfl
theorem collect_ok {b1 mb clk:Nat} {t1:TypeId} {es:Array MapEntry} (h:St w0 w H) (hb:(b1,Cs [.map (some mb)] t1)∈H) (hm:(mb,.map es clk)∈H) (hst:MapKept.Stamped es clk) (hks:∀ e∈es.toList,∃ k:Int,e.key=.int .u32 k) (hn:es.size < 1000000)
  (hK:∀ w' a c (ks:List Int) Lo,(es.toList.map (·.key)).Perm (ks.map encU)→SlO 1 43 (.slice a ks.length c) ks.length (ks.map encU) Lo→New w0 Lo→St w0 w' (Lo++H)→K (.slice a ks.length c) w') :
  CallL P 76 [.func (.func 78) #[] #[.pointer (some (Addr.mk b1 0 none))]] w K:=by
 refine f76_ok _ _ _ ?_
 rw [f76_eq]
 refine f98_ok _ _ _ _ _ _ ?_
 rw [f98_eq]
 refine h.newC fun n2 w1 hn2 h1=>?_
 have h1:St w0 w1 ((n2,Cs [.slice none 0 0] 49)::H):=h1
 refine range_keys (mb:=mb) (t1:=t1) h1 hst hks (fun vis H'=>vis.length≤es.size∧∃ oa oc Lo,H'=(n2,Cs [.slice oa vis.length oc] 49)::(Lo++H)∧SlO 1 43 (.slice oa vis.length oc) vis.length (vis.map encU) Lo∧New w0 Lo)
  ⟨Nat.zero_le _,none,0,[],rfl,SlO.nil 1 43,New.nil w0⟩ ?_ ?_ ?_
 ·rintro vis H' ⟨_,oa,oc,Lo,rfl,_,_⟩
  exact ⟨.tail _ (List.mem_append_right _ hb),.tail _ (List.mem_append_right _ hm)⟩
 ·rintro l l' R post vis k W H' it o hlt ⟨hvl,oa,oc,Lo,rfl,hS,hN⟩ hs hl hl' hit hpost
  rw [f98_rd0_eq]
  refine ⟨rfl,?_⟩
  rw [f98_ra0_eq]
  refine ⟨hs.get (k:=0) rfl,?_⟩
  have h2:=hs.put (k:=0) rfl (.loop (R .busy none))
  rw [f98_s1_eq]
  refine ⟨oa,vis.length,oc,h2.cell (k:=3) rfl,⟨rfl,trivial⟩,h2.newC fun n13 w3 hn13 h3=>?_⟩
  have h3:St w0 w3 ([(n13,Cs [encU k] 43),(l,.loop (R .busy none)),(l',.deferred (some [])),(it,o),(n2,Cs [.slice oa vis.length oc] 49)]++(Lo++H)):=h3
  obtain ⟨ga,cap,w4,L',hr,hS',h4,hN'⟩:=St.append (P:=P) 49 49 43 Tryz.t43 (.int .u32 0) 1 4 Tryz.underlying49 (by kernel_rfl) rfl rfl rfl rfl (by omega) (xs:=vis.map encU)
   (A:=[(n13,Cs [encU k] 43),(l,.loop (R .busy none)),(l',.deferred (some [])),(it,o),(n2,Cs [.slice oa vis.length oc] 49)]) (news:=[encU k]) h3 hS hN (j:=0) rfl rfl (fun u hu=>by rw [List.mem_singleton.1 hu]; rfl) (by simp [maxLen]; omega) (by omega)
  refine ⟨_,_,_,w4,hr,?_⟩
  have h4:St w0 w4 ((n13,Cs [encU k] 43)::(l,.loop (R .busy none))::(l',.deferred (some []))::(it,o)::(n2,Cs [.slice oa vis.length oc] 49)::(L'++H)):=h4
  refine h4.st1 (k:=4) rfl (by simp) rfl fun w5 h5=>⟨h5.get (k:=1) rfl,?_⟩
  have h6:=(h5.put (k:=1) rfl (.loop (R .ready none))).tail hn13
  have e1:(vis++[k]).length=vis.length+1:=by simp
  have e2:(vis++[k]).map encU=vis.map encU++[encU k]:=by simp
  refine hpost _ ((n2,Cs [.slice (some ⟨ga,0,none⟩) (vis.length+1) cap] 49)::(L'++H)) ⟨by omega,_,cap,L',by rw [e1],by rw [e1,e2]; exact hS',hN'⟩ h6
 ·rintro W H' l' vis hl' hp ⟨_,oa,oc,Lo,rfl,hS,hN⟩ hs
  show f98_rn0 ..
  rw [f98_rn0_eq,f98_s2_eq]
  refine ⟨oa,vis.length,oc,hs.cell (k:=1) rfl,?_⟩
  refine ⟨hs.get (k:=0) rfl,?_⟩
  have h5:=hs.put (k:=0) rfl (.deferred none)
  rw [leave_132]
  refine ⟨oa,_,oc,rfl,hK _ oa oc vis Lo hp hS hN ?_⟩
  exact (h5.tail hl').tail hn2
theorem run_len_101 {p:Option Addr} {l c:Nat} (wq:World):(Builtin.len_ #[49] 3 [Value.slice p l c].toArray).run P wq=.ok (.int .i64 l) wq:=run_len_slice p l c Tryz.underlying49 3
theorem len_ok (h:St w0 w H) {n:Nat} (hn:n < 4611686018427387904) (hK:∀ w',St w0 w' H→K (I64 (bitsLen n:Nat)) w'):CallL P 89 [.int .u64 (n:Nat)] w K:=by
 refine CallL_of (Any.bits_Len (Go.Proofs.SlLaysF0.n15.bits (P:=P) (ρ:=Tryz.sortR_ren) { Tryz.sortR with }) (n:Int) w (by omega) (by omega)) ?_
 rintro e w' ⟨rfl,rfl⟩
 refine ⟨_,rfl,?_⟩
 have:=hK w' h
 rw [Int.toNat_natCast,Go.Proofs.bitLen_eq _ (by omega)]
 exact this
theorem sortN_ok {a:Option Addr} {c:Nat} {ks:List Int} {Lo:HL} (h:St w0 w (Lo++H)) (hS:SlO 1 43 (.slice a ks.length c) ks.length (ks.map encU) Lo) (hn:ks.length < 1000000)
  (hK:∀ w' Lo',SlO 1 43 (.slice a ks.length c) ks.length ((ks.mergeSort fun x y=>decide (x≤y)).map encU) Lo'→(New w0 Lo→New w0 Lo')→St w0 w' (Lo'++H)→K (.tuple [].toArray) w') :
  CallL P 77 [.slice a ks.length c] w K:=by
 refine f77_ok _ _ _ _ _ ?_
 rw [f77_eq]
 refine ⟨ks.length,fun wq _=>run_len_101 wq,?_⟩
 have e6:IntKind.wrap .u64 (ks.length:Int)=(ks.length:Int):=by
  simp only [IntKind.wrap,IntKind.bits,IntKind.signed]
  simp
  omega
 rw [e6]
 refine len_ok h (by omega) fun w1 h1=>⟨_,rfl,?_⟩
 have hbl:bitsLen ks.length≤62:=(Go.Sort.bitsLen_le_iff _ 62).2 (by omega)
 rcases hS.2 with ⟨e1,e2,e3⟩ | ⟨g,cap,cur,e1,rfl,h3,h4,h5,h6⟩
 ·-- no number
  have hz:ks=[]:=List.eq_nil_of_length_eq_zero e2
  subst hz
  obtain ⟨rfl,rfl⟩:a=none∧c=0:=by simpa using e1
  subst e3
  refine f99_ok _ _ _ _ _ _ _ _ ?_
  rw [f99_eq,f99_s0_eq,f99_s1_eq,f99_s2_eq]
  refine ⟨fun m ee w=>m=0∧ee=Env.mk 134 [(2,(Value.int .i64 0)),(1,(Value.int .i64 0)),(0,(Value.slice none 0 0)),(9,(Value.bool true)),(8,(Value.bool true)),(3,(Value.int .i64 (bitsLen 0:Nat)))] []∧St w0 w H,⟨0,rfl,rfl,h1⟩,?_⟩
  rintro m ee w2 ⟨rfl,rfl,h2⟩
  show f99_lb3 ..
  rw [f99_lb3_eq,show IntKind.wrap .i64 ((0:Int) - 0)=0 by decide,show decide ((0:Int)≤12)=true by decide,BIf_true]
  refine f117_ok _ _ _ _ _ _ _ ?_
  rw [f117_eq,f117_s0_eq,f117_s1_eq]
  refine ⟨fun m ee w=>m=0∧ee=Env.mk 49 [(0,(Value.slice none 0 0)),(6,(Value.int .i64 1)),(1,(Value.int .i64 0)),(2,(Value.int .i64 0))] []∧St w0 w H,⟨0,rfl,rfl,h2⟩,?_⟩
  rintro m ee w3 ⟨rfl,rfl,h3⟩
  show f117_lb2 ..
  rw [f117_lb2_eq,show decide ((1:Int) < 0)=false by decide,BIf_false]
  exact ⟨rfl,rfl,hK w3 [] (by simpa using hS) (fun hN=>hN) h3⟩
 ·obtain ⟨rfl,rfl⟩:a=some ⟨g,0,none⟩∧c=cap:=by simpa using e1
  have hcur:cur=uCs ks.toArray (cur.drop ks.length):=by
   have:cur.take (ks.length * 1)=ks.map encU:=h6
   rw [Nat.mul_one] at this
   show cur=ks.toArray.toList.map encU++cur.drop ks.length
   rw [List.toList_toArray,← this,List.take_append_drop]
  have h1:St w0 w1 ((g,Cs cur 43)::H):=h1
  generalize hz:cur.drop ks.length=z at hcur
  have hzl:z.length=c - ks.length:=by rw [← hz,List.length_drop,h5]; omega
  subst hcur
  have hsz:ks.toArray.size=ks.length:=by simp
  rw [← hsz]
  rw [← hsz] at hbl
  refine pdq_ok (a:=0) (b:=ks.toArray.size) (limit:=bitsLen ks.toArray.size) (ks.toArray.size+1) (by omega) h1 (by omega) (by omega) (by omega) (by omega) (.inl rfl) fun w2 h2=>⟨rfl,?_⟩
  have hs:(pdq ltInt ks.toArray 0 ks.toArray.size (bitsLen ks.toArray.size) true true).toList=ks.mergeSort (fun x y=>decide (x≤y)):=Go.Sort.sortInt ks
  refine hK w2 [(g,Cs (uCs (pdq ltInt ks.toArray 0 ks.toArray.size (bitsLen ks.toArray.size) true true) z) 43)] ?_ (fun hN=>by simpa [New] using hN) h2
  rw [hsz] at hs ⊢
  refine ⟨by simp,.inr ⟨g,c,_,rfl,rfl,h3,h4,?_,?_⟩⟩
  ·show (List.map encU _++z).length=_
   rw [hs,List.length_append,List.length_map,List.length_mergeSort,hzl]
   omega
  ·show (List.map encU _++z).take _=_
   rw [hs,List.take_left' (by simp)]
end Go.Fx.Tryz
namespace Go.Fx.Tryz
set_option maxRecDepth 100000
open Go Go.Fx Go.Proofs
noncomputable def c8:Code:=bodyOf Tryz.f8
noncomputable def c45:Code:=bodyOf Tryz.f45
noncomputable def rs45:List ResultVar:=Tryz.f45.results.toList
abbrev f45_kb (K:KT):Exit→YT:=bodyK P rs45 K
def f45 (a:Value) (w:World) (K:KT):Prop:=CS P c45 none [2] [2] (f45_kb K) (env0 9 [a]) w
theorem f45_eq (d:Value) (w:World) (K:KT):f45 d w K=(CallL P 76 [d] w (fun e f=>∃ (a:OA) (b c:Nat),e=(.slice a b c)∧CallL P 77 [(Value.slice a b c)] f (fun g h=>g=(.tuple [].toArray)∧K (Value.slice a b c) h))):=by kernel_rfl
theorem f45_ok (a:Value) (w:World) (K:KT) (h:f45 a w K):CallL P 45 [a] w K:=okCS c45 Tryz.func45 (by kernel_rfl) (by kernel_rfl) h
end Go.Fx.Tryz
namespace Go.Fx.Mo
end Go.Fx.Mo
namespace Go.Fx.Tryz
open Go Go.Fx Go.Fx.Mo
open Go.Proofs
variable {w0 w:World} {H:HL} {K:KT}
set_option maxRecDepth 20000
theorem keys_perm {es:Array MapEntry} {clk:Nat} {m:List (Int × Bool)} (hm:MapIs encU es clk (encM Value.bool m)) {ks:List Int} (hp:(es.toList.map (·.key)).Perm (ks.map encU)):ks.Perm (m.map (·.1)):=by
 have h1:=hm.perm.map (·.1)
 have e1:(es.toList.map fun e=>(e.key,e.val)).map (·.1)=es.toList.map (·.key):=by rw [List.map_map]; rfl
 have e2:((encM Value.bool m).map fun p=>(encU p.1,p.2)).map (·.1)=(m.map (·.1)).map encU:=by
  unfold encM
  rw [List.map_map,List.map_map,List.map_map]
  rfl
 rw [e1,e2] at h1
 have h2:=(hp.symm.trans h1).map fun v:Value=>match v with
  | .int _ n=>n
  | _=>0
 rw [List.map_map,List.map_map] at h2
 have e3:((fun v:Value=>match v with
  | .int _ n=>n
  | _=>0) ∘ encU)=id:=rfl
 rw [e3,List.map_id,List.map_id] at h2
 exact h2
theorem sort_perm {a b:List Int} (h:a.Perm b):a.mergeSort (fun x y=>decide (x≤y))=b.mergeSort (fun x y=>decide (x≤y)):=by
 have tr:∀ x y z:Int,decide (x≤y)=true→decide (y≤z)=true→decide (x≤z)=true:=fun x y z h1 h2=>by simp at *; omega
 have to:∀ x y:Int,(decide (x≤y) || decide (y≤x))=true:=fun x y=>by simp; omega
 have h1:=List.pairwise_mergeSort tr to a
 have h2:=List.pairwise_mergeSort tr to b
 exact List.Perm.eq_of_pairwise (le:=fun x y=>decide (x≤y)=true) (fun x y _ _ h1 h2=>by simp at *; omega) h1 h2 (((List.mergeSort_perm a _).trans h).trans (List.mergeSort_perm b _).symm)
end Go.Fx.Tryz
namespace Go.Fx.Mo
def PVal (p:Prt):Prop:=0≤p.1∧p.1 < p.2∧p.2≤4294967296
structure PA (ps:List Prt):Prop where
 val:∀ p∈ps,PVal p
 ord:ps.Pairwise fun p q=>p.2 < q.1
def inP (ps:List Prt) (b:Int):Prop:=∃ p∈ps,p.1≤b∧b < p.2
theorem inP_app (ps qs:List Prt) (b:Int):inP (ps++qs) b↔inP ps b∨inP qs b:=by
 unfold inP
 constructor
 ·rintro ⟨p,hp,h⟩
  rcases List.mem_append.1 hp with hp | hp
  ·exact .inl ⟨p,hp,h⟩
  ·exact .inr ⟨p,hp,h⟩
 ·rintro (⟨p,hp,h⟩ | ⟨p,hp,h⟩)
  ·exact ⟨p,List.mem_append_left _ hp,h⟩
  ·exact ⟨p,List.mem_append_right _ hp,h⟩
theorem inP_cons (p:Prt) (qs:List Prt) (b:Int):inP (p::qs) b↔(p.1≤b∧b < p.2)∨inP qs b:=by
 have:=inP_app [p] qs b
 rw [List.singleton_append] at this
 rw [this]
 unfold inP
 simp
theorem inP_nil (b:Int):¬ inP [] b:=by rintro ⟨p,hp,_⟩; cases hp
theorem PA.app {ps qs:List Prt}:PA (ps++qs)↔PA ps∧PA qs∧∀ p∈ps,∀ q∈qs,p.2 < q.1:=by
 constructor
 ·rintro ⟨h1,h2⟩
  obtain ⟨a,b,c⟩:=List.pairwise_append.1 h2
  exact ⟨⟨fun p hp=>h1 p (List.mem_append_left _ hp),a⟩,⟨fun p hp=>h1 p (List.mem_append_right _ hp),b⟩,c⟩
 ·rintro ⟨⟨h1,h2⟩,⟨h3,h4⟩,h5⟩
  refine ⟨fun p hp=>?_,List.pairwise_append.2 ⟨h2,h4,h5⟩⟩
  rcases List.mem_append.1 hp with hp | hp
  ·exact h1 p hp
  ·exact h3 p hp
theorem PA.one {p:Prt} (h:PVal p):PA [p]:=⟨by simpa using h,by simp⟩
theorem PA.cons {p:Prt} {qs:List Prt}:PA (p::qs)↔PVal p∧PA qs∧∀ q∈qs,p.2 < q.1:=by
 have:=PA.app (ps:=[p]) (qs:=qs)
 rw [List.singleton_append] at this
 rw [this]
 constructor
 ·rintro ⟨h1,h2,h3⟩
  exact ⟨h1.val p (by simp),h2,fun q hq=>h3 p (by simp) q hq⟩
 ·rintro ⟨h1,h2,h3⟩
  refine ⟨PA.one h1,h2,fun r hr q hq=>?_⟩
  have:r=p:=by simpa using hr
  rw [this]
  exact h3 q hq
theorem mFold_done:∀ (l o:List Prt) (x:Prt),PVal x→(∀ q∈l,x.2 < q.1)→(∀ q∈l,PVal q)→mFold l (o,true,x)=(o++l,true,x)
 | [],o,x,_,_,_=>by simp [mFold]
 | p::t,o,x,hx,h1,h2=>by
  have hp:=h1 p (by simp)
  have hv:=h2 p (by simp)
  unfold PVal at hx hv
  have:mStep (o,true,x) p=(o++[p],true,x):=by
   unfold mStep
   dsimp only
   rw [if_neg (by omega),if_pos (by omega)]
   rfl
  unfold mFold
  rw [this,mFold_done t _ x hx (fun q hq=>h1 q (by simp [hq])) (fun q hq=>h2 q (by simp [hq]))]
  simp
def mEnd (s:List Prt × Bool × Prt):List Prt:=if s.2.1 then s.1 else s.1++[s.2.2]
theorem mFold_ok:∀ (l o:List Prt) (x:Prt),PA (o++l)→PVal x→(∀ p∈o,p.2 < x.1)→PA (mEnd (mFold l (o,false,x)))∧∀ b,inP (mEnd (mFold l (o,false,x))) b↔inP (o++l) b∨(x.1≤b∧b < x.2)
 | [],o,x,h,hx,ho=>by
  have e:mEnd (mFold [] (o,false,x))=o++[x]:=rfl
  rw [e,List.append_nil]
  rw [List.append_nil] at h
  refine ⟨PA.app.2 ⟨h,PA.one hx,fun p hp q hq=>?_⟩,fun b=>?_⟩
  ·have:q=x:=by simpa using hq
   rw [this]
   exact ho p hp
  ·rw [inP_app,inP_cons]
   have:=inP_nil b
   simp [this]
 | p::t,o,x,h,hx,ho=>by
  obtain ⟨a1,a2,a3⟩:=PA.app.1 h
  obtain ⟨c1,c2,c3⟩:=PA.cons.1 a2
  have hx':=hx
  have c1':=c1
  unfold PVal at hx' c1'
  by_cases h1:p.2 < x.1
  ·have e:mFold (p::t) (o,false,x)=mFold t (o++[p],false,x):=by
    show mFold t (mStep (o,false,x) p)=_
    unfold mStep
    rw [if_pos h1]
   have e2:o++p::t=(o++[p])++t:=by simp
   rw [e,e2]
   rw [e2] at h
   refine mFold_ok t (o++[p]) x h hx fun q hq=>?_
   rcases List.mem_append.1 hq with hq | hq
   ·exact ho q hq
   ·have:q=p:=by simpa using hq
    rw [this]; exact h1
  ·by_cases h2:p.1 > x.2
   ·have e:mFold (p::t) (o,false,x)=mFold t (o++[x]++[p],true,x):=by
     show mFold t (mStep (o,false,x) p)=_
     unfold mStep
     rw [if_neg h1,if_pos h2]
     rfl
    have e2:mEnd (mFold (p::t) (o,false,x))=o++(x::p::t):=by
     rw [e,mFold_done t _ x hx (fun q hq=>by have:=c3 q hq; omega) c2.val]
     unfold mEnd
     simp
    rw [e2]
    refine ⟨PA.app.2 ⟨a1,PA.cons.2 ⟨hx,a2,fun q hq=>?_⟩,fun r hr q hq=>?_⟩,fun b=>?_⟩
    ·rcases List.mem_cons.1 hq with rfl | hq
     ·omega
     ·have:=c3 q hq; omega
    ·rcases List.mem_cons.1 hq with rfl | hq
     ·exact ho r hr
     ·exact a3 r hr q hq
    ·rw [inP_app,inP_app,inP_cons x (p::t)]
     constructor
     ·rintro (hq | hq | hq)
      ·exact .inl (.inl hq)
      ·exact .inr hq
      ·exact .inl (.inr hq)
     ·rintro ((hq | hq) | hq)
      ·exact .inl hq
      ·exact .inr (.inr hq)
      ·exact .inr (.inl hq)
   ·have e:mFold (p::t) (o,false,x)=mFold t (o,false,(if p.1 < x.1 then p.1 else x.1,if x.2 < p.2 then p.2 else x.2)):=by
     show mFold t (mStep (o,false,x) p)=_
     unfold mStep
     rw [if_neg h1,if_neg h2]
    rw [e]
    have hnew:PVal (if p.1 < x.1 then p.1 else x.1,if x.2 < p.2 then p.2 else x.2):=by
     unfold PVal
     dsimp only
     split <;> split <;> omega
    obtain ⟨k1,k2⟩:=mFold_ok t o _ (PA.app.2 ⟨a1,c2,fun r hr q hq=>a3 r hr q (by simp [hq])⟩) hnew fun q hq=>by
     have q1:=ho q hq
     have q2:=a3 q hq p (by simp)
     dsimp only
     split <;> omega
    refine ⟨k1,fun b=>?_⟩
    rw [k2 b,inP_app,inP_app,inP_cons]
    have hb:((if p.1 < x.1 then p.1 else x.1)≤b∧b < (if x.2 < p.2 then p.2 else x.2))↔(p.1≤b∧b < p.2)∨(x.1≤b∧b < x.2):=by
     split <;> split <;> omega
    dsimp only
    rw [hb]
    constructor
    ·rintro ((hq | hq) | hq | hq)
     ·exact .inl (.inl hq)
     ·exact .inl (.inr (.inr hq))
     ·exact .inl (.inr (.inl hq))
     ·exact .inr hq
    ·rintro ((hq | hq | hq) | hq)
     ·exact .inl (.inl hq)
     ·exact .inr (.inl hq)
     ·exact .inl (.inr hq)
     ·exact .inr (.inr hq)
theorem merged_PA {ps:List Prt} {x:Prt} (h:PA ps) (h0:0≤x.1) (h1:x.2≤4294967296):PA (merged ps x)∧∀ b,inP (merged ps x) b↔inP ps b∨(x.1≤b∧b < x.2):=by
 unfold merged
 by_cases hx:x.1≥x.2
 ·rw [if_pos hx]
  refine ⟨h,fun b=>?_⟩
  constructor
  ·exact fun hq=>.inl hq
  ·rintro (hq | hq)
   ·exact hq
   ·omega
 ·rw [if_neg hx]
  have:=mFold_ok ps [] x h ⟨h0,by omega,h1⟩ (by simp)
  rw [List.nil_append] at this
  exact this
theorem pStep_PA {ps:List Prt} {e:Ev} (h:PA ps) (ha:0≤e.a∧e.a < 4294967296) (hn:acs e=true→0≤e.n∧e.n≤65536):PA (pStep ps e)∧∀ b,inP (pStep ps e) b↔inP ps b∨(0≤b∧b < 4294967296∧has e b=true):=by
 unfold pStep
 by_cases hac:acs e=true
 ·rw [if_pos hac]
  have hn:=hn hac
  rw [w64_small (x:=e.a) (by omega) (by omega),w64_small (x:=e.a+e.n) (by omega) (by omega),w64_small (x:=e.a+e.n - 4294967296) (by omega) (by omega)]
  obtain ⟨k1,k2⟩:=merged_PA (x:=(e.a,if 4294967296 < e.a+e.n then 4294967296 else e.a+e.n)) h ha.1 (by dsimp only; split <;> omega)
  obtain ⟨k3,k4⟩:=merged_PA (x:=(0,e.a+e.n - 4294967296)) k1 (Int.le_refl 0) (by dsimp only; omega)
  refine ⟨k3,fun b=>?_⟩
  rw [k4 b,k2 b,or_assoc]
  refine or_congr_right ?_
  dsimp only
  unfold has
  rw [hac,Bool.true_and,decide_eq_true_iff]
  have hr:0≤w32 (b - e.a)∧w32 (b - e.a) < 4294967296:=by rw [w32_is]; omega
  rw [w64_small (by omega) (by omega),w32_is]
  split <;> omega
 ·rw [if_neg hac]
  refine ⟨h,fun b=>?_⟩
  have:has e b=false:=by unfold has; simp [hac]
  rw [this]
  simp
theorem pFold_PA:∀ (l:List Ev) (ps:List Prt),PA ps→(∀ e∈l,0≤e.a∧e.a < 4294967296)→(∀ e∈l,acs e=true→0≤e.n∧e.n≤65536)→PA (pFold l ps)∧∀ b,inP (pFold l ps) b↔inP ps b∨(0≤b∧b < 4294967296∧∃ e∈l,has e b=true)
 | [],ps,h,_,_=>⟨h,fun b=>by simp [pFold]⟩
 | e::t,ps,h,ha,hn=>by
  obtain ⟨k1,k2⟩:=pStep_PA h (ha e (by simp)) (hn e (by simp))
  obtain ⟨k3,k4⟩:=pFold_PA t (pStep ps e) k1 (fun x hx=>ha x (by simp [hx])) (fun x hx=>hn x (by simp [hx]))
  refine ⟨k3,fun b=>?_⟩
  show inP (pFold t (pStep ps e)) b↔_
  rw [k4 b,k2 b]
  constructor
  ·rintro ((hq | ⟨h0,h1,hq⟩) | ⟨h0,h1,x,hx,hq⟩)
   ·exact .inl hq
   ·exact .inr ⟨h0,h1,e,by simp,hq⟩
   ·exact .inr ⟨h0,h1,x,by simp [hx],hq⟩
  ·rintro (hq | ⟨h0,h1,x,hx,hq⟩)
   ·exact .inl (.inl hq)
   ·rcases List.mem_cons.1 hx with rfl | hx
    ·exact .inl (.inr ⟨h0,h1,hq⟩)
    ·exact .inr ⟨h0,h1,x,hx,hq⟩
theorem mem_rangeB {p:Prt} (h:PVal p) (b:Int):b∈rangeB p↔p.1≤b∧b < p.2:=by
 unfold PVal at h
 unfold rangeB
 rw [List.mem_map]
 constructor
 ·rintro ⟨k,hk,rfl⟩
  have hk:k < (p.2 - p.1).toNat:=by simpa using hk
  rw [w32_is]
  omega
 ·intro hb
  refine ⟨(b - p.1).toNat,by simp; omega,?_⟩
  rw [w32_is]
  omega
theorem rangeB_sorted {p:Prt} (h:PVal p):(rangeB p).Pairwise (· < ·):=by
 unfold PVal at h
 unfold rangeB
 rw [List.pairwise_map]
 refine List.Pairwise.imp_of_mem ?_ List.pairwise_lt_range
 intro i j hi hj hij
 have hi:i < (p.2 - p.1).toNat:=by simpa using hi
 have hj:j < (p.2 - p.1).toNat:=by simpa using hj
 rw [w32_is,w32_is]
 omega
theorem bytesOfP_mem {ps:List Prt} (h:PA ps) (b:Int):b∈bytesOfP ps↔inP ps b:=by
 unfold bytesOfP inP
 rw [List.mem_flatMap]
 constructor
 ·rintro ⟨p,hp,hb⟩
  exact ⟨p,hp,(mem_rangeB (h.val p hp) b).1 hb⟩
 ·rintro ⟨p,hp,hb⟩
  exact ⟨p,hp,(mem_rangeB (h.val p hp) b).2 hb⟩
theorem bytesOfP_sorted {ps:List Prt} (h:PA ps):(bytesOfP ps).Pairwise (· < ·):=by
 unfold bytesOfP
 rw [List.pairwise_flatMap]
 refine ⟨fun p hp=>rangeB_sorted (h.val p hp),?_⟩
 refine List.Pairwise.imp_of_mem ?_ h.ord
 intro p q hp hq hpq x hx y hy
 have h1:=(mem_rangeB (h.val p hp) x).1 hx
 have h2:=(mem_rangeB (h.val q hq) y).1 hy
 omega
theorem mny_is:∀ (ps:List Prt) (n:Int),PA ps→0≤n→(∀ p∈ps,n≤p.1)→n≤4294967296→mny ps n=n+((bytesOfP ps).length:Int)
 | [],n,_,_,_,_=>by simp [mny,bytesOfP]
 | p::t,n,h,h0,h1,h2=>by
  obtain ⟨c1,c2,c3⟩:=PA.cons.1 h
  have hp:=h1 p (by simp)
  have c1':=c1
  unfold PVal at c1'
  unfold mny
  rw [w64_small (x:=p.2 - p.1) (by omega) (by omega),w64_small (by omega) (by omega),mny_is t _ c2 (by omega) (fun q hq=>by have:=c3 q hq; omega) (by omega)]
  have:(bytesOfP (p::t)).length=(p.2 - p.1).toNat+(bytesOfP t).length:=by simp [bytesOfP,rangeB]
  rw [this]
  omega
theorem parts_law {l:List Ev} (hok:Ok l l.length) (ha:∀ e∈l,0≤e.a∧e.a < 4294967296) :
  PA (parts l)∧PartsOk (parts l)∧(bytesOfP (parts l)).Pairwise (· < ·)∧∀ b,b∈bytesOfP (parts l)↔0≤b∧b < 4294967296∧∃ k,k < l.length∧has (evN l k) b=true:=by
 have hev:∀ e∈l,∃ k,k < l.length∧evN l k=e:=by
  intro e he
  obtain ⟨k,hk,rfl⟩:=List.getElem_of_mem he
  exact ⟨k,hk,by unfold evN; simp [List.getD,hk]⟩
 obtain ⟨k1,k2⟩:=pFold_PA l [] ⟨by simp,by simp⟩ ha (fun e he hac=>by
  obtain ⟨k,hk,rfl⟩:=hev e he
  exact bsN_n hok hk hac)
 have k1:PA (parts l):=k1
 refine ⟨k1,⟨fun p hp=>?_,?_⟩,bytesOfP_sorted k1,fun b=>?_⟩
 ·have:=k1.val p hp
  unfold PVal at this
  omega
 ·have:=mny_is (parts l) 0 k1 (Int.le_refl 0) (fun p hp=>(k1.val p hp).1) (by omega)
  omega
 ·rw [bytesOfP_mem k1]
  show inP (pFold l []) b↔_
  rw [k2 b]
  have:=inP_nil b
  simp only [this,false_or]
  refine and_congr_right fun _=>and_congr_right fun _=>?_
  constructor
  ·rintro ⟨e,he,hb⟩
   obtain ⟨k,hk,rfl⟩:=hev e he
   exact ⟨k,hk,hb⟩
  ·rintro ⟨k,hk,hb⟩
   refine ⟨evN l k,?_,hb⟩
   unfold evN
   simp only [List.getD,List.getElem?_eq_getElem hk]
   exact List.getElem_mem _
end Go.Fx.Mo
namespace Go.Fx.Mo
def bytesL:List Int→List (Int × Bool)→Option (List (Int × Bool))
 | [],m=>some m
 | b::r,m=>if (put m b true).length > 20000 then none else bytesL r (put m b true)
def bytesE:List Ev→List (Int × Bool)→Option (List (Int × Bool))
 | [],m=>some m
 | e::t,m=>match bytesL (bsN e) m with
  | none=>none
  | some m=>bytesE t m
theorem bytesE_cons (e:Ev) (t:List Ev) (m:List (Int × Bool)):bytesE (e::t) m=match bytesL (bsN e) m with
  | none=>none
  | some m=>bytesE t m:=rfl
theorem bytesL_cons (b:Int) (r:List Int) (m:List (Int × Bool)):bytesL (b::r) m=if (put m b true).length > 20000 then none else bytesL r (put m b true):=rfl
def sortI (l:List Int):List Int:=l.mergeSort fun x y=>decide (x≤y)
def allBytes (l:List Ev):List Int ⊕ Int:=match run l with
 | .inr x=>.inr x
 | .inl _=>match bytesE l [] with
  | none=>.inr 2
  | some m=>.inl (sortI (m.map (·.1)))
def putT (m:List (Int × Bool)) (b:Int):List (Int × Bool):=put m b true
theorem putT_len (m:List (Int × Bool)) (b:Int):m.length≤(putT m b).length:=by
 unfold putT put
 split <;> simp
theorem fold_len:∀ (S:List Int) (m:List (Int × Bool)),m.length≤(S.foldl putT m).length
 | [],m=>Nat.le_refl _
 | b::r,m=>Nat.le_trans (putT_len m b) (fold_len r (putT m b))
theorem bytesL_is:∀ (S:List Int) (m:List (Int × Bool)),m.length≤20000→bytesL S m=if (S.foldl putT m).length > 20000 then none else some (S.foldl putT m)
 | [],m,h=>by
  unfold bytesL
  rw [List.foldl_nil,if_neg (by omega)]
 | b::r,m,h=>by
  unfold bytesL
  rw [List.foldl_cons]
  by_cases hb:(put m b true).length > 20000
  ·rw [if_pos hb,if_pos]
   exact Nat.lt_of_lt_of_le hb (fold_len r (putT m b))
  ·rw [if_neg hb]
   exact bytesL_is r (put m b true) (by omega)
theorem bytesE_is:∀ (l:List Ev) (m:List (Int × Bool)),m.length≤20000→bytesE l m=if ((l.flatMap bsN).foldl putT m).length > 20000 then none else some ((l.flatMap bsN).foldl putT m)
 | [],m,h=>by
  unfold bytesE
  rw [List.flatMap_nil,List.foldl_nil,if_neg (by omega)]
 | e::t,m,h=>by
  unfold bytesE
  rw [bytesL_is _ m h,List.flatMap_cons,List.foldl_append]
  by_cases hb:((bsN e).foldl putT m).length > 20000
  ·rw [if_pos hb,if_pos]
   exact Nat.lt_of_lt_of_le hb (fold_len _ _)
  ·rw [if_neg hb]
   exact bytesE_is t _ (by omega)
theorem fold_keys:∀ (S:List Int) (m:List (Int × Bool)) (b:Int),b∈(S.foldl putT m).map (·.1)↔b∈m.map (·.1)∨b∈S
 | [],m,b=>by simp
 | x::r,m,b=>by
  rw [List.foldl_cons,fold_keys r (putT m x) b]
  have:b∈(putT m x).map (·.1)↔b∈m.map (·.1)∨b=x:=by
   unfold putT
   rw [put_keys]
   split
   ·rename_i hs
    constructor
    ·exact fun h=>.inl h
    ·rintro (h | rfl)
     ·exact h
     ·obtain ⟨v,hv⟩:=Option.isSome_iff_exists.1 hs
      exact List.mem_map.2 ⟨_,look_mem hv,rfl⟩
   ·simp
  rw [this,List.mem_cons,or_assoc]
theorem fold_nodup:∀ (S:List Int) (m:List (Int × Bool)),(m.map (·.1)).Nodup→((S.foldl putT m).map (·.1)).Nodup
 | [],m,h=>h
 | x::r,m,h=>fold_nodup r (putT m x) (put_nodup h x true)
theorem evs_flat (l:List Ev) {b:Int}:b∈l.flatMap bsN↔∃ k,k < l.length∧b∈bsN (evN l k):=by
 rw [List.mem_flatMap]
 constructor
 ·rintro ⟨e,he,hb⟩
  obtain ⟨k,hk,rfl⟩:=List.getElem_of_mem he
  exact ⟨k,hk,by unfold evN; simpa [List.getD,hk] using hb⟩
 ·rintro ⟨k,hk,hb⟩
  refine ⟨evN l k,?_,hb⟩
  unfold evN
  simp only [List.getD,List.getElem?_eq_getElem hk]
  exact List.getElem_mem _
theorem sortI_is {a b:List Int} (hp:a.Perm b) (hs:b.Pairwise (· < ·)):sortI a=b:=by
 have tr:∀ x y z:Int,decide (x≤y)=true→decide (y≤z)=true→decide (x≤z)=true:=fun x y z h1 h2=>by simp at *; omega
 have to:∀ x y:Int,(decide (x≤y) || decide (y≤x))=true:=fun x y=>by simp; omega
 have h1:=List.pairwise_mergeSort tr to a
 have h2:b.Pairwise fun x y=>decide (x≤y)=true:=hs.imp fun h=>by simp; omega
 exact List.Perm.eq_of_pairwise (le:=fun x y=>decide (x≤y)=true) (fun x y _ _ h1 h2=>by simp at *; omega) h1 h2 ((List.mergeSort_perm a _).trans hp)
theorem keys_bytes {l:List Ev} (hok:Ok l l.length) (ha:∀ e∈l,0≤e.a∧e.a < 4294967296):(((l.flatMap bsN).foldl putT []).map (·.1)).Perm (bytesOfP (parts l)):=by
 obtain ⟨_,_,p3,p4⟩:=parts_law hok ha
 rw [List.perm_ext_iff_of_nodup (fold_nodup _ [] (by simp)) (p3.imp fun h=>by omega)]
 intro b
 rw [fold_keys,p4 b,evs_flat]
 simp only [List.map_nil,List.not_mem_nil,false_or]
 constructor
 ·rintro ⟨k,hk,hb⟩
  obtain ⟨h0,h1⟩:=bsN_range b hb
  exact ⟨h0,h1,k,hk,(mem_bsN hok hk h0 h1).1 hb⟩
 ·rintro ⟨h0,h1,k,hk,hb⟩
  exact ⟨k,hk,(mem_bsN hok hk h0 h1).2 hb⟩
theorem bytes_ref {l:List Ev} (ha:∀ e∈l,0≤e.a∧e.a < 4294967296):allBytes l=refBytes l:=by
 unfold allBytes refBytes
 rcases run_rord l with ⟨x,h1,h2,_⟩ | ⟨h,r,tk,h1,h2,_⟩
 ·rw [h1,h2]
 ·rw [h1,h2]
  simp only
  obtain ⟨hok,hl,_⟩:=run_Ok h1
  obtain ⟨p1,p2,p3,p4⟩:=parts_law hok ha
  have hp:=keys_bytes hok ha
  have hlen:=hp.length_eq
  rw [List.length_map] at hlen
  have hm:=p2.many
  rw [bytesE_is l [] (by simp)]
  by_cases hgt:((l.flatMap bsN).foldl putT []).length > 20000
  ·rw [if_pos hgt,if_pos (by omega)]
  ·rw [if_neg hgt,if_neg (by omega)]
   simp only
   rw [sortI_is hp p3]
end Go.Fx.Mo
namespace Go.Fx.Tryz
open Go Go.Fx Go.Fx.Mo
open Go.Proofs
variable {w0 w:World} {H Y:HL} {K:KT}
set_option maxRecDepth 20000
abbrev dfrs (ls:List Nat):List (Nat × Obj):=ls.map fun l=>(l,dfr)
theorem leaves {rs:List ResultVar} {e:Env} {Z:HL}:∀ (ls:List Nat) (w:World),(∀ l∈ls,w0.heap.size≤l)→St w0 w (dfrs ls++Z)→(∀ w',St w0 w' Z→LeaveS P rs e K [] w')→LeaveS P rs e K (ls.map mk) w
 | [],w,_,h,hK=>hK w h
 | l::t,w,hl,h,hK=>by
  have h:St w0 w ((l,dfr)::(dfrs t++Z)):=h
  show w.heap[l]?=some (.deferred (some []))∧LeaveS P rs e K (t.map mk) (w.putObj l (.deferred none))
  refine ⟨h.get (k:=0) rfl,?_⟩
  have h2:St w0 (w.putObj l (.deferred none)) ((l,.deferred none)::(dfrs t++Z)):=h.put (k:=0) rfl (.deferred none)
  exact leaves t _ (fun x hx=>hl x (by simp [hx])) (h2.tail (hl l (by simp))) hK
theorem leave_25a (a2 a3:Addr) (v50 v49 v48:Value) (r:List (Nat × Value)) (d0:List Deferred) (w:World) (K:KT) :
  LeaveS P rs25 (Env.mk 51 ((50,v50)::(49,v49)::(48,v48)::(2,(Value.pointer (some a2)))::(3,(Value.pointer (some a3)))::r) d0) K [] w =
   (∃ (sa:Option Addr) (sl sc:Nat),w.cell? a2=some (Value.slice sa sl sc)∧∃ x:Int,w.cell? a3=some (Value.int .i64 x)∧K (Value.tuple [(Value.slice sa sl sc),(Value.int .i64 x)].toArray) w):=by kernel_rfl
theorem leave_25b (a2 a3:Addr) (r:List (Nat × Value)) (d0:List Deferred) (w:World) (K:KT) :
  LeaveS P rs25 (Env.mk 51 ((3,(Value.pointer (some a3)))::(2,(Value.pointer (some a2)))::r) d0) K [] w =
   (∃ (sa:Option Addr) (sl sc:Nat),w.cell? a2=some (Value.slice sa sl sc)∧∃ x:Int,w.cell? a3=some (Value.int .i64 x)∧K (Value.tuple [(Value.slice sa sl sc),(Value.int .i64 x)].toArray) w):=by kernel_rfl
theorem z49:zcells P 49=#[nilS]:=by kernel_rfl
theorem z35m:zcells P 35=#[.map none]:=by kernel_rfl
theorem len_of_map {es:Array MapEntry} {clk:Nat} {m:List (Int × Bool)} (hm:MapIs encU es clk (encM Value.bool m)):es.size=m.length:=by
 have:=hm.perm.length_eq
 simpa [encM] using this
theorem keysZ_ok {mb clk:Nat} {es:Array MapEntry} {m:List (Int × Bool)} (h:St w0 w H) (hb:(mb,.map es clk)∈H) (hm:MapIs encU es clk (encM Value.bool m)) (hn:m.length < 1000000)
  {K:Value→KT} (hK:∀ v w' a c Lo,SlO 1 43 (.slice a (sortI (m.map (·.1))).length c) (sortI (m.map (·.1))).length ((sortI (m.map (·.1))).map encU) Lo→New w0 Lo→St w0 w' (Lo++H)→K v (.slice a (sortI (m.map (·.1))).length c) w') :
  CallL P 46 [.map (some mb)] w (fun r w'=>∃ v:Value,r=v∧CallL P 45 [v] w' (K v)):=by
 refine f46_ok _ _ _ ?_
 rw [f46_eq]
 refine h.newC fun n1 w1 hn1 h1=>⟨_,rfl,?_⟩
 have h1:St w0 w1 ((n1,Cs [.map (some mb)] 35)::H):=h1
 refine f45_ok _ _ _ ?_
 rw [f45_eq]
 have hsz:=len_of_map hm
 refine collect_ok h1 (.head _) (List.mem_cons_of_mem _ hb) hm.st (fun e he=>?_) (by omega) fun w2 a c ks Lo hp hS hN h2=>⟨a,_,c,rfl,?_⟩
 ·have:(e.key,e.val)∈(encM Value.bool m).map fun p=>(encU p.1,p.2):=hm.perm.mem_iff.1 (List.mem_map.2 ⟨e,he,rfl⟩)
  obtain ⟨p,_,hp⟩:=List.mem_map.1 this
  exact ⟨p.1,(congrArg (·.1) hp).symm⟩
 have hpk:=keys_perm hm hp
 have hr:sortI (m.map (·.1))=ks.mergeSort fun x y=>decide (x≤y):=(sort_perm hpk).symm
 have hl:(sortI (m.map (·.1))).length=ks.length:=by rw [hr,List.length_mergeSort]
 refine sortN_ok h2 hS (by have:=hpk.length_eq; simp at this; omega) fun w3 Lo' hS' hN' h3=>⟨rfl,?_⟩
 rw [← hl]
 refine hK _ w3 a c Lo' ?_ (hN' hN) ?_
 ·rw [hl,hr]; exact hS'
 ·have h3:St w0 w3 ([(n1,Cs [.map (some mb)] 35)]++(Lo'++H)):=h3.perm (perm_by fun c=>by simp only [List.map_append,List.map_cons,List.map_nil,List.sum_append,List.sum_cons,List.sum_nil]; omega)
  exact h3.tail hn1
section
variable {n1 n3 n19 n21:Nat} {sa:Option Addr} {sl sc:Nat} {x70 x71:Int}
abbrev byB (n1 n3 n19 n21:Nat) (es:Array MapEntry) (clk:Nat) (v:Value) (x:Int) (R:HL):List (Nat × Obj):=(n21,Cs [.map (some n19)] 35)::(n19,.map es clk)::(n3,Cs [I64 x] 40)::(n1,Cs [v] 49)::R
theorem by_s6 {R:HL} {es:Array MapEntry} {clk:Nat} {m:List (Int × Bool)} {lid:Nat} {Rr:LoopState→Option Code→Loop} {post:Option Code→World→Prop} {b:Int}
  (hm:MapIs encU es clk (encM Value.bool m))
  (h:St w0 w ((lid,.loop (Rr .ready none))::byB n1 n3 n19 n21 es clk nilS 0 R))
  (hgo:∀ w' es' clk',MapIs encU es' clk' (encM Value.bool (put m b true))→¬ (put m b true).length > 20000→St w0 w' ((lid,.loop (Rr .ready none))::byB n1 n3 n19 n21 es' clk' nilS 0 R)→post none w')
  (hstop:∀ w' es' clk',(put m b true).length > 20000→St w0 w' ((lid,.loop (Rr .done (some .ret)))::byB n1 n3 n19 n21 es' clk' nilS 2 R)→post (some .ret) w') :
  f25_ra5 (Addr.mk n3 0 none) (Addr.mk n1 0 none) (Addr.mk n21 0 none) sa sl sc x70 x71 b w lid Rr post:=by
 rw [f25_ra5_eq]
 refine ⟨h.get (k:=0) rfl,?_⟩
 have h1:St w0 (w.putObj lid (.loop (Rr .busy none))) ((lid,.loop (Rr .busy none))::byB n1 n3 n19 n21 es clk nilS 0 R):=h.put (k:=0) rfl (.loop (Rr .busy none))
 rw [f25_s6_eq]
 refine ⟨some n19,h1.cell (k:=1) rfl,?_⟩
 obtain ⟨es',clk',hr,hm'⟩:=hm.update keyU mapType124 (b:=n19) (h1.get (k:=2) rfl) b (.bool true)
 rw [putM_map] at hm'
 refine ⟨_,hr,?_⟩
 have h2:St w0 ((w.putObj lid (.loop (Rr .busy none))).putObj n19 (.map es' clk')) ((lid,.loop (Rr .busy none))::byB n1 n3 n19 n21 es' clk' nilS 0 R):=h1.put (k:=2) rfl (.map es' clk')
 refine ⟨some n19,h2.cell (k:=1) rfl,_,fun wq hx=>len124 hm' hx (h2.get (k:=2) rfl),?_⟩
 rw [BIf_iff]
 constructor
 ·intro hgt
  have hgt:(put m b true).length > 20000:=by simp at hgt; omega
  refine h2.st1 (k:=4) rfl (by simp) rfl fun w3 h3=>?_
  refine h3.st1 (k:=3) rfl (by simp) rfl fun w4 h4=>?_
  have h4:St w0 w4 ((lid,.loop (Rr .busy none))::byB n1 n3 n19 n21 es' clk' nilS 2 R):=h4
  refine ⟨h4.get (k:=0) rfl,?_⟩
  exact hstop _ es' clk' hgt (h4.put (k:=0) rfl (.loop (Rr .done (some .ret))))
 ·intro hle
  have hle:¬ (put m b true).length > 20000:=by simp at hle; omega
  refine ⟨h2.get (k:=0) rfl,?_⟩
  exact hgo _ es' clk' hm' hle (h2.put (k:=0) rfl (.loop (Rr .ready none)))
end
theorem bytesZ_ok {l:List Ev} {ov:Value} (h:St w0 w H) (hrow:∀ w',St w0 w' H→Row w' 6 ov l.length (evsCs l)) (hl63:l.length < 1000000)
  (herr:∀ x,allBytes l=.inr x→x≠0→∀ w',St w0 w' H→K (.tuple [nilS,I64 x].toArray) w')
  (hok:∀ o,allBytes l=.inl o→o.length≤20000→∀ w' a c Lo,SlO 1 43 (.slice a o.length c) o.length (o.map encU) Lo→New w0 Lo→St w0 w' (Lo++H)→K (.tuple [.slice a o.length c,I64 0].toArray) w') :
  CallL P 25 [ov] w K:=by
 obtain ⟨sa,sc,hov⟩:=(hrow w h).form
 subst hov
 refine f25_ok _ _ _ _ _ ?_
 rw [f25_eq,z49,z28,z89]
 refine h.newC fun n1 w1 hn1 h1=>h1.newC fun n3 w2 hn3 h2=>?_
 have h2:St w0 w2 ((n3,Cs [I64 0] 40)::(n1,Cs [nilS] 49)::H):=h2
 refine run_ok h2 (fun w' h'=>hrow w' ((h'.tail hn3).tail hn1)) (by omega) (fun x hx w3 h3=>⟨_,x,rfl,?_⟩) (fun hh hrun w3 v1 v2 v3 L1 L2 L3 hho h3=>⟨_,0,rfl,?_⟩)
 ·refine h3.newC fun n6 w4 hn6 h4=>h4.stA (k:=0) rfl rfl (by simp) (by simp [Value.oneCell']) fun w5 h5=>?_
  have hx0:x≠0:=by
   unfold Mo.run at hx
   split at hx
   ·cases hx; omega
   ·split at hx
    ·cases hx
    ·cases hx; omega
  rw [show (x != 0)=true by simpa using hx0,BIf_true]
  refine h5.st1 (k:=2) rfl (by simp) rfl fun w6 h6=>h6.st1 (k:=1) rfl (by simp) rfl fun w7 h7=>?_
  refine ⟨none,0,0,h7.cell (k:=2) rfl,x,h7.cell (k:=1) rfl,?_⟩
  exact herr x (by unfold allBytes; rw [hx]) hx0 w7 (((h7.tail hn6).tail hn3).tail hn1)
 ·obtain ⟨a1,c1,e1⟩:=hho.s1.form
  obtain ⟨a2,c2,e2⟩:=hho.s2.form
  obtain ⟨a3,c3,e3⟩:=hho.s3.form
  refine h3.newC fun n6 w4 hn6 h4=>h4.stA (k:=0) rfl rfl (by simp) (by simp [e1,e2,e3,Value.oneCell']) fun w5 h5=>?_
  rw [show ((0:Int) != 0)=false by decide,BIf_false,f25_s0_eq]
  have h5:St w0 w5 ((n6,Cs [v1,v2,v3] 141)::(L1++(L2++(L3++((n3,Cs [I64 0] 40)::(n1,Cs [nilS] 49)::H))))):=h5
  have h6:St w0 w5 ((n3,Cs [I64 0] 40)::(n1,Cs [nilS] 49)::H):=(((h5.tail hn6).sub hho.n1).sub hho.n2).sub hho.n3
  obtain ⟨hokl,hl20,_⟩:=run_Ok hrun
  refine h6.newO fun n19 w7 hn19 h7=>?_
  rw [z35m]
  refine h7.newC fun n21 w8 hn21 h8=>h8.st1 (k:=0) rfl (by simp) rfl fun w9 h9=>?_
  have h9:St w0 w9 (byB n1 n3 n19 n21 #[] 0 nilS 0 H):=h9
  refine ⟨l.length,fun wq _=>run_len_22 wq,?_⟩
  have hm0:MapIs encU #[] 0 (encM Value.bool ([]:List (Int × Bool))):=⟨MapKept.stamped_empty 0,by simp [encM]⟩
  refine ⟨fun k ee w=>∃ (i:Nat) (ls:List Nat) (m:List (Int × Bool)) (es:Array MapEntry) (clk:Nat),i≤l.length∧k=l.length - i∧ee=Env.mk 51 [(2,(Value.pointer (some (Addr.mk n1 0 none)))),(3,(Value.pointer (some (Addr.mk n3 0 none)))),(6,(Value.pointer (some (Addr.mk n21 0 none)))),(24,(Value.int .i64 i)),(22,(Value.slice sa l.length sc)),(23,(Value.int .i64 l.length))] (ls.map mk)∧
    bytesE (l.drop i) m=bytesE l []∧m.length≤20000∧MapIs encU es clk (encM Value.bool m)∧(∀ x∈ls,w0.heap.size≤x)∧St w0 w (dfrs ls++byB n1 n3 n19 n21 es clk nilS 0 H),
   ⟨l.length,0,[],[],#[],0,by omega,rfl,rfl,rfl,by simp,hm0,by simp,h9⟩,?_⟩
  rintro k ee w10 ⟨i,ls,m,es,clk,hi,rfl,rfl,hfin,hml,hm,hls,hw⟩
  show f25_lb1 ..
  rw [f25_lb1_eq,BIf_iff]
  have hback:∀ {w':World} {X:HL} {es:Array MapEntry} {clk:Nat} {v:Value} {x:Int},New w0 X→St w0 w' (X++byB n1 n3 n19 n21 es clk v x H)→St w0 w' H:=fun hX h'=>(((((h'.sub hX).tail hn21).tail hn19).tail hn3).tail hn1)
  have hNl:∀ {ls:List Nat},(∀ x∈ls,w0.heap.size≤x)→New w0 (dfrs ls):=fun hl y hy=>by
   obtain ⟨x,hx,rfl⟩:=List.mem_map.1 hy
   exact hl x hx
  constructor
  ·intro hlt
   have hlt:i < l.length:=by simpa using hlt
   rw [f25_s2_eq]
   have hwr:IntKind.wrap .i64 ((i:Int)+1)=((i+1:Nat):Int):=by rw [wrap_i64 (by omega) (by omega)]; rfl
   obtain ⟨a,c,hac,hld⟩:=(hrow w10 (hback (hNl hls) hw)).ldA hlt
   obtain ⟨hsa,-⟩:sa=some a∧sc=c:=by simpa using hac
   subst hsa
   refine ⟨by omega,by omega,hld _ ?_⟩
   rw [evs_at hlt]
   obtain ⟨ze,hze,hzel⟩:=z35
   rw [hze]
   refine hw.newC fun n39 w11 hn39 h11=>h11.stA (k:=0) rfl (by simp [Evcs_len]) (by simp [hzel]) (Evcs_one _) fun w12 h12=>?_
   have h12:St w0 w12 ((n39,Cs (splice ze 0 (Evcs l[i])) 45)::(dfrs ls++byB n1 n3 n19 n21 es clk nilS 0 H)):=h12
   rw [splice_whole (by rw [Evcs_len,hzel])] at h12
   have hdrop:l.drop i=l[i]::l.drop (i+1):=List.drop_eq_getElem_cons hlt
   rw [hdrop] at hfin
   have hev:l[i]=Mo.evN l i:=evN_at hlt
   rw [hev] at h12 hfin
   generalize hx:Mo.evN l i=x at h12 hfin
   refine h12.ldA (k:=0) (i:=0) rfl (by simp [Evcs_len]) ?_
   rw [show ((Evcs x).drop 0).take 6=Evcs x by rw [List.drop_zero,List.take_of_length_le (by rw [Evcs_len]; exact Nat.le_refl 6)]]
   refine accesses_ok h12 x fun w13 h13=>⟨_,_,_,rfl,?_⟩
   rw [acc_is]
   rw [bytesE_cons] at hfin
   rw [BIf_iff]
   constructor
   ·intro hna
    have hna:acs x=false:=by simpa using hna
    have hbs:bsN x=[]:=by unfold bsN; rw [hna]; rfl
    rw [hbs] at hfin
    rw [f25_s3_eq,hwr]
    exact ⟨l.length - (i+1),by omega,i+1,ls,m,es,clk,by omega,rfl,rfl,hfin,hml,hm,hls,h13.tail hn39⟩
   ·intro hac'
    have hac':acs x=true:=by simpa using hac'
    have hbs:bsN x=Mo.bytes x.a x.n:=by unfold bsN; rw [hac']; rfl
    rw [hbs] at hfin
    have hxn:=bsN_n hokl hlt (by rw [hx]; exact hac')
    rw [hx] at hxn
    rw [f25_s4_eq]
    refine ⟨x.a,by rw [add_lit']; exact h13.cell (k:=0) rfl,x.n,by rw [add_lit']; exact h13.cell (k:=0) rfl,?_⟩
    refine bytes_st h13 x.a x.n fun b1 b2 w14 hb1 hb2 h14=>⟨_,rfl,?_⟩
    let G:List (Nat × Obj):=(b1,Cs [I64 x.n] 3)::(b2,Cs [.int .u32 x.a] 43)::(n39,Cs (Evcs x) 45)::(dfrs ls++H)
    have hG:St w0 w14 (byB n1 n3 n19 n21 es clk nilS 0 G):=h14.perm (perm_by fun f=>by
     simp only [G,byB,List.map_append,List.map_cons,List.sum_append,List.sum_cons]; omega)
    have back:∀ {w':World} {es:Array MapEntry} {clk:Nat} {v:Value} {y:Int} {l':Nat} {o:Obj},St w0 w' ((l',o)::byB n1 n3 n19 n21 es clk v y G)→St w0 w' (((l',o)::dfrs ls)++byB n1 n3 n19 n21 es clk v y H):=fun {w' es clk v y l' o} h'=>by
     have h2:=h'.perm (H':=[(b1,Cs [I64 x.n] 3),(b2,Cs [.int .u32 x.a] 43),(n39,Cs (Evcs x) 45)]++(((l',o)::dfrs ls)++byB n1 n3 n19 n21 es clk v y H)) (perm_by fun f=>by
      simp only [G,byB,List.map_append,List.map_cons,List.map_nil,List.sum_append,List.sum_cons,List.sum_nil]; omega)
     refine h2.sub fun y hy=>?_
     simp at hy
     rcases hy with rfl | rfl | rfl
     ·exact hb1
     ·exact hb2
     ·exact hn39
    refine range_bytes (b1:=b1) (b2:=b2) (n:=x.n) (at_:=x.a) (t1:=3) (t2:=43) hG (by simp [G,byB]) (by omega)
     (fun j H'=>∃ m' es' clk',bytesL ((Mo.bytes x.a x.n).drop j) m'=bytesL (Mo.bytes x.a x.n) m∧m'.length≤20000∧MapIs encU es' clk' (encM Value.bool m')∧H'=byB n1 n3 n19 n21 es' clk' nilS 0 G)
     (fun c H'=>c=.ret∧bytesL (Mo.bytes x.a x.n) m=none∧∃ es' clk',H'=byB n1 n3 n19 n21 es' clk' nilS 2 G)
     ⟨m,es,clk,rfl,hml,hm,rfl⟩ ?_ ?_ ?_ ?_
    ·rintro j H' ⟨_,_,_,_,_,_,rfl⟩
     simp [G,byB]
    ·rintro lid l' Rr post j W H' hj ⟨m',es',clk',hbl,hml',hm',rfl⟩ hs hlid hl' hp hpx
     rw [f25_rd5_eq]
     refine ⟨rfl,?_⟩
     have hjn:j < x.n.toNat:=by omega
     have hd:(Mo.bytes x.a x.n).drop j=IntKind.wrap .u32 (x.a+IntKind.wrap .u32 (j:Int))::(Mo.bytes x.a x.n).drop (j+1):=drop_bytes x.a x.n hjn
     rw [hd] at hbl
     rw [bytesL_cons] at hbl
     have hs2:St w0 W ((lid,.loop (Rr .ready none))::byB n1 n3 n19 n21 es' clk' nilS 0 ((l',.deferred (some []))::G)):=hs.perm (perm_by fun f=>by
      simp only [G,byB,List.map_append,List.map_cons,List.sum_append,List.sum_cons]; omega)
     refine by_s6 hm' hs2 (fun w' es2 clk2 hm2 hle h'=>?_) (fun w' es2 clk2 hgt h'=>?_)
     ·rw [if_neg hle] at hbl
      refine hp w' (byB n1 n3 n19 n21 es2 clk2 nilS 0 G) ⟨_,es2,clk2,hbl,by omega,hm2,rfl⟩ (h'.perm (perm_by fun f=>by
       simp only [G,byB,List.map_append,List.map_cons,List.sum_append,List.sum_cons]; omega))
     ·rw [if_pos hgt] at hbl
      refine hpx .ret w' (byB n1 n3 n19 n21 es2 clk2 nilS 2 G) ⟨rfl,hbl.symm,es2,clk2,rfl⟩ (h'.perm (perm_by fun f=>by
       simp only [G,byB,List.map_append,List.map_cons,List.sum_append,List.sum_cons]; omega))
    ·rintro W H' l' hl' ⟨m',es',clk',hbl,hml',hm',rfl⟩ hs
     show f25_rn5 (Addr.mk n3 0 none) (Addr.mk n1 0 none) (Addr.mk n21 0 none) (some a) l.length sc l.length i (mk l'::ls.map mk) W K _
     rw [f25_rn5_eq,f25_s3_eq,hwr]
     have hdn:(Mo.bytes x.a x.n).drop x.n.toNat=[]:=List.drop_eq_nil_of_le (by rw [bytes_len]; exact Nat.le_refl _)
     rw [hdn] at hbl
     have hbl:some m'=bytesL (Mo.bytes x.a x.n) m:=hbl
     rw [← hbl] at hfin
     refine ⟨l.length - (i+1),by omega,i+1,l'::ls,m',es',clk',by omega,rfl,rfl,hfin,hml',hm',fun y hy=>?_,back hs⟩
     rcases List.mem_cons.1 hy with rfl | hy
     ·exact hl'
     ·exact hls y hy
    ·rintro c W H' l' hl' ⟨rfl,hbl,es',clk',rfl⟩ hs
     show f25_rr5 (Addr.mk n3 0 none) (Addr.mk n1 0 none) (Addr.mk n21 0 none) (some a) l.length sc l.length i (mk l'::ls.map mk) W K _
     rw [f25_rr5_eq]
     rw [hbl] at hfin
     have hab:allBytes l=.inr 2:=by unfold allBytes; rw [hrun]; simp only; rw [← hfin]
     refine leaves (l'::ls) W (fun y hy=>?_) (back hs) fun w' h'=>?_
     ·rcases List.mem_cons.1 hy with rfl | hy
      ·exact hl'
      ·exact hls y hy
     ·rw [leave_25b]
      refine ⟨none,0,0,h'.cell (k:=3) rfl,2,h'.cell (k:=2) rfl,?_⟩
      exact herr 2 hab (by decide) w' (hback (X:=[]) (New.nil w0) h')
  ·intro hge
   have hge:l.length≤i:=by simpa using hge
   have:i=l.length:=by omega
   subst this
   rw [List.drop_length] at hfin
   have hfin:some m=bytesE l []:=hfin
   have hab:allBytes l=.inl (sortI (m.map (·.1))):=by unfold allBytes; rw [hrun]; simp only; rw [← hfin]
   have hsl:(sortI (m.map (·.1))).length=m.length:=by unfold sortI; rw [List.length_mergeSort,List.length_map]
   rw [f25_s7_eq]
   have hcell:w10.cell? (Addr.mk n21 0 none)=some (.map (some n19)):=by
    rw [cell_of (hw.has n21 (Cs [.map (some n19)] 35) (by simp [byB]))]
    rfl
   refine ⟨some n19,hcell,?_⟩
   refine keysZ_ok hw (mb:=n19) (by simp [byB]) hm (by omega) fun v w11 a c Lo hS hN h11=>⟨a,_,c,rfl,?_⟩
   obtain ⟨gs,hgs⟩:∃ gs,gs=sortI (m.map (·.1)):=⟨_,rfl⟩
   rw [← hgs] at hS hab hsl ⊢
   have h12:St w0 w11 ([(n1,Cs [nilS] 49),(n3,Cs [I64 0] 40),(n21,Cs [.map (some n19)] 35),(n19,.map es clk)]++(dfrs ls++(Lo++H))):=h11.perm (perm_by fun f=>by
    simp only [byB,List.map_append,List.map_cons,List.map_nil,List.sum_append,List.sum_cons,List.sum_nil]; omega)
   refine h12.st1 (k:=0) rfl (by simp) rfl fun w13 h13=>h13.st1 (k:=1) rfl (by simp) rfl fun w14 h14=>?_
   have h14:St w0 w14 ([(n1,Cs [.slice a gs.length c] 49),(n3,Cs [I64 0] 40),(n21,Cs [.map (some n19)] 35),(n19,.map es clk)]++(dfrs ls++(Lo++H))):=h14
   have h14:St w0 w14 (dfrs ls++([(n1,Cs [.slice a gs.length c] 49),(n3,Cs [I64 0] 40),(n21,Cs [.map (some n19)] 35),(n19,.map es clk)]++(Lo++H))):=h14.perm (perm_by fun f=>by
    simp only [List.map_append,List.map_cons,List.map_nil,List.sum_append,List.sum_cons,List.sum_nil]; omega)
   refine leaves ls w14 hls h14 fun w' h'=>?_
   rw [leave_25a]
   refine ⟨a,_,c,h'.cell (k:=0) rfl,0,h'.cell (k:=1) rfl,?_⟩
   exact hok gs hab (by omega) w' a c Lo hS hN ((((h'.tail hn1).tail hn3).tail hn21).tail hn19)
end Go.Fx.Tryz
namespace Go.Fx.Mo
def befP (l:List Ev) (i j:Int):Bool × Int:=match run l with
 | .inr x=>(false,x)
 | .inl hh=>if i < 0∨i≥l.length∨j < 0∨j≥l.length then (false,1) else (decide (i < j) && before hh (accO (evN l i.toNat) i) j.toNat,0)
def befR (l:List Ev) (i j:Int):Bool × Int:=match rord l with
 | .inr x=>(false,x)
 | .inl r=>if i < 0∨i≥l.length∨j < 0∨j≥l.length then (false,1) else ((afterE r i.toNat l.length).getD j.toNat false,0)
theorem bef_ref (l:List Ev) (i j:Int):befP l i j=befR l i j:=by
 unfold befP befR
 rcases run_rord l with ⟨x,h1,h2,_⟩ | ⟨h,r,tk,h1,h2,h3,h4,h5,h6⟩
 ·rw [h1,h2]
 ·rw [h1,h2]
  simp only
  by_cases hc:i < 0∨i≥l.length∨j < 0∨j≥l.length
  ·rw [if_pos hc,if_pos hc]
  ·rw [if_neg hc,if_neg hc]
   have hof:=rord_of h2
   have hjn:j.toNat < l.length:=by omega
   refine Prod.ext ?_ rfl
   dsimp only
   by_cases hij:i < j
   ·rw [decide_eq_true hij,Bool.true_and]
    have hb:=before_is h5 hof.len (by rw [h6]; exact hof.mem) (i:=i.toNat) (j:=j.toNat) (by omega) (by rw [h6]; omega)
    rw [h6] at hb
    rw [← hb]
    rfl
   ·rw [decide_eq_false hij,Bool.false_and]
    cases hx:(afterE r i.toNat l.length).getD j.toNat false with
    | false=>rfl
    | true=>
     obtain ⟨d,c,_,_,_,_,hlt,_⟩:=(afterE_spec hof.len hof.mem hjn).1 hx
     omega
end Go.Fx.Mo
namespace Go.Fx.Tryz
open Go Go.Fx Go.Fx.Mo
open Go.Proofs
variable {w0 w:World} {H Y:HL} {K:KT}
set_option maxRecDepth 20000
theorem beforeZ_ok {l:List Ev} {ov:Value} (i j:Int) (h:St w0 w H) (hrow:∀ w',St w0 w' H→Row w' 6 ov l.length (evsCs l)) (hl63:l.length < 1000000)
  (hK:∀ w',St w0 w' H→K (.tuple [.bool (befP l i j).1,I64 (befP l i j).2].toArray) w'):CallL P 27 [ov,.int .i64 i,.int .i64 j] w K:=by
 obtain ⟨sa,sc,hov⟩:=(hrow w h).form
 subst hov
 refine f27_ok _ _ _ _ _ _ _ ?_
 rw [f27_eq,z89]
 refine run_ok h hrow (by omega) (fun x hx w1 h1=>⟨_,x,rfl,?_⟩) (fun hh hrun w1 v1 v2 v3 L1 L2 L3 hho h1=>⟨_,0,rfl,?_⟩)
 ·refine h1.newC fun n6 w2 hn6 h2=>h2.stA (k:=0) rfl rfl (by simp) (by simp [Value.oneCell']) fun w3 h3=>?_
  have hx0:x≠0:=by
   unfold Mo.run at hx
   split at hx
   ·cases hx; omega
   ·split at hx
    ·cases hx
    ·cases hx; omega
  rw [show (x != 0)=true by simpa using hx0,BIf_true]
  have hp:befP l i j=(false,x):=by unfold befP; rw [hx]
  rw [hp] at hK
  exact hK _ (h3.tail hn6)
 ·obtain ⟨a1,c1,e1⟩:=hho.s1.form
  obtain ⟨a2,c2,e2⟩:=hho.s2.form
  obtain ⟨a3,c3,e3⟩:=hho.s3.form
  refine h1.newC fun n6 w2 hn6 h2=>h2.stA (k:=0) rfl rfl (by simp) (by simp [e1,e2,e3,Value.oneCell']) fun w3 h3=>?_
  rw [show ((0:Int) != 0)=false by decide,BIf_false,f27_s0_eq]
  have h3:St w0 w3 ((n6,Cs [v1,v2,v3] 141)::(L1++(L2++(L3++H)))):=h3
  have hback:∀ {w':World},St w0 w' ((n6,Cs [v1,v2,v3] 141)::(L1++(L2++(L3++H))))→St w0 w' H:=fun h'=>(((h'.tail hn6).sub hho.n1).sub hho.n2).sub hho.n3
  obtain ⟨hokl,hl20,_⟩:=run_Ok hrun
  have hlen:=(run_facts hrun).1
  have bad:(i < 0∨i≥l.length∨j < 0∨j≥l.length)→f27_s1 true j i sa l.length sc (Addr.mk n6 0 none) w3 K:=fun hb=>by
   rw [f27_s1_eq,BIf_true]
   have hp:befP l i j=(false,1):=by unfold befP; rw [hrun]; simp only; rw [if_pos hb]
   rw [hp] at hK
   exact hK _ (hback h3)
  have good:¬ (i < 0∨i≥l.length∨j < 0∨j≥l.length)→f27_s1 false j i sa l.length sc (Addr.mk n6 0 none) w3 K:=fun hb=>by
   rw [f27_s1_eq,BIf_false,f27_s2_eq]
   have hp:befP l i j=(decide (i < j) && before hh (accO (Mo.evN l i.toNat) i) j.toNat,0):=by unfold befP; rw [hrun]; simp only; rw [if_neg hb]
   rw [hp] at hK
   have hi:i.toNat < l.length:=by omega
   have hj:j.toNat < l.length:=by omega
   rw [BIf_iff]
   constructor
   ·intro hlt
    have hlt:i < j:=by simpa using hlt
    rw [decide_eq_true hlt,Bool.true_and] at hK
    refine h3.ldA (k:=0) (i:=0) rfl (by simp) ?_
    rw [show (([v1,v2,v3]:List Value).drop 0).take 3=[v1,v2,v3] from rfl]
    have hti:((i.toNat:Nat):Int)=i:=by omega
    have htj:((j.toNat:Nat):Int)=j:=by omega
    have hth:=hokl.th hi
    have hb:=before_ok (K:=fun r24 w25=>∃ b26:Bool,r24=(Value.bool b26)∧f27_s3 b26 0 w25 K) h3 (fun w' h'=>hrow w' (hback h')) hho (fun y hy=>by simp [hy]) hlen (x:=accO (Mo.evN l i.toNat) i) (i:=i.toNat) (j:=j.toNat) hi hj (by show i=_; omega) (by rw [evN_at hi]; rfl) hth (fun w' h'=>⟨_,rfl,by rw [f27_s3_eq]; exact hK w' (hback h')⟩)
    rw [htj] at hb
    exact hb
   ·intro hge
    have hge:¬ i < j:=by simpa using hge
    rw [decide_eq_false hge,Bool.false_and] at hK
    rw [f27_s3_eq]
    exact hK _ (hback h3)
  rw [BIf_iff]
  refine ⟨fun hc=>bad (.inl (by simpa using hc)),fun hc=>⟨l.length,fun wq _=>run_len_22 wq,?_⟩⟩
  have hc:¬ i < 0:=by simpa using hc
  rw [BIf_iff]
  refine ⟨fun hc2=>bad (.inr (.inl (by simpa using hc2))),fun hc2=>?_⟩
  have hc2:¬ i≥l.length:=by simpa using hc2
  rw [BIf_iff]
  refine ⟨fun hc3=>bad (.inr (.inr (.inl (by simpa using hc3)))),fun hc3=>⟨l.length,fun wq _=>run_len_22 wq,?_⟩⟩
  have hc3:¬ j < 0:=by simpa using hc3
  by_cases hc4:j≥l.length
  ·rw [decide_eq_true hc4]
   exact bad (.inr (.inr (.inr hc4)))
  ·rw [decide_eq_false hc4]
   exact good (by omega)
set_option maxHeartbeats 1000000 in
theorem refBefore_ok {l:List Ev} {ov:Value} (i j:Int) (h:St w0 w H) (hrow:∀ w',St w0 w' H→Row w' 6 ov l.length (evsCs l)) (hl80:l.length≤1000)
  (hK:∀ w',St w0 w' H→K (.tuple [.bool (befR l i j).1,I64 (befR l i j).2].toArray) w'):CallL P 28 [ov,.int .i64 i,.int .i64 j] w K:=by
 obtain ⟨sa,sc,hov⟩:=(hrow w h).form
 subst hov
 refine f28_ok _ _ _ _ _ _ _ ?_
 rw [f28_eq,z113e]
 have h0:=errCs_any 0
 refine order_ok' h hrow (fun x hx hx0 w1 h1=>⟨_,rfl,?_⟩) fun r hr hl20 hbd w1 cs g1=>⟨_,rfl,?_⟩
 ·have hxc:=errCs_any x
  refine h1.newC fun n7 w2 hn7 h2=>h2.stA (k:=0) rfl (by simp [hxc.len]) (by simp [hxc.len,h0.len]) hxc.one fun w3 h3=>?_
  have h3:St w0 w3 ((n7,Cs (splice (errCs 0) 0 (errCs x)) 64)::H):=h3
  rw [splice_whole (by rw [hxc.len,h0.len])] at h3
  have hp:befR l i j=(false,x):=by unfold befR; rw [hx]
  rw [hp] at hK
  refine ⟨x,by rw [add_lit',h3.cell (k:=0) rfl]; simp [errCs],?_⟩
  rw [show (x != 0)=true by simpa using hx0,BIf_true]
  exact ⟨x,by rw [add_lit',h3.drew.cell (k:=0) rfl]; simp [errCs],hK _ (h3.drew.tail hn7)⟩
 ·have hofk:=rord_of hr
  obtain ⟨lv,vv,xv,LL,LO,LX,rfl,hri,hs⟩:=g1
  have hc:Any20 (runCs r 0 lv vv xv):=⟨runCs_len hri.bl hri.el,runCs_one (slO_one hri.sl) (slO_one hri.so) (slO_one hri.sx)⟩
  refine hs.newC fun n7 w2 hn7 h2=>h2.stA (k:=0) rfl (by simp [hc.len]) (by simp [hc.len,h0.len]) hc.one fun w3 h3=>?_
  have h3:St w0 w3 ((n7,Cs (splice (errCs 0) 0 (runCs r 0 lv vv xv)) 64)::(LL++(LO++(LX++H)))):=h3
  rw [splice_whole (by rw [hc.len,h0.len])] at h3
  have hback:∀ {w':World},St w0 w' ((n7,Cs (runCs r 0 lv vv xv) 64)::(LL++(LO++(LX++H))))→St w0 w' H:=fun h'=>(((h'.tail hn7).sub hri.nl).sub hri.no).sub hri.nx
  have c19:(runCs r 0 lv vv xv)[19]?=some (I64 0):=by
   show (flagCs r 0)[16]?=_
   unfold flagCs
   rw [List.getElem?_append_right (by simp [hri.bl]),List.getElem?_append_right (by simp [hri.bl,hri.el])]
   simp [hri.bl,hri.el]
  refine ⟨0,by rw [add_lit',h3.cell (k:=0) rfl]; exact c19,?_⟩
  rw [show ((0:Int) != 0)=false by decide,BIf_false,f28_s0_eq]
  have bad:(i < 0∨i≥l.length∨j < 0∨j≥l.length)→f28_s1 true j sa l.length sc i (Addr.mk n7 0 none) w3 K:=fun hb=>by
   rw [f28_s1_eq,BIf_true]
   have hp:befR l i j=(false,1):=by unfold befR; rw [hr]; simp only; rw [if_pos hb]
   rw [hp] at hK
   exact hK _ (hback h3)
  have good:¬ (i < 0∨i≥l.length∨j < 0∨j≥l.length)→f28_s1 false j sa l.length sc i (Addr.mk n7 0 none) w3 K:=fun hb=>by
   rw [f28_s1_eq,BIf_false,f28_s2_eq]
   have hp:befR l i j=((afterE r i.toNat l.length).getD j.toNat false,0):=by unfold befR; rw [hr]; simp only; rw [if_neg hb]
   rw [hp] at hK
   have hti:((i.toNat:Nat):Int)=i:=by omega
   have fin:∀ w5 g,w0.heap.size≤g→St w0 w5 ((g,Cs ((afterE r i.toNat l.length).map .bool) 4)::(n7,Cs (runCs r 0 lv vv xv) 64)::(LL++(LO++(LX++H))))→
     optS (some (⟨g,0,none⟩:Addr)) (fun a29=>0≤(j:Int)∧(j:Int) < (l.length:Nat)∧∃ b30:Bool,w5.cell? (a29.add (Int.toNat j * 1))=some (Value.bool b30)∧K (Value.tuple [(Value.bool b30),(Value.int .i64 0)].toArray) w5):=fun w5 g hg h5=>by
    refine ⟨by omega,by omega,(afterE r i.toNat l.length).getD j.toNat false,?_,hK w5 (hback (h5.tail hg))⟩
    rw [Nat.mul_one,add_lit',Nat.zero_add,h5.cell (k:=0) rfl]
    exact flag_at (by rw [afterE_len]; omega)
   refine ld20 h3 (k:=0) rfl hc ⟨l.length,fun wq _=>run_len_22 wq,?_⟩
   have hbo:=behind_ok (K:=fun r26 w27=>∃ (s28a:Option Addr) (s28l s28c:Nat),r26=(Value.slice s28a s28l s28c)∧optS s28a (fun a29=>0≤(j:Int)∧(j:Int) < (s28l:Nat)∧∃ b30:Bool,w27.cell? (a29.add (Int.toNat j * 1))=some (Value.bool b30)∧K (Value.tuple [(Value.bool b30),(Value.int .i64 0)].toArray) w27))
    (xv:=xv) (i:=i.toNat) (many:=l.length) h3 (fun w' h'=>hri.sl.row fun y hy=>h'.has _ _ (by simp [hy])) (fun w' h'=>hri.so.row fun y hy=>h'.has _ _ (by simp [hy])) hofk.len (by have:=hbd.l; omega) hofk.mem (by omega) hri.bl hri.el (fun w5 g hg h5=>⟨_,_,_,rfl,fin w5 g hg h5⟩)
   rw [hti] at hbo
   exact hbo
  rw [BIf_iff]
  refine ⟨fun hc=>bad (.inl (by simpa using hc)),fun hc1=>?_⟩
  have hc1:¬ i < 0:=by simpa using hc1
  rw [BIf_iff]
  refine ⟨fun hc2=>bad (.inr (.inr (.inl (by simpa using hc2)))),fun hc2=>⟨l.length,fun wq _=>run_len_22 wq,?_⟩⟩
  have hc2:¬ j < 0:=by simpa using hc2
  rw [BIf_iff]
  refine ⟨fun hc3=>bad (.inr (.inl (by simpa using hc3))),fun hc3=>⟨l.length,fun wq _=>run_len_22 wq,?_⟩⟩
  have hc3:¬ i≥l.length:=by simpa using hc3
  by_cases hc4:j≥l.length
  ·rw [decide_eq_true hc4]
   exact bad (.inr (.inr (.inr hc4)))
  ·rw [decide_eq_false hc4]
   exact good (by omega)
end Go.Fx.Tryz
namespace Go.Fx.Tryz
set_option maxRecDepth 100000
open Go Go.Fx
noncomputable def c4:Code:=match Go.Proofs.Tryz.f4.body with
 | some c=>c
 | none=>.skip
noncomputable def rs4:List ResultVar:=Go.Proofs.Tryz.f4.results.toList
abbrev f4_kb (K:KT):Exit→YT:=bodyK P rs4 K
def f4 (s0a:Option Addr) (s0l:Nat) (s0c:Nat) (x1:Int) (x2:Int) (x3:Int) (w:World) (K:KT):Prop:=CS P c4 none [8] [8] (f4_kb K) (env0 145 [(Value.slice s0a s0l s0c),(Value.int .u32 x1),(Value.int .i64 x2),(Value.int .i64 x3)]) w
abbrev f4_k2 (K:KT):Exit→YT:=kseq P (codeAt c4 [1,1,0]) (codeAt c4 [1,1,1]) none [8] [8] (f4_kb K)
def f4_s0 (b8:Bool) (b9:Bool) (x10:Int) (x11:Int) (s12a:Option Addr) (s12l:Nat) (s12c:Nat) (x13:Int) (w:World) (K:KT):Prop:=Join (fun e w=>CS P (codeAt c4 [1,1,0,1]) none [9,3,2,0,1] [8] (f4_k2 K) e w) (Env.mk 145 [(34,(Value.bool b8)),(9,(Value.bool b9)),(3,(Value.int .i64 x10)),(2,(Value.int .i64 x11)),(0,(Value.slice s12a s12l s12c)),(1,(Value.int .u32 x13))] []) w
def f4_s1 (b14:Bool) (x15:Int) (x16:Int) (s17a:Option Addr) (s17l:Nat) (s17c:Nat) (x18:Int) (w:World) (K:KT):Prop:=Join (fun e w=>CS P (codeAt c4 [1,1,1]) none [8] [8] (f4_kb K) e w) (Env.mk 145 [(9,(Value.bool b14)),(3,(Value.int .i64 x15)),(2,(Value.int .i64 x16)),(0,(Value.slice s17a s17l s17c)),(1,(Value.int .u32 x18))] []) w
abbrev f4_k5 (K:KT):Exit→YT:=kseq P (codeAt c4 [1,1,1,0]) (codeAt c4 [1,1,1,1]) none [8] [8] (f4_kb K)
abbrev f4_k7 (K:KT):Exit→YT:=kseq P (codeAt c4 [1,1,1,1,1,0]) (codeAt c4 [1,1,1,1,1,1]) none [8] [8] (f4_kb K)
def f4_s2 (b31:Bool) (b32:Bool) (x33:Int) (x34:Int) (s35a:Option Addr) (s35l:Nat) (s35c:Nat) (x36:Int) (w:World) (K:KT):Prop:=Join (fun e w=>CS P (codeAt c4 [1,1,1,1,1,0,1]) none [9,3,2,0,1] [8] (f4_k7 K) e w) (Env.mk 145 [(77,(Value.bool b31)),(9,(Value.bool b32)),(3,(Value.int .i64 x33)),(2,(Value.int .i64 x34)),(0,(Value.slice s35a s35l s35c)),(1,(Value.int .u32 x36))] []) w
def f4_s3 (b37:Bool) (x38:Int) (x39:Int) (s40a:Option Addr) (s40l:Nat) (s40c:Nat) (x41:Int) (w:World) (K:KT):Prop:=Join (fun e w=>CS P (codeAt c4 [1,1,1,1,1,1]) none [8] [8] (f4_kb K) e w) (Env.mk 145 [(9,(Value.bool b37)),(3,(Value.int .i64 x38)),(2,(Value.int .i64 x39)),(0,(Value.slice s40a s40l s40c)),(1,(Value.int .u32 x41))] []) w
abbrev f4_k10 (K:KT):Exit→YT:=kseq P (codeAt c4 [1,1,1,1,1,1,0]) (codeAt c4 [1,1,1,1,1,1,1]) none [8] [8] (f4_kb K)
def f4_s4 (b72:Bool) (w:World) (K:KT):Prop:=Join (fun e w=>CS P (codeAt c4 [1,1,1,1,1,1,1,1,1,1,1,1,1]) none [8] [8] (f4_kb K) e w) (Env.mk 145 [(8,(Value.bool b72))] []) w
theorem f4_s4_eq (b72:Bool) (w:World) (K:KT):f4_s4 b72 w K=(K (Value.bool b72) w):=by
 have h0:f4_s4 b72 w K=CS P (codeAt c4 [1,1,1,1,1,1,1,1,1,1,1,1,1]) none [8] [8] (f4_kb K) (Env.mk 145 [(8,(Value.bool b72))] []) w:=by kernel_rfl
 have h1:CS P (codeAt c4 [1,1,1,1,1,1,1,1,1,1,1,1,1]) none [8] [8] (f4_kb K) (Env.mk 145 [(8,(Value.bool b72))] []) w=(K (Value.bool b72) w):=by kernel_rfl
 exact h0.trans (h1)
theorem f4_s3_eq (b37:Bool) (x38:Int) (x39:Int) (s40a:Option Addr) (s40l:Nat) (s40c:Nat) (x41:Int) (w:World) (K:KT):f4_s3 b37 x38 x39 s40a s40l s40c x41 w K=(CallL P 23 [(Value.slice s40a s40l s40c),(Value.int .u32 x41)] w (fun r42 w43=>∃ (s44a:Option Addr) (s44l s44c:Nat),∃ x45:Int,r42=(Value.tuple [(Value.slice s44a s44l s44c),(Value.int .i64 x45)].toArray)∧CallL P 24 [(Value.slice s40a s40l s40c),(Value.int .u32 x41)] w43 (fun r46 w47=>∃ (s48a:Option Addr) (s48l s48c:Nat),∃ x49:Int,r46=(Value.tuple [(Value.slice s48a s48l s48c),(Value.int .i64 x49)].toArray)∧CallL P 25 [(Value.slice s40a s40l s40c)] w47 (fun r50 w51=>∃ (s52a:Option Addr) (s52l s52c:Nat),∃ x53:Int,r50=(Value.tuple [(Value.slice s52a s52l s52c),(Value.int .i64 x53)].toArray)∧CallL P 26 [(Value.slice s40a s40l s40c)] w51 (fun r54 w55=>∃ (s56a:Option Addr) (s56l s56c:Nat),∃ x57:Int,r54=(Value.tuple [(Value.slice s56a s56l s56c),(Value.int .i64 x57)].toArray)∧CallL P 27 [(Value.slice s40a s40l s40c),(Value.int .i64 x39),(Value.int .i64 x38)] w55 (fun r58 w59=>∃ b60:Bool,∃ x61:Int,r58=(Value.tuple [(Value.bool b60),(Value.int .i64 x61)].toArray)∧CallL P 28 [(Value.slice s40a s40l s40c),(Value.int .i64 x39),(Value.int .i64 x38)] w59 (fun r62 w63=>∃ b64:Bool,∃ x65:Int,r62=(Value.tuple [(Value.bool b64),(Value.int .i64 x65)].toArray)∧BIf ((x45:Int) == x49) (CallL P 29 [(Value.slice s44a s44l s44c),(Value.slice s48a s48l s48c)] w63 (fun r66 w67=>∃ b68:Bool,r66=(Value.bool b68)∧BIf b68 (BIf ((x53:Int) == x57) (CallL P 15 [(Value.slice s52a s52l s52c),(Value.slice s56a s56l s56c)] w67 (fun r69 w70=>∃ b71:Bool,r69=(Value.bool b71)∧BIf b71 (BIf ((x61:Int) == x65) (BIf (b60 == b64) (f4_s4 b37 w70 K) (f4_s4 false w70 K)) (f4_s4 false w70 K)) (f4_s4 false w70 K))) (f4_s4 false w67 K)) (f4_s4 false w67 K))) (f4_s4 false w63 K)))))))):=by
 have h0:f4_s3 b37 x38 x39 s40a s40l s40c x41 w K=CS P (codeAt c4 [1,1,1,1,1,1]) none [8] [8] (f4_kb K) (Env.mk 145 [(9,(Value.bool b37)),(3,(Value.int .i64 x38)),(2,(Value.int .i64 x39)),(0,(Value.slice s40a s40l s40c)),(1,(Value.int .u32 x41))] []) w:=by kernel_rfl
 have h1:CS P (codeAt c4 [1,1,1,1,1,1]) none [8] [8] (f4_kb K) (Env.mk 145 [(9,(Value.bool b37)),(3,(Value.int .i64 x38)),(2,(Value.int .i64 x39)),(0,(Value.slice s40a s40l s40c)),(1,(Value.int .u32 x41))] []) w=(CS P (codeAt c4 [1,1,1,1,1,1,0]) none [9,14,15,3,2,0,1] [8] (f4_k10 K) (Env.mk 145 [(9,(Value.bool b37)),(3,(Value.int .i64 x38)),(2,(Value.int .i64 x39)),(0,(Value.slice s40a s40l s40c)),(1,(Value.int .u32 x41))] []) w):=CS_seq' (a:=(codeAt c4 [1,1,1,1,1,1,0])) (b:=(codeAt c4 [1,1,1,1,1,1,1])) (by kernel_rfl) (by kernel_rfl)
 have h2:CS P (codeAt c4 [1,1,1,1,1,1,0]) none [9,14,15,3,2,0,1] [8] (f4_k10 K) (Env.mk 145 [(9,(Value.bool b37)),(3,(Value.int .i64 x38)),(2,(Value.int .i64 x39)),(0,(Value.slice s40a s40l s40c)),(1,(Value.int .u32 x41))] []) w=(CallL P 23 [(Value.slice s40a s40l s40c),(Value.int .u32 x41)] w (fun r42 w43=>∃ (s44a:Option Addr) (s44l s44c:Nat),∃ x45:Int,r42=(Value.tuple [(Value.slice s44a s44l s44c),(Value.int .i64 x45)].toArray)∧CallL P 24 [(Value.slice s40a s40l s40c),(Value.int .u32 x41)] w43 (fun r46 w47=>∃ (s48a:Option Addr) (s48l s48c:Nat),∃ x49:Int,r46=(Value.tuple [(Value.slice s48a s48l s48c),(Value.int .i64 x49)].toArray)∧CallL P 25 [(Value.slice s40a s40l s40c)] w47 (fun r50 w51=>∃ (s52a:Option Addr) (s52l s52c:Nat),∃ x53:Int,r50=(Value.tuple [(Value.slice s52a s52l s52c),(Value.int .i64 x53)].toArray)∧CallL P 26 [(Value.slice s40a s40l s40c)] w51 (fun r54 w55=>∃ (s56a:Option Addr) (s56l s56c:Nat),∃ x57:Int,r54=(Value.tuple [(Value.slice s56a s56l s56c),(Value.int .i64 x57)].toArray)∧CallL P 27 [(Value.slice s40a s40l s40c),(Value.int .i64 x39),(Value.int .i64 x38)] w55 (fun r58 w59=>∃ b60:Bool,∃ x61:Int,r58=(Value.tuple [(Value.bool b60),(Value.int .i64 x61)].toArray)∧CallL P 28 [(Value.slice s40a s40l s40c),(Value.int .i64 x39),(Value.int .i64 x38)] w59 (fun r62 w63=>∃ b64:Bool,∃ x65:Int,r62=(Value.tuple [(Value.bool b64),(Value.int .i64 x65)].toArray)∧BIf ((x45:Int) == x49) (CallL P 29 [(Value.slice s44a s44l s44c),(Value.slice s48a s48l s48c)] w63 (fun r66 w67=>∃ b68:Bool,r66=(Value.bool b68)∧BIf b68 (BIf ((x53:Int) == x57) (CallL P 15 [(Value.slice s52a s52l s52c),(Value.slice s56a s56l s56c)] w67 (fun r69 w70=>∃ b71:Bool,r69=(Value.bool b71)∧BIf b71 (BIf ((x61:Int) == x65) (BIf (b60 == b64) (f4_s4 b37 w70 K) (f4_s4 false w70 K)) (f4_s4 false w70 K)) (f4_s4 false w70 K))) (f4_s4 false w67 K)) (f4_s4 false w67 K))) (f4_s4 false w63 K)))))))):=by kernel_rfl
 exact h0.trans (h1.trans (h2))
theorem f4_s2_eq (b31:Bool) (b32:Bool) (x33:Int) (x34:Int) (s35a:Option Addr) (s35l:Nat) (s35c:Nat) (x36:Int) (w:World) (K:KT):f4_s2 b31 b32 x33 x34 s35a s35l s35c x36 w K=(BIf b31 (K (Value.bool false) w) (f4_s3 b32 x33 x34 s35a s35l s35c x36 w K)):=by
 have h0:f4_s2 b31 b32 x33 x34 s35a s35l s35c x36 w K=CS P (codeAt c4 [1,1,1,1,1,0,1]) none [9,3,2,0,1] [8] (f4_k7 K) (Env.mk 145 [(77,(Value.bool b31)),(9,(Value.bool b32)),(3,(Value.int .i64 x33)),(2,(Value.int .i64 x34)),(0,(Value.slice s35a s35l s35c)),(1,(Value.int .u32 x36))] []) w:=by kernel_rfl
 have h1:CS P (codeAt c4 [1,1,1,1,1,0,1]) none [9,3,2,0,1] [8] (f4_k7 K) (Env.mk 145 [(77,(Value.bool b31)),(9,(Value.bool b32)),(3,(Value.int .i64 x33)),(2,(Value.int .i64 x34)),(0,(Value.slice s35a s35l s35c)),(1,(Value.int .u32 x36))] []) w=(BIf b31 (K (Value.bool false) w) (f4_s3 b32 x33 x34 s35a s35l s35c x36 w K)):=by kernel_rfl
 exact h0.trans (h1)
theorem f4_s1_eq (b14:Bool) (x15:Int) (x16:Int) (s17a:Option Addr) (s17l:Nat) (s17c:Nat) (x18:Int) (w:World) (K:KT):f4_s1 b14 x15 x16 s17a s17l s17c x18 w K=(CallL P 17 [(Value.slice s17a s17l s17c)] w (fun r19 w20=>∃ cs21:Array Value,r19=(Value.agg cs21)∧NewC (zcells P 64) 64 w20 (fun n22 w23=>StA 20 (Addr.mk n22 0 none) cs21 w23 (fun w24=>CallL P 18 [(Value.slice s17a s17l s17c)] w24 (fun r25 w26=>∃ (s27a:Option Addr) (s27l s27c:Nat),∃ (s28a:Option Addr) (s28l s28c:Nat),∃ x29:Int,r25=(Value.tuple [(Value.slice s27a s27l s27c),(Value.slice s28a s28l s28c),(Value.int .i64 x29)].toArray)∧∃ x30:Int,w26.cell? ((Addr.mk n22 0 none).add 19)=some (Value.int .i64 x30)∧BIf ((x29:Int) != x30) (f4_s2 true b14 x15 x16 s17a s17l s17c x18 w26 K) (BIf ((x29:Int) == 0) (∃ (s73a:Option Addr) (s73l s73c:Nat),w26.cell? (Addr.mk n22 0 none)=some (Value.slice s73a s73l s73c)∧CallL P 19 [(Value.slice s27a s27l s27c),(Value.slice s73a s73l s73c)] w26 (fun r74 w75=>∃ b76:Bool,r74=(Value.bool b76)∧BIf (!b76) (f4_s2 true b14 x15 x16 s17a s17l s17c x18 w75 K) (∃ (s77a:Option Addr) (s77l s77c:Nat),w75.cell? ((Addr.mk n22 0 none).add 1)=some (Value.slice s77a s77l s77c)∧CallL P 20 [(Value.slice s28a s28l s28c),(Value.slice s77a s77l s77c)] w75 (fun r78 w79=>∃ b80:Bool,r78=(Value.bool b80)∧BIf (!b80) (f4_s2 true b14 x15 x16 s17a s17l s17c x18 w79 K) (CallL P 21 [(Value.slice s27a s27l s27c),(Value.int .i64 x29)] w79 (fun r81 w82=>∃ b83:Bool,r81=(Value.bool b83)∧BIf (!b83) (f4_s2 true b14 x15 x16 s17a s17l s17c x18 w82 K) (CallL P 22 [(Value.slice s28a s28l s28c),(Value.int .i64 x29)] w82 (fun r84 w85=>∃ b86:Bool,r84=(Value.bool b86)∧f4_s2 (!b86) b14 x15 x16 s17a s17l s17c x18 w85 K)))))))) (CallL P 21 [(Value.slice s27a s27l s27c),(Value.int .i64 x29)] w26 (fun r87 w88=>∃ b89:Bool,r87=(Value.bool b89)∧BIf (!b89) (f4_s2 true b14 x15 x16 s17a s17l s17c x18 w88 K) (CallL P 22 [(Value.slice s28a s28l s28c),(Value.int .i64 x29)] w88 (fun r90 w91=>∃ b92:Bool,r90=(Value.bool b92)∧f4_s2 (!b92) b14 x15 x16 s17a s17l s17c x18 w91 K)))))))))):=by
 have h0:f4_s1 b14 x15 x16 s17a s17l s17c x18 w K=CS P (codeAt c4 [1,1,1]) none [8] [8] (f4_kb K) (Env.mk 145 [(9,(Value.bool b14)),(3,(Value.int .i64 x15)),(2,(Value.int .i64 x16)),(0,(Value.slice s17a s17l s17c)),(1,(Value.int .u32 x18))] []) w:=by kernel_rfl
 have h1:CS P (codeAt c4 [1,1,1]) none [8] [8] (f4_kb K) (Env.mk 145 [(9,(Value.bool b14)),(3,(Value.int .i64 x15)),(2,(Value.int .i64 x16)),(0,(Value.slice s17a s17l s17c)),(1,(Value.int .u32 x18))] []) w=(CS P (codeAt c4 [1,1,1,0]) none [9,3,2,0,1,10] [8] (f4_k5 K) (Env.mk 145 [(9,(Value.bool b14)),(3,(Value.int .i64 x15)),(2,(Value.int .i64 x16)),(0,(Value.slice s17a s17l s17c)),(1,(Value.int .u32 x18))] []) w):=CS_seq' (a:=(codeAt c4 [1,1,1,0])) (b:=(codeAt c4 [1,1,1,1])) (by kernel_rfl) (by kernel_rfl)
 have h2:CS P (codeAt c4 [1,1,1,0]) none [9,3,2,0,1,10] [8] (f4_k5 K) (Env.mk 145 [(9,(Value.bool b14)),(3,(Value.int .i64 x15)),(2,(Value.int .i64 x16)),(0,(Value.slice s17a s17l s17c)),(1,(Value.int .u32 x18))] []) w=(CallL P 17 [(Value.slice s17a s17l s17c)] w (fun r19 w20=>∃ cs21:Array Value,r19=(Value.agg cs21)∧NewC (zcells P 64) 64 w20 (fun n22 w23=>StA 20 (Addr.mk n22 0 none) cs21 w23 (fun w24=>CallL P 18 [(Value.slice s17a s17l s17c)] w24 (fun r25 w26=>∃ (s27a:Option Addr) (s27l s27c:Nat),∃ (s28a:Option Addr) (s28l s28c:Nat),∃ x29:Int,r25=(Value.tuple [(Value.slice s27a s27l s27c),(Value.slice s28a s28l s28c),(Value.int .i64 x29)].toArray)∧∃ x30:Int,w26.cell? ((Addr.mk n22 0 none).add 19)=some (Value.int .i64 x30)∧BIf ((x29:Int) != x30) (f4_s2 true b14 x15 x16 s17a s17l s17c x18 w26 K) (BIf ((x29:Int) == 0) (∃ (s73a:Option Addr) (s73l s73c:Nat),w26.cell? (Addr.mk n22 0 none)=some (Value.slice s73a s73l s73c)∧CallL P 19 [(Value.slice s27a s27l s27c),(Value.slice s73a s73l s73c)] w26 (fun r74 w75=>∃ b76:Bool,r74=(Value.bool b76)∧BIf (!b76) (f4_s2 true b14 x15 x16 s17a s17l s17c x18 w75 K) (∃ (s77a:Option Addr) (s77l s77c:Nat),w75.cell? ((Addr.mk n22 0 none).add 1)=some (Value.slice s77a s77l s77c)∧CallL P 20 [(Value.slice s28a s28l s28c),(Value.slice s77a s77l s77c)] w75 (fun r78 w79=>∃ b80:Bool,r78=(Value.bool b80)∧BIf (!b80) (f4_s2 true b14 x15 x16 s17a s17l s17c x18 w79 K) (CallL P 21 [(Value.slice s27a s27l s27c),(Value.int .i64 x29)] w79 (fun r81 w82=>∃ b83:Bool,r81=(Value.bool b83)∧BIf (!b83) (f4_s2 true b14 x15 x16 s17a s17l s17c x18 w82 K) (CallL P 22 [(Value.slice s28a s28l s28c),(Value.int .i64 x29)] w82 (fun r84 w85=>∃ b86:Bool,r84=(Value.bool b86)∧f4_s2 (!b86) b14 x15 x16 s17a s17l s17c x18 w85 K)))))))) (CallL P 21 [(Value.slice s27a s27l s27c),(Value.int .i64 x29)] w26 (fun r87 w88=>∃ b89:Bool,r87=(Value.bool b89)∧BIf (!b89) (f4_s2 true b14 x15 x16 s17a s17l s17c x18 w88 K) (CallL P 22 [(Value.slice s28a s28l s28c),(Value.int .i64 x29)] w88 (fun r90 w91=>∃ b92:Bool,r90=(Value.bool b92)∧f4_s2 (!b92) b14 x15 x16 s17a s17l s17c x18 w91 K)))))))))):=by kernel_rfl
 exact h0.trans (h1.trans (h2))
theorem f4_s0_eq (b8:Bool) (b9:Bool) (x10:Int) (x11:Int) (s12a:Option Addr) (s12l:Nat) (s12c:Nat) (x13:Int) (w:World) (K:KT):f4_s0 b8 b9 x10 x11 s12a s12l s12c x13 w K=(BIf b8 (K (Value.bool b9) w) (f4_s1 b9 x10 x11 s12a s12l s12c x13 w K)):=by
 have h0:f4_s0 b8 b9 x10 x11 s12a s12l s12c x13 w K=CS P (codeAt c4 [1,1,0,1]) none [9,3,2,0,1] [8] (f4_k2 K) (Env.mk 145 [(34,(Value.bool b8)),(9,(Value.bool b9)),(3,(Value.int .i64 x10)),(2,(Value.int .i64 x11)),(0,(Value.slice s12a s12l s12c)),(1,(Value.int .u32 x13))] []) w:=by kernel_rfl
 have h1:CS P (codeAt c4 [1,1,0,1]) none [9,3,2,0,1] [8] (f4_k2 K) (Env.mk 145 [(34,(Value.bool b8)),(9,(Value.bool b9)),(3,(Value.int .i64 x10)),(2,(Value.int .i64 x11)),(0,(Value.slice s12a s12l s12c)),(1,(Value.int .u32 x13))] []) w=(BIf b8 (K (Value.bool b9) w) (f4_s1 b9 x10 x11 s12a s12l s12c x13 w K)):=by kernel_rfl
 exact h0.trans (h1)
theorem f4_eq (s0a:Option Addr) (s0l:Nat) (s0c:Nat) (x1:Int) (x2:Int) (x3:Int) (w:World) (K:KT):f4 s0a s0l s0c x1 x2 x3 w K=(CallL P 5 [] w (fun r4 w5=>∃ b6:Bool,r4=(Value.bool b6)∧∃ x7:Int,(∀ wq,Ext w5 wq→(Builtin.len_ #[22] 3 [(Value.slice s0a s0l s0c)].toArray).run P wq=.ok (Value.int .i64 x7) wq)∧BIf (decide ((x7:Int) > 80)) (f4_s0 true b6 x3 x2 s0a s0l s0c x1 w5 K) (CallL P 16 [(Value.slice s0a s0l s0c)] w5 (fun r93 w94=>∃ x95:Int,r93=(Value.int .i64 x95)∧f4_s0 (decide ((x95:Int) > 200000)) b6 x3 x2 s0a s0l s0c x1 w94 K)))):=by kernel_rfl
theorem c4_eq:Go.Proofs.Tryz.f4.body=some c4:=by kernel_rfl
theorem f4_un (s0a:Option Addr) (s0l:Nat) (s0c:Nat) (x1:Int) (x2:Int) (x3:Int) (w:World) (K:KT):f4 s0a s0l s0c x1 x2 x3 w K=CS P c4 none (resT Go.Proofs.Tryz.f4.results.toList) (resT Go.Proofs.Tryz.f4.results.toList) (bodyK P Go.Proofs.Tryz.f4.results.toList K) (env0 Go.Proofs.Tryz.f4.ntmps [(Value.slice s0a s0l s0c),(Value.int .u32 x1),(Value.int .i64 x2),(Value.int .i64 x3)]) w:=by kernel_rfl
theorem f4_ok (s0a:Option Addr) (s0l:Nat) (s0c:Nat) (x1:Int) (x2:Int) (x3:Int) (w:World) (K:KT) (h:f4 s0a s0l s0c x1 x2 x3 w K):CallL P 4 [(Value.slice s0a s0l s0c),(Value.int .u32 x1),(Value.int .i64 x2),(Value.int .i64 x3)] w K:=calls_of_CS Go.Proofs.Tryz.func4 c4_eq (Eq.mp (f4_un s0a s0l s0c x1 x2 x3 w K) h)
end Go.Fx.Tryz
namespace Go.Fx.Mo
end Go.Fx.Mo
namespace Go.Fx.Tryz
open Go Go.Fx Go.Fx.Mo
open Go.Proofs
variable {w0 w:World} {H:HL} {K:KT}
set_option maxRecDepth 20000
end Go.Fx.Tryz
namespace Go.Fx.Tryz
set_option maxRecDepth 100000
open Go Go.Fx Go.Proofs
end Go.Fx.Tryz
namespace Go.Proofs
open Go.Shelf
set_option maxRecDepth 100000
end Go.Proofs
namespace Go.Fx.Tryz
open Go Go.Fx Go.Fx.Mo
open Go.Proofs
variable {w0 w:World} {H:HL} {K:KT}
set_option maxRecDepth 20000
end Go.Fx.Tryz
namespace Go.Fx.Mo
end Go.Fx.Mo
namespace Go.Fx.Tryz
open Go Go.Fx Go.Fx.Mo
open Go.Proofs
variable {w0 w:World} {H R0:HL} {K:KT}
set_option maxRecDepth 20000
theorem row1 {ov:Value} {n:Nat} {xs:List Value} (h:Row w 1 ov n xs) {i:Nat} (hi:i < n):∃ a c,ov=.slice (some a) n c∧w.cell? (a.add (i * 1))=xs[i]?:=by
 rcases h.2 with ⟨_,h0⟩ | ⟨a,c,h1,h2⟩
 ·omega
 ·exact ⟨a,c,h1,by rw [Nat.mul_one]; exact h2 i (by omega)⟩
theorem bytes74_ok {l:List Int} {a1 b1:Option Addr} {a2 b2:Nat} (h:St w0 w H) (ha:∀ w',St w0 w' H→Row w' 1 (.slice a1 l.length a2) l.length (l.map encU)) (hb:∀ w',St w0 w' H→Row w' 1 (.slice b1 l.length b2) l.length (l.map encU)) (hl63:l.length < 9223372036854775807)
  (hK:∀ w',St w0 w' H→K (.bool true) w'):CallL P 15 [.slice a1 l.length a2,.slice b1 l.length b2] w K:=by
 refine f15_ok _ _ _ _ _ _ _ _ ?_
 rw [f15_eq,f15_s0_eq,f15_s1_eq]
 refine ⟨l.length,fun wq _=>run_len_101 wq,l.length,fun wq _=>run_len_101 wq,?_⟩
 rw [show ((l.length:Int) != (l.length:Int))=false by simp,BIf_false,f15_s2_eq,f15_s3_eq]
 refine ⟨fun m ee w=>∃ (i:Nat),i≤l.length∧m=l.length - i∧ee=Env.mk 26 [(5,(Value.int .i64 i)),(1,(Value.slice b1 l.length b2)),(0,(Value.slice a1 l.length a2)),(4,(Value.bool false))] []∧St w0 w H,
  ⟨l.length,0,by omega,rfl,rfl,h⟩,?_⟩
 rintro m ee w ⟨i,hi,rfl,rfl,hw⟩
 show f15_lb4 ..
 rw [f15_lb4_eq]
 refine ⟨l.length,fun wq _=>run_len_101 wq,?_⟩
 rw [BIf_iff]
 constructor
 ·intro hlt
  have hlt:i < l.length:=by simpa using hlt
  rw [f15_s5_eq]
  have hd:=hw.drew
  obtain ⟨a,c,hac,hld⟩:=row1 (ha _ hd) hlt
  obtain ⟨hsa,-⟩:a1=some a∧a2=c:=by simpa using hac
  subst hsa
  obtain ⟨b,c',hbc,hldb⟩:=row1 (hb _ hd) hlt
  obtain ⟨hsb,-⟩:b1=some b∧b2=c':=by simpa using hbc
  subst hsb
  have e:((l.map encU)[i]?:Option Value)=some (.int .u32 l[i]):=by simp [hlt]
  rw [e] at hld hldb
  refine ⟨by omega,by omega,by omega,by omega,l[i],hld,l[i],hldb,?_⟩
  rw [show ((l[i]:Int) != l[i])=false by simp,BIf_false,f15_s6_eq]
  refine ⟨l.length - (i+1),by omega,i+1,by omega,rfl,?_,hd⟩
  rw [wrap_i64 (by omega) (by omega)]; rfl
 ·intro hge
  rw [f15_s7_eq]
  exact hK w hw
end Go.Fx.Tryz
namespace Go.Fx.Tryz
open Go Go.Fx Go.Fx.Mo
open Go.Proofs
variable {w0 w:World} {H Y:HL} {K:KT}
set_option maxRecDepth 20000
abbrev Two (Rest:Option Addr→Nat→Nat→Int→Option Addr→Nat→Nat→Int→World→Prop) (g:FuncId) (args:List Value) (s13a:Option Addr) (s13l s13c:Nat) (x14:Int) (w12:World):Prop:=
 CallL P g args w12 (fun r15 w16=>∃ (s17a:Option Addr) (s17l s17c:Nat),∃ x18:Int,r15=(Value.tuple [(Value.slice s17a s17l s17c),(Value.int .i64 x18)].toArray)∧Rest s13a s13l s13c x14 s17a s17l s17c x18 w16)
theorem run_same (l:List Ev):(∃ x,run l=.inr x∧rord l=.inr x∧x≠0)∨∃ h r,run l=.inl h∧rord l=.inl r∧h.orders=r.L∧h.of=r.of:=by
 rcases run_rord l with ⟨x,h1,h2,h3⟩ | ⟨h,r,tk,h1,h2,h3,h4,_⟩
 ·exact .inl ⟨x,h1,h2,by omega⟩
 ·exact .inr ⟨h,r,h1,h2,h3,h4⟩
theorem acc_pair {l:List Ev} {ov:Value} {Rest:Option Addr→Nat→Nat→Int→Option Addr→Nat→Nat→Int→World→Prop} (b:Int) (hl:l.length≤1000) (h:St w0 w H) (hrow:∀ w',St w0 w' H→Row w' 6 ov l.length (evsCs l))
  (hK:∀ (e:Int) (w7:World) (aa ba:Option Addr) (ac bc:Nat) (o:List Mo.Acc) (L:HL),o.length≤1000→
   (∀ w',(∀ y∈L,w'.heap[y.1]?=some y.2)→Row w' 5 (.slice aa o.length ac) o.length (accsZ o)∧Row w' 5 (.slice ba o.length bc) o.length (accsZ o))→New w0 L→St w0 w7 (L++H)→Rest aa o.length ac e ba o.length bc e w7) :
  CallL P 23 [ov,.int .u32 b] w (fun r11 w12=>∃ (s13a:Option Addr) (s13l s13c:Nat),∃ x14:Int,r11=(Value.tuple [(Value.slice s13a s13l s13c),(Value.int .i64 x14)].toArray)∧Two Rest 24 [ov,.int .u32 b] s13a s13l s13c x14 w12):=by
 have nil:∀ w':World,Row w' 5 nilS 0 (accsZ []):=fun w'=>⟨rfl,.inl ⟨rfl,rfl⟩⟩
 have hlen:=hadN_len l b l.length
 rcases run_same l with ⟨x,h1,h2,hx⟩ | ⟨hh,r,h1,h2,_,_⟩
 ·refine accessesZ_ok b h hrow (by omega) (fun y hy hy0 w3 h3=>⟨none,0,0,y,rfl,?_⟩) (fun hh hr=>by rw [h1] at hr; cases hr)
  rw [h1] at hy
  cases hy
  refine refAccesses_ok b h3 hrow (fun y hy hy0 w4 h4=>⟨none,0,0,y,rfl,?_⟩) (fun r hr=>by rw [h2] at hr; cases hr)
  rw [h2] at hy
  cases hy
  exact hK x w4 none none 0 0 [] [] (by simp) (fun w' _=>⟨nil w',nil w'⟩) (New.nil w0) h4
 ·refine accessesZ_ok b h hrow (by omega) (fun y hy hy0=>by rw [h1] at hy; cases hy) (fun _ _ w3 a c Lo hS hN h3=>⟨a,_,c,0,rfl,?_⟩)
  refine refAccesses_ok b h3 (fun w' h'=>hrow w' (h'.sub hN)) (fun y hy hy0=>by rw [h2] at hy; cases hy) (fun _ _ w4 a2 c2 L2 hS2 hN2 h4=>⟨a2,_,c2,0,rfl,?_⟩)
  refine hK 0 w4 a a2 c c2 (hadN l b l.length) (L2++Lo) (by omega) (fun w' hw'=>⟨hS.row fun y hy=>hw' y (List.mem_append_right _ hy),hS2.row fun y hy=>hw' y (List.mem_append_left _ hy)⟩) (fun y hy=>?_) (by rw [List.append_assoc]; exact h4)
  rcases List.mem_append.1 hy with hy | hy
  ·exact hN2 y hy
  ·exact hN y hy
theorem bytes_pair {l:List Ev} {ov:Value} {Rest:Option Addr→Nat→Nat→Int→Option Addr→Nat→Nat→Int→World→Prop} (hl:l.length≤1000) (hla:∀ e∈l,0≤e.a∧e.a < 4294967296) (h:St w0 w H) (hrow:∀ w',St w0 w' H→Row w' 6 ov l.length (evsCs l))
  (hK:∀ (e:Int) (w7:World) (aa ba:Option Addr) (ac bc:Nat) (o:List Int) (L:HL),o.length≤20000→
   (∀ w',(∀ y∈L,w'.heap[y.1]?=some y.2)→Row w' 1 (.slice aa o.length ac) o.length (o.map encU)∧Row w' 1 (.slice ba o.length bc) o.length (o.map encU))→New w0 L→St w0 w7 (L++H)→Rest aa o.length ac e ba o.length bc e w7) :
  CallL P 25 [ov] w (fun r11 w12=>∃ (s13a:Option Addr) (s13l s13c:Nat),∃ x14:Int,r11=(Value.tuple [(Value.slice s13a s13l s13c),(Value.int .i64 x14)].toArray)∧Two Rest 26 [ov] s13a s13l s13c x14 w12):=by
 have nil:∀ w':World,Row w' 1 nilS 0 (([]:List Int).map encU):=fun w'=>⟨rfl,.inl ⟨rfl,rfl⟩⟩
 have href:=bytes_ref hla
 have hpk:∀ r,rord l=.inl r→PartsOk (parts l):=by
  intro r hr
  rcases run_rord l with ⟨x,_,h2,_⟩ | ⟨h,r',tk,h1,_⟩
  ·rw [hr] at h2; cases h2
  ·exact (parts_law (run_Ok h1).1 hla).2.1
 refine bytesZ_ok h hrow (by omega) (fun x hx hx0 w3 h3=>⟨none,0,0,x,rfl,?_⟩) (fun o hx hlen w3 a c Lo hS hN h3=>⟨a,_,c,0,rfl,?_⟩)
 ·rw [href] at hx
  refine bytesRef_ok h3 hrow hpk (fun y hy hy0 w4 h4=>⟨none,0,0,y,rfl,?_⟩) (fun o hy=>by rw [hx] at hy; cases hy)
  rw [hx] at hy
  cases hy
  exact hK x w4 none none 0 0 [] [] (by simp) (fun w' _=>⟨nil w',nil w'⟩) (New.nil w0) h4
 ·rw [href] at hx
  refine bytesRef_ok h3 (fun w' h'=>hrow w' (h'.sub hN)) hpk (fun y hy=>by rw [hx] at hy; cases hy) (fun o2 hy _ w4 a2 c2 L2 hS2 hN2 h4=>⟨a2,_,c2,0,rfl,?_⟩)
  rw [hx] at hy
  cases hy
  refine hK 0 w4 a a2 c c2 o (L2++Lo) hlen (fun w' hw'=>⟨hS.row fun y hy=>hw' y (List.mem_append_right _ hy),hS2.row fun y hy=>hw' y (List.mem_append_left _ hy)⟩) (fun y hy=>?_) (by rw [List.append_assoc]; exact h4)
  rcases List.mem_append.1 hy with hy | hy
  ·exact hN2 y hy
  ·exact hN y hy
theorem ops_s1 {l:List Ev} {sa:Option Addr} {sc:Nat} {i j at_:Int} (hl:l.length≤80) (h:St w0 w H) (hrow:∀ w',St w0 w' H→Row w' 6 (.slice sa l.length sc) l.length (evsCs l))
  (hK:∀ w',St w0 w' H→f4_s2 false true j i sa l.length sc at_ w' K):f4_s1 true j i sa l.length sc at_ w K:=by
 rw [f4_s1_eq,z113e]
 have h0:=errCs_any 0
 rcases run_same l with ⟨x,h1,h2,hx⟩ | ⟨hh,r,h1,h2,hL,hO⟩
 ·refine order_ok' h hrow (fun y hy hy0 w1 g1=>⟨_,rfl,?_⟩) (fun r hr=>by rw [h2] at hr; cases hr)
  rw [h2] at hy
  cases hy
  have hxc:=errCs_any x
  refine g1.newC fun n7 w2 hn7 g2=>g2.stA (k:=0) rfl (by simp [hxc.len]) (by simp [hxc.len,h0.len]) hxc.one fun w3 g3=>?_
  have g3:St w0 w3 ((n7,Cs (splice (errCs 0) 0 (errCs x)) 64)::H):=g3
  rw [splice_whole (by rw [hxc.len,h0.len])] at g3
  refine orderZ_ok g3 (fun w' h'=>hrow w' (h'.tail hn7)) (by omega) (fun y hy hy0 w4 g4=>⟨none,0,0,none,0,0,y,rfl,x,?_,?_⟩) (fun hh hr=>by rw [h1] at hr; cases hr)
  ·rw [add_lit',g4.cell (k:=0) rfl]; simp [errCs]
  ·rw [h1] at hy
   cases hy
   rw [show (x != x)=false by simp,BIf_false,show (x == 0)=false by simpa using hx,BIf_false]
   refine zero21_ok (.inr rfl) ⟨true,rfl,?_⟩
   rw [show (!true)=false from rfl,BIf_false]
   refine zero22_ok (.inr rfl) ⟨true,rfl,?_⟩
   exact hK w4 (g4.tail hn7)
 ·refine order_ok' h hrow (fun y hy=>by rw [h2] at hy; cases hy) fun r' hr hl20 hbd w1 cs g1=>⟨_,rfl,?_⟩
  rw [h2] at hr
  cases hr
  obtain ⟨lv,vv,xv,LL,LO,LX,rfl,hri,hs⟩:=g1
  have hc:Any20 (runCs r 0 lv vv xv):=⟨runCs_len hri.bl hri.el,runCs_one (slO_one hri.sl) (slO_one hri.so) (slO_one hri.sx)⟩
  refine hs.newC fun n7 w2 hn7 g2=>g2.stA (k:=0) rfl (by simp [hc.len]) (by simp [hc.len,h0.len]) hc.one fun w3 g3=>?_
  have g3:St w0 w3 ((n7,Cs (splice (errCs 0) 0 (runCs r 0 lv vv xv)) 64)::(LL++(LO++(LX++H)))):=g3
  rw [splice_whole (by rw [hc.len,h0.len])] at g3
  have hback:∀ {w':World},St w0 w' ((n7,Cs (runCs r 0 lv vv xv) 64)::(LL++(LO++(LX++H))))→St w0 w' H:=fun h'=>(((h'.tail hn7).sub hri.nl).sub hri.no).sub hri.nx
  have c19:(runCs r 0 lv vv xv)[19]?=some (I64 0):=by
   show (flagCs r 0)[16]?=_
   unfold flagCs
   rw [List.getElem?_append_right (by simp [hri.bl]),List.getElem?_append_right (by simp [hri.bl,hri.el])]
   simp [hri.bl,hri.el]
  refine orderZ_ok g3 (fun w' h'=>hrow w' (hback h')) (by omega) (fun y hy=>by rw [h1] at hy; cases hy) (fun hh' hr w4 a1 c1 a2 c2 L1 L2 hS1 hS2 hN1 hN2 g4=>⟨a1,_,c1,a2,_,c2,0,rfl,0,?_,?_⟩)
  ·have g5:=(g4.sub hN1).sub hN2
   rw [add_lit',g5.cell (k:=0) rfl]; exact c19
  ·rw [h1] at hr
   cases hr
   rw [hL] at hS1 ⊢
   rw [hO] at hS2 ⊢
   have fin:∀ {w':World},St w0 w' (L1++(L2++((n7,Cs (runCs r 0 lv vv xv) 64)::(LL++(LO++(LX++H))))))→St w0 w' ((n7,Cs (runCs r 0 lv vv xv) 64)::(LL++(LO++(LX++H)))):=fun h'=>(h'.sub hN1).sub hN2
   obtain ⟨la,lc,hlv⟩:=hri.sl.form
   obtain ⟨oa,oc,hov⟩:=hri.so.form
   rw [show ((0:Int) != 0)=false by decide,BIf_false,show ((0:Int) == 0)=true by decide,BIf_true]
   refine ⟨la,_,lc,by rw [(fin g4).cell (k:=0) rfl,← hlv]; rfl,?_⟩
   have hb:=hbd.l
   have hofk:=rord_of h2
   refine sameOrd_ok g4 (fun w' h'=>hS1.row fun y hy=>h'.has _ _ (by simp [hy])) (fun w' h'=>by rw [← hlv]; exact hri.sl.row fun y hy=>h'.has _ _ (by simp [hy])) (by omega) fun w5 g5=>⟨true,rfl,?_⟩
   rw [show (!true)=false from rfl,BIf_false]
   refine ⟨oa,_,oc,by rw [add_lit',(fin g5).cell (k:=0) rfl,← hov]; rfl,?_⟩
   refine sameInt_ok g5 (fun w' h'=>hS2.row fun y hy=>h'.has _ _ (by simp [hy])) (fun w' h'=>by rw [← hov]; exact hri.so.row fun y hy=>h'.has _ _ (by simp [hy])) (by rw [hofk.len]; omega) fun w6 g6=>⟨true,rfl,?_⟩
   rw [show (!true)=false from rfl,BIf_false]
   refine zero21_ok (.inl rfl) ⟨true,rfl,?_⟩
   rw [show (!true)=false from rfl,BIf_false]
   refine zero22_ok (.inl rfl) ⟨true,rfl,?_⟩
   exact hK w6 (hback (fin g6))
theorem raceOperations_ok {l:List Ev} {ov:Value} (at_ i j:Int) (hla:∀ e∈l,0≤e.a∧e.a < 4294967296) (h:St w0 w H) (hrow:∀ w',St w0 w' H→Row w' 6 ov l.length (evsCs l)) (hK:∀ w',St w0 w' H→K (.bool true) w') :
  CallL P 4 [ov,.int .u32 at_,.int .i64 i,.int .i64 j] w K:=by
 obtain ⟨sa,sc,hov⟩:=(hrow w h).form
 subst hov
 refine f4_ok _ _ _ _ _ _ _ _ ?_
 rw [f4_eq]
 refine sane_ok h fun w1 h1=>⟨true,rfl,l.length,fun wq _=>run_len_22 wq,?_⟩
 have yes:∀ w',St w0 w' H→f4_s0 true true j i sa l.length sc at_ w' K:=fun w' h'=>by rw [f4_s0_eq,BIf_true]; exact hK w' h'
 rw [BIf_iff]
 refine ⟨fun _=>yes w1 h1,fun hle=>?_⟩
 have hl:l.length≤80:=by simp at hle; omega
 refine bytesOf_ok h1 hrow (by omega) fun x w2 h2=>⟨x,rfl,?_⟩
 cases hx:decide (x > 200000)
 ·rw [f4_s0_eq,BIf_false]
  refine ops_s1 hl h2 hrow fun w3 h3=>?_
  rw [f4_s2_eq,BIf_false,f4_s3_eq]
  refine acc_pair at_ (by omega) h3 hrow ?_
  intro e1 w4 aa ba ac bc o1 L1 hl1 hr1 hN1 h4
  have hrow1:∀ w',St w0 w' (L1++H)→Row w' 6 (.slice sa l.length sc) l.length (evsCs l):=fun w' h'=>hrow w' (h'.sub hN1)
  refine bytes_pair (by omega) hla h4 hrow1 ?_
  intro e2 w5 ca da cc dc o2 L2 hl2 hr2 hN2 h5
  have hrow2:∀ w',St w0 w' (L2++(L1++H))→Row w' 6 (.slice sa l.length sc) l.length (evsCs l):=fun w' h'=>hrow1 w' (h'.sub hN2)
  refine beforeZ_ok i j h5 hrow2 (by omega) fun w6 h6=>⟨_,_,rfl,?_⟩
  refine refBefore_ok i j h6 hrow2 (by omega) fun w7 h7=>⟨_,_,rfl,?_⟩
  rw [← bef_ref]
  rw [show (e1 == e1)=true by simp,BIf_true]
  refine sameAcc_ok h7 (fun w' h'=>(hr1 w' fun y hy=>h'.has _ _ (by simp [hy])).1) (fun w' h'=>(hr1 w' fun y hy=>h'.has _ _ (by simp [hy])).2) (by omega) fun w8 h8=>⟨true,rfl,?_⟩
  rw [BIf_true,show (e2 == e2)=true by simp,BIf_true]
  refine bytes74_ok h8 (fun w' h'=>(hr2 w' fun y hy=>h'.has _ _ (by simp [hy])).1) (fun w' h'=>(hr2 w' fun y hy=>h'.has _ _ (by simp [hy])).2) (by omega) fun w9 h9=>⟨true,rfl,?_⟩
  rw [BIf_true,show ((befP l i j).2 == (befP l i j).2)=true by simp,BIf_true,show ((befP l i j).1 == (befP l i j).1)=true by simp,BIf_true,f4_s4_eq]
  exact hK w9 ((h9.sub hN2).sub hN1)
 ·exact yes w2 h2
end Go.Fx.Tryz
namespace Go.Fx
open Go
theorem St.below {w0 w:World} (h:St w0 w []):RowKit.Below w0.heap.size w0 w:=⟨h.kept.os,h.kept.tape,h.kept.output,h.le,fun k hk=>h.old k hk (by simp)⟩
namespace Tryz
open Go.Fx.Mo
open Go.Proofs
set_option maxRecDepth 20000
theorem cells35:P.cellsOf 45=6:=by kernel_rfl
theorem cells3:P.cellsOf 3=1:=by kernel_rfl
theorem cells33:P.cellsOf 43=1:=by kernel_rfl
variable {H:Type} {enc:TypeId × Value→H} {W:World}
theorem evs_cell (l:List Ev) {i j:Nat} (hi:i < l.length) (hj:j < 6):(evsCs l)[i * 6+j]?=(Evcs l[i])[j]?:=by
 have h:=evs_at hi
 have:=congrArg (fun l=>l[j]?) h
 simp only [List.getElem?_take,hj,if_true,List.getElem?_drop] at this
 exact this
theorem own:ownKnob P.godebug=none:=by kernel_rfl
theorem laidOut:laidOutB P=true:=by kernel_rfl
theorem readable22:P.readableRec 22=true:=by kernel_rfl
theorem types22:22 < P.types.size:=of_decide_eq_true (by kernel_rfl)
end Tryz
end Go.Fx
namespace Go.Fx.Tryz
open Go Go.Fx Go.Fx.Mo
open Go.Proofs
set_option maxRecDepth 20000
variable {H:Type} {enc:TypeId × Value→H} {W:World}
theorem wf_u32 {n:Int} (h:(Lit.int .u32 n).wf=true):0≤n∧n < 4294967296:=by
 simp [Lit.wf,IntKind.min,IntKind.max,IntKind.signed,IntKind.bits] at h
 omega
theorem open_event_in {base:Nat} {spare:Nat→Bool} {held:Bool} {fuel:Nat} {cs:List Value} {x:DataW H × List MemPlace} (h:DataW.trod enc P W base spare held fuel 45 cs=some x):∃ e:Ev,cs=Evcs e∧0≤e.a∧e.a < 4294967296:=by
 obtain ⟨xs,n,_,_,hl,hlen,hf⟩:=DataW.trod_struct Tryz.underlying45 h
 rw [cells35] at hl
 match cs,hl with
 | [c0,c1,c2,c3,c4,c5],_=>
 have hx:∀ i,i < 6→∃ y,xs[i]?=some y:=fun i hi=>⟨xs[i]'(by rw [hlen]; exact hi),List.getElem?_eq_getElem _⟩
 obtain ⟨y0,e0⟩:=hx 0 (by omega)
 obtain ⟨y1,e1⟩:=hx 1 (by omega)
 obtain ⟨y2,e2⟩:=hx 2 (by omega)
 obtain ⟨y3,e3⟩:=hx 3 (by omega)
 obtain ⟨y4,e4⟩:=hx 4 (by omega)
 obtain ⟨y5,e5⟩:=hx 5 (by omega)
 obtain ⟨k0,g0,_⟩:=DataW.trod_int Tryz.underlying3 ((hf 0 _ rfl).trans e0)
 obtain ⟨k1,g1,_⟩:=DataW.trod_int Tryz.underlying3 ((hf 1 _ rfl).trans e1)
 obtain ⟨k2,g2,_⟩:=DataW.trod_int Tryz.underlying43 ((hf 2 _ rfl).trans e2)
 obtain ⟨k3,g3,_,w3⟩:=DataW.trod_int Tryz.underlying43 ((hf 3 _ rfl).trans e3)
 obtain ⟨k4,g4,_⟩:=DataW.trod_int Tryz.underlying43 ((hf 4 _ rfl).trans e4)
 obtain ⟨k5,g5,_⟩:=DataW.trod_int Tryz.underlying3 ((hf 5 _ rfl).trans e5)
 simp [cells3,cells33] at g0 g1 g2 g3 g4 g5
 subst g0 g1 g2 g3 g4 g5
 exact ⟨⟨k0,k1,k2,k3,k4,k5⟩,rfl,wf_u32 w3⟩
theorem open_events_in {base:Nat} {spare:Nat→Bool} {held:Bool} {v:Value} {d:DataW H} {p:List MemPlace} (hv:∃ a len cap,v=.slice a len cap) (h:DataW.Trod enc P W base spare held 22 v d p) :
  ∃ l:List Ev,Row W 6 v l.length (evsCs l)∧∀ e∈l,0≤e.a∧e.a < 4294967296:=by
 obtain ⟨fuel,hf⟩:=h
 obtain ⟨a0,len0,cap0,rfl⟩:=hv
 rcases Deep.open_slice Tryz.underlying22 hf with ⟨hc,_⟩ | ⟨a,len,cap,m,n,D,Pl,hc,_,hle,hcm,hm,_,hall⟩
 ·have hv:Value.slice a0 len0 cap0=.slice none 0 0:=by simpa [Value.cells] using hc
  exact ⟨[],⟨rfl,.inl ⟨hv,rfl⟩⟩,by simp⟩
 ·have hv:Value.slice a0 len0 cap0=.slice (some a) len cap:=by simpa [Value.cells] using hc
  have hlm:len≤m:=by rw [hm]; split <;> omega
  obtain ⟨E,hE⟩:=Deep.choose_lt (α:=Ev) (n:=len) (p:=fun i e=>(0≤e.a∧e.a < 4294967296)∧∀ j,j < 6→W.cell? (a.add (i * 6+j))=(Evcs e)[j]?) (fun i hi=>by
   obtain ⟨cs',h1,h2⟩:=hall i (by omega)
   obtain ⟨e,rfl,he⟩:=open_event_in h2
   rw [cells35] at h1
   obtain ⟨_,_,h3⟩:=World.cells?_some h1
   exact ⟨e,he,fun j hj=>by rw [← h3 j hj,add_add']⟩)
  have hlen:((List.range len).map E).length=len:=by simp
  refine ⟨(List.range len).map E,⟨evsCs_len _,.inr ⟨a,cap,by rw [hlen]; exact hv,fun i hi=>?_⟩⟩,fun e he=>?_⟩
  ·rw [hlen] at hi
   have hq:i / 6 < ((List.range len).map E).length:=by rw [hlen]; omega
   have h1:=(hE (i / 6) (by omega)).2 (i % 6) (by omega)
   have h2:=evs_cell ((List.range len).map E) (i:=i / 6) (j:=i % 6) hq (by omega)
   have e:i / 6 * 6+i % 6=i:=by omega
   rw [e] at h1 h2
   rw [h1,h2]
   simp
  ·obtain ⟨k,hk,rfl⟩:=List.mem_map.1 he
   exact (hE k (List.mem_range.1 hk)).1
end Go.Fx.Tryz
