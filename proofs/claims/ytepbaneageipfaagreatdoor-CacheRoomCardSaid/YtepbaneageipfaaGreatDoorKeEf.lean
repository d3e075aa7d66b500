/- A part of the proof. -/
import Derived.Test.YtepbaneageipfaaGreatDoorKdEf
import Derived.Test.YtepbaneageipfaaGreatDoorKaEf
import Derived.KernelRfl
import Derived.Laws.BytesArg
import Derived.Test.YtepbaneageipfaaGreatDoorRows
import Derived.Deep.Slices
import Derived.ProofKit
import Derived.LaidMore
import Derived.OpenShut
import Derived.JoinedOf
import Derived.Carry
import Derived.Stop.Joined
import Derived.Lay
set_option linter.all false
set_option autoImplicit true
set_option relaxedAutoImplicit true
noncomputable section
namespace Go.Fx.Tryz
open Go Go.Fx Go.Fx.Ch
open Go.Proofs
set_option linter.all false
set_option maxRecDepth 100000
@[irreducible] def q0e:Array Oper:=match cA Qb 60 with
 | .region _ ops _=>ops
 | _=>#[]
def qGX (i : Nat) : Oper := q0e.getD i { dst := none, op := .move (.tmp 0), type := 0, pos := "", after := #[], guard := none }
@[irreducible] def q6I(x18 x19:Int)(a20 a21:Addr):qi:=qi.mk 104 [(2,(Value.int .i64 x18)),(1,(Value.int .i64 x19)),(7,(Value.pointer (some a20))),(3,(Value.pointer (some a21)))] []
def qD(i:Nat)(e:qi)(w:World)(K:YT):Prop:=Zh P none q0e (qGX i) e w K
def Ys(i:Nat)(e:qi)(w:World)(K:YT):Prop:=qpr P none q0e (q0e.toList.drop i) e w K
theorem q4G:q0e.size=39:=kr
theorem qt{i j:Nat}{e:qi}{w:World}{K:YT}(hj:i+1=j)(hi:i<39)(h:qD i e w fun e w=>Ys j e w K):Ys i e w K:=by
 subst hj
 unfold Ys
 have hl:q0e.toList.drop i=qGX i::q0e.toList.drop (i+1):=by
  have hi2:i<q0e.toList.length:=by rw[Array.length_toList,q4G];exact hi
  rw[List.drop_eq_getElem_cons hi2]
  congr 1
  unfold qGX
  rw[Array.getElem_toList,Array.getD_eq_getD_getElem?,Array.getElem?_eq_getElem (by simpa using hi2)]
  rfl
 rw[hl]
 exact h
theorem qvF{e:qi}{w:World}{K:YT}(h:K e w):Ys 39 e w K:=by
 unfold Ys
 have hl:q0e.toList.drop 39=[]:=List.drop_eq_nil_of_le (by rw[Array.length_toList,q4G];exact Nat.le_refl _)
 rw[hl]
 exact h
theorem qav(wq:World):(Instr.build 117 ([]:List (Nat × Value)).toArray).run P wq=.ok (.agg #[U 0,U 0,U 0,U 0]) wq:=kr
theorem q2D(wq:World):(do eqGuard .neq 117 (.tmp 65) (.tmp 66) (.agg #[U 0,U 0,U 0,U 0]) (.agg #[U 0,U 0,U 0,U 0]);binOp .neq 117 (.agg #[U 0,U 0,U 0,U 0]) (.agg #[U 0,U 0,U 0,U 0]):Sem Value).run P wq=.ok (.bool false) wq:=kr
@[irreducible] def Ea1(x18 x19:Int)(a20 a21:Addr):qi:=((q6I x18 x19 a20 a21).put (some 31) (.pointer (some (a20.add 1))))
@[irreducible] def Ea2(x18 x19:Int)(a20 a21:Addr):qi:=((Ea1 x18 x19 a20 a21).put (some 32) (.bool false))
@[irreducible] def Ea3(x18 x19:Int)(a20 a21:Addr):qi:=((Ea2 x18 x19 a20 a21).put (some 33) (.bool true))
@[irreducible] def Ea4(x18 x19:Int)(a20 a21:Addr):qi:=((Ea3 x18 x19 a20 a21).put (some 34) (.bool true))
@[irreducible] def Ea5(x18 x19:Int)(a20 a21:Addr):qi:=(((Ea4 x18 x19 a20 a21).put (some 34) (.bool true)).put (some 35) (.pointer (some (a21.add 2))))
@[irreducible] def Ea6(x18 x19:Int)(a20 a21:Addr):qi:=(((Ea5 x18 x19 a20 a21).put (some 34) (.bool true)).put (some 36) (.int .i64 0))
@[irreducible] def Ea7(x18 x19:Int)(a20 a21:Addr):qi:=(((Ea6 x18 x19 a20 a21).put (some 34) (.bool true)).put (some 37) (.bool false))
@[irreducible] def Ea8(x18 x19:Int)(a20 a21:Addr):qi:=((Ea7 x18 x19 a20 a21).put (some 38) (.bool false))
@[irreducible] def Ea9(x18 x19:Int)(a20 a21:Addr):qi:=((Ea8 x18 x19 a20 a21).put (some 39) (.bool false))
@[irreducible] def qvI(x18 x19:Int)(a20 a21:Addr):qi:=(((Ea9 x18 x19 a20 a21).put (some 39) (.bool false)).put (some 40) (.pointer (some (a20.add 8))))
@[irreducible] def qG4(x18 x19:Int)(a20 a21:Addr):qi:=(((qvI x18 x19 a20 a21).put (some 39) (.bool false)).put (some 41) (.bool true))
@[irreducible] def qIi(x18 x19:Int)(a20 a21:Addr):qi:=(((qG4 x18 x19 a20 a21).put (some 39) (.bool false)).put (some 42) (.bool false))
@[irreducible] def qF4(x18 x19:Int)(a20 a21:Addr):qi:=(((qIi x18 x19 a20 a21).put (some 39) (.bool false)).put (some 43) (.bool false))
@[irreducible] def qGS(x18 x19:Int)(a20 a21:Addr):qi:=(((qF4 x18 x19 a20 a21).put (some 43) (.bool false)).put (some 44) undef)
@[irreducible] def qEV(x18 x19:Int)(a20 a21:Addr):qi:=(((qGS x18 x19 a20 a21).put (some 43) (.bool false)).put (some 45) undef)
@[irreducible] def qG0(x18 x19:Int)(a20 a21:Addr):qi:=(((qEV x18 x19 a20 a21).put (some 43) (.bool false)).put (some 46) undef)
@[irreducible] def qHC(x18 x19:Int)(a20 a21:Addr):qi:=(((qG0 x18 x19 a20 a21).put (some 39) (.bool false)).put (some 47) (.bool false))
@[irreducible] def qFN(x18 x19:Int)(a20 a21:Addr):qi:=((qHC x18 x19 a20 a21).put (some 48) (.bool false))
@[irreducible] def qFW(x18 x19:Int)(a20 a21:Addr):qi:=((qFN x18 x19 a20 a21).put (some 49) (.bool false))
@[irreducible] def qvV(x18 x19:Int)(a20 a21:Addr):qi:=(((qFW x18 x19 a20 a21).put (some 49) (.bool false)).put (some 50) (.pointer (some (a20.add 9))))
@[irreducible] def qHR(x18 x19:Int)(a20 a21:Addr):qi:=(((qvV x18 x19 a20 a21).put (some 49) (.bool false)).put (some 51) (.bool false))
@[irreducible] def qI2(x18 x19:Int)(a20 a21:Addr):qi:=(((qHR x18 x19 a20 a21).put (some 49) (.bool false)).put (some 52) (.bool true))
@[irreducible] def qGv(x18 x19:Int)(a20 a21:Addr):qi:=(((qI2 x18 x19 a20 a21).put (some 49) (.bool false)).put (some 53) (.bool true))
@[irreducible] def qvH(x18 x19:Int)(a20 a21:Addr):qi:=(((qGv x18 x19 a20 a21).put (some 53) (.bool true)).put (some 54) (.pointer (some (a21.add 10))))
@[irreducible] def qHh(x18 x19:Int)(a20 a21:Addr):qi:=(((qvH x18 x19 a20 a21).put (some 53) (.bool true)).put (some 55) (.int .u32 0))
@[irreducible] def qJ3(x18 x19:Int)(a20 a21:Addr):qi:=(((qHh x18 x19 a20 a21).put (some 53) (.bool true)).put (some 56) (.bool false))
@[irreducible] def qIz(x18 x19:Int)(a20 a21:Addr):qi:=(((qJ3 x18 x19 a20 a21).put (some 49) (.bool false)).put (some 57) (.bool false))
@[irreducible] def qFf(x18 x19:Int)(a20 a21:Addr):qi:=((qIz x18 x19 a20 a21).put (some 58) (.bool false))
@[irreducible] def qJ6(x18 x19:Int)(a20 a21:Addr):qi:=((qFf x18 x19 a20 a21).put (some 59) (.bool false))
@[irreducible] def qu4(x18 x19:Int)(a20 a21:Addr):qi:=(((qJ6 x18 x19 a20 a21).put (some 59) (.bool false)).put (some 60) (.pointer (some (a20.add 10))))
@[irreducible] def qGz(x18 x19:Int)(a20 a21:Addr):qi:=(((qu4 x18 x19 a20 a21).put (some 59) (.bool false)).put (some 61) (.bool false))
@[irreducible] def qIS(x18 x19:Int)(a20 a21:Addr):qi:=(((qGz x18 x19 a20 a21).put (some 59) (.bool false)).put (some 62) (.bool true))
@[irreducible] def qFX(x18 x19:Int)(a20 a21:Addr):qi:=(((qIS x18 x19 a20 a21).put (some 59) (.bool false)).put (some 63) (.bool true))
@[irreducible] def qus(x18 x19:Int)(a20 a21:Addr):qi:=(((qFX x18 x19 a20 a21).put (some 63) (.bool true)).put (some 64) (.pointer (some (a21.add 11))))
@[irreducible] def qwF(x18 x19:Int)(a20 a21:Addr):qi:=(((qus x18 x19 a20 a21).put (some 63) (.bool true)).put (some 65) (.agg #[U 0,U 0,U 0,U 0]))
@[irreducible] def qtM(x18 x19:Int)(a20 a21:Addr):qi:=(((qwF x18 x19 a20 a21).put (some 63) (.bool true)).put (some 66) (.agg #[U 0,U 0,U 0,U 0]))
@[irreducible] def qFZ(x18 x19:Int)(a20 a21:Addr):qi:=(((qtM x18 x19 a20 a21).put (some 63) (.bool true)).put (some 67) (.bool false))
@[irreducible] def qFv(x18 x19:Int)(a20 a21:Addr):qi:=(((qFZ x18 x19 a20 a21).put (some 59) (.bool false)).put (some 68) (.bool false))
@[irreducible] def qHU(x18 x19:Int)(a20 a21:Addr):qi:=((qFv x18 x19 a20 a21).put (some 69) (.bool false))
theorem ta0(x18 x19:Int)(a20 a21:Addr)(w:World)(K:YT):qD 0 (q6I x18 x19 a20 a21) w K=K (Ea1 x18 x19 a20 a21) w:=kr
theorem ta1(x18 x19:Int)(a20 a21:Addr)(w:World)(K:YT):qD 1 (Ea1 x18 x19 a20 a21) w K=(∃ b:Bool,w.cell? (a20.add 1)=some (.bool b)/\K ((Ea1 x18 x19 a20 a21).put (some 32) (.bool b)) w):=kr
theorem ta2(x18 x19:Int)(a20 a21:Addr)(w:World)(K:YT):qD 2 (Ea2 x18 x19 a20 a21) w K=K (Ea3 x18 x19 a20 a21) w:=kr
theorem ta3(x18 x19:Int)(a20 a21:Addr)(w:World)(K:YT):qD 3 (Ea3 x18 x19 a20 a21) w K=K (Ea4 x18 x19 a20 a21) w:=kr
theorem ta4(x18 x19:Int)(a20 a21:Addr)(w:World)(K:YT):qD 4 (Ea4 x18 x19 a20 a21) w K=K (Ea5 x18 x19 a20 a21) w:=kr
theorem ta5(x18 x19:Int)(a20 a21:Addr)(w:World)(K:YT):qD 5 (Ea5 x18 x19 a20 a21) w K=(∃ x:Int,w.cell? (a21.add 2)=some (.int .i64 x)/\K (((Ea5 x18 x19 a20 a21).put (some 34) (.bool true)).put (some 36) (.int .i64 x)) w):=kr
theorem ta6(x18 x19:Int)(a20 a21:Addr)(w:World)(K:YT):qD 6 (Ea6 x18 x19 a20 a21) w K=K (Ea7 x18 x19 a20 a21) w:=kr
theorem ta7(x18 x19:Int)(a20 a21:Addr)(w:World)(K:YT):qD 7 (Ea7 x18 x19 a20 a21) w K=K (Ea8 x18 x19 a20 a21) w:=kr
theorem ta8(x18 x19:Int)(a20 a21:Addr)(w:World)(K:YT):qD 8 (Ea8 x18 x19 a20 a21) w K=K (Ea9 x18 x19 a20 a21) w:=kr
theorem ta9(x18 x19:Int)(a20 a21:Addr)(w:World)(K:YT):qD 9 (Ea9 x18 x19 a20 a21) w K=K (qvI x18 x19 a20 a21) w:=kr
theorem qNn(x18 x19:Int)(a20 a21:Addr)(w:World)(K:YT):qD 10 (qvI x18 x19 a20 a21) w K=(∃ b:Bool,w.cell? (a20.add 8)=some (.bool b)/\K (((qvI x18 x19 a20 a21).put (some 39) (.bool false)).put (some 41) (.bool b)) w):=kr
theorem qLP(x18 x19:Int)(a20 a21:Addr)(w:World)(K:YT):qD 11 (qG4 x18 x19 a20 a21) w K=K (qIi x18 x19 a20 a21) w:=kr
theorem qMv(x18 x19:Int)(a20 a21:Addr)(w:World)(K:YT):qD 12 (qIi x18 x19 a20 a21) w K=K (qF4 x18 x19 a20 a21) w:=kr
theorem qLO(x18 x19:Int)(a20 a21:Addr)(w:World)(K:YT):qD 13 (qF4 x18 x19 a20 a21) w K=K (qGS x18 x19 a20 a21) w:=kr
theorem qMc(x18 x19:Int)(a20 a21:Addr)(w:World)(K:YT):qD 14 (qGS x18 x19 a20 a21) w K=K (qEV x18 x19 a20 a21) w:=kr
theorem qNs(x18 x19:Int)(a20 a21:Addr)(w:World)(K:YT):qD 15 (qEV x18 x19 a20 a21) w K=K (qG0 x18 x19 a20 a21) w:=kr
theorem qNJ(x18 x19:Int)(a20 a21:Addr)(w:World)(K:YT):qD 16 (qG0 x18 x19 a20 a21) w K=K (qHC x18 x19 a20 a21) w:=kr
theorem qNT(x18 x19:Int)(a20 a21:Addr)(w:World)(K:YT):qD 17 (qHC x18 x19 a20 a21) w K=K (qFN x18 x19 a20 a21) w:=kr
theorem qN1(x18 x19:Int)(a20 a21:Addr)(w:World)(K:YT):qD 18 (qFN x18 x19 a20 a21) w K=K (qFW x18 x19 a20 a21) w:=kr
theorem qMm(x18 x19:Int)(a20 a21:Addr)(w:World)(K:YT):qD 19 (qFW x18 x19 a20 a21) w K=K (qvV x18 x19 a20 a21) w:=kr
theorem qMI(x18 x19:Int)(a20 a21:Addr)(w:World)(K:YT):qD 20 (qvV x18 x19 a20 a21) w K=(∃ b:Bool,w.cell? (a20.add 9)=some (.bool b)/\K (((qvV x18 x19 a20 a21).put (some 49) (.bool false)).put (some 51) (.bool b)) w):=kr
theorem qO2(x18 x19:Int)(a20 a21:Addr)(w:World)(K:YT):qD 21 (qHR x18 x19 a20 a21) w K=K (qI2 x18 x19 a20 a21) w:=kr
theorem qMe(x18 x19:Int)(a20 a21:Addr)(w:World)(K:YT):qD 22 (qI2 x18 x19 a20 a21) w K=K (qGv x18 x19 a20 a21) w:=kr
theorem qMX(x18 x19:Int)(a20 a21:Addr)(w:World)(K:YT):qD 23 (qGv x18 x19 a20 a21) w K=K (qvH x18 x19 a20 a21) w:=kr
theorem qNh(x18 x19:Int)(a20 a21:Addr)(w:World)(K:YT):qD 24 (qvH x18 x19 a20 a21) w K=(∃ x:Int,w.cell? (a21.add 10)=some (.int .u32 x)/\K (((qvH x18 x19 a20 a21).put (some 53) (.bool true)).put (some 55) (.int .u32 x)) w):=kr
theorem qNA(x18 x19:Int)(a20 a21:Addr)(w:World)(K:YT):qD 25 (qHh x18 x19 a20 a21) w K=K (qJ3 x18 x19 a20 a21) w:=kr
theorem qMP(x18 x19:Int)(a20 a21:Addr)(w:World)(K:YT):qD 26 (qJ3 x18 x19 a20 a21) w K=K (qIz x18 x19 a20 a21) w:=kr
theorem qO1(x18 x19:Int)(a20 a21:Addr)(w:World)(K:YT):qD 27 (qIz x18 x19 a20 a21) w K=K (qFf x18 x19 a20 a21) w:=kr
theorem qMV(x18 x19:Int)(a20 a21:Addr)(w:World)(K:YT):qD 28 (qFf x18 x19 a20 a21) w K=K (qJ6 x18 x19 a20 a21) w:=kr
theorem qMO(x18 x19:Int)(a20 a21:Addr)(w:World)(K:YT):qD 29 (qJ6 x18 x19 a20 a21) w K=K (qu4 x18 x19 a20 a21) w:=kr
theorem qMh(x18 x19:Int)(a20 a21:Addr)(w:World)(K:YT):qD 30 (qu4 x18 x19 a20 a21) w K=(∃ b:Bool,w.cell? (a20.add 10)=some (.bool b)/\K (((qu4 x18 x19 a20 a21).put (some 59) (.bool false)).put (some 61) (.bool b)) w):=kr
theorem qMD(x18 x19:Int)(a20 a21:Addr)(w:World)(K:YT):qD 31 (qGz x18 x19 a20 a21) w K=K (qIS x18 x19 a20 a21) w:=kr
theorem qMJ(x18 x19:Int)(a20 a21:Addr)(w:World)(K:YT):qD 32 (qIS x18 x19 a20 a21) w K=K (qFX x18 x19 a20 a21) w:=kr
theorem qN0(x18 x19:Int)(a20 a21:Addr)(w:World)(K:YT):qD 33 (qFX x18 x19 a20 a21) w K=K (qus x18 x19 a20 a21) w:=kr
theorem qNU(x18 x19:Int)(a20 a21:Addr)(w:World)(K:YT):qD 34 (qus x18 x19 a20 a21) w K=qS 4 (a21.add 11) w (fun cs=>K (((qus x18 x19 a20 a21).put (some 63) (.bool true)).put (some 65) (.agg cs)) w):=kr
theorem qMu(x18 x19:Int)(a20 a21:Addr)(w:World)(K:YT):qD 35 (qwF x18 x19 a20 a21) w K=(∃ cs:Array Value,(∀ wq,(Instr.build 117 ([]:List (Nat × Value)).toArray).run P wq=.ok (.agg cs) wq)/\K (((qwF x18 x19 a20 a21).put (some 63) (.bool true)).put (some 66) (.agg cs)) w):=kr
theorem qO4(x18 x19:Int)(a20 a21:Addr)(w:World)(K:YT):qD 36 (qtM x18 x19 a20 a21) w K=(∃ b:Bool,(∀ wq,(do eqGuard .neq 117 (.tmp 65) (.tmp 66) (.agg #[U 0,U 0,U 0,U 0]) (.agg #[U 0,U 0,U 0,U 0]);binOp .neq 117 (.agg #[U 0,U 0,U 0,U 0]) (.agg #[U 0,U 0,U 0,U 0]):Sem Value).run P wq=.ok (.bool b) wq)/\K (((qtM x18 x19 a20 a21).put (some 63) (.bool true)).put (some 67) (.bool b)) w):=kr
theorem qN3(x18 x19:Int)(a20 a21:Addr)(w:World)(K:YT):qD 37 (qFZ x18 x19 a20 a21) w K=K (qFv x18 x19 a20 a21) w:=kr
theorem qMN(x18 x19:Int)(a20 a21:Addr)(w:World)(K:YT):qD 38 (qFv x18 x19 a20 a21) w K=K (qHU x18 x19 a20 a21) w:=kr
theorem qa1(x18 x19:Int)(a20 a21:Addr):(Ea1 x18 x19 a20 a21).put (some 32) (.bool false)=Ea2 x18 x19 a20 a21:=kr
theorem qa5(x18 x19:Int)(a20 a21:Addr):((Ea5 x18 x19 a20 a21).put (some 34) (.bool true)).put (some 36) (.int .i64 0)=Ea6 x18 x19 a20 a21:=kr
theorem qLZ(x18 x19:Int)(a20 a21:Addr):((qvI x18 x19 a20 a21).put (some 39) (.bool false)).put (some 41) (.bool true)=qG4 x18 x19 a20 a21:=kr
theorem qNX(x18 x19:Int)(a20 a21:Addr):((qvV x18 x19 a20 a21).put (some 49) (.bool false)).put (some 51) (.bool false)=qHR x18 x19 a20 a21:=kr
theorem qN9(x18 x19:Int)(a20 a21:Addr):((qvH x18 x19 a20 a21).put (some 53) (.bool true)).put (some 55) (.int .u32 0)=qHh x18 x19 a20 a21:=kr
theorem qMC(x18 x19:Int)(a20 a21:Addr):((qu4 x18 x19 a20 a21).put (some 59) (.bool false)).put (some 61) (.bool false)=qGz x18 x19 a20 a21:=kr
theorem qNp(x18 x19:Int)(a20 a21:Addr):((qus x18 x19 a20 a21).put (some 63) (.bool true)).put (some 65) (.agg #[U 0,U 0,U 0,U 0])=qwF x18 x19 a20 a21:=kr
theorem qND(x18 x19:Int)(a20 a21:Addr):((qwF x18 x19 a20 a21).put (some 63) (.bool true)).put (some 66) (.agg #[U 0,U 0,U 0,U 0])=qtM x18 x19 a20 a21:=kr
theorem qNF(x18 x19:Int)(a20 a21:Addr):((qtM x18 x19 a20 a21).put (some 63) (.bool true)).put (some 67) (.bool false)=qFZ x18 x19 a20 a21:=kr
theorem qNd(x18 x19:Int)(a20 a21:Addr)(w:World)(K:YT)(c32:w.cell? (a20.add 1)=some (.bool false))(c36:w.cell? (a21.add 2)=some (.int .i64 0))(c41:w.cell? (a20.add 8)=some (.bool true))(c51:w.cell? (a20.add 9)=some (.bool false))(c55:w.cell? (a21.add 10)=some (.int .u32 0))(c61:w.cell? (a20.add 10)=some (.bool false))(cV:∀ K:Array Value->Prop,K #[U 0,U 0,U 0,U 0]->qS 4 (a21.add 11) w K)(hK:K (qHU x18 x19 a20 a21) w):Ys 0 (q6I x18 x19 a20 a21) w K:=by
 refine qt (i:=0) (j:=1) rfl (by decide) ?_
 rw[ta0]
 refine qt (i:=1) (j:=2) rfl (by decide) ?_
 rw[ta1]
 refine⟨false,c32,?_⟩
 rw[qa1]
 refine qt (i:=2) (j:=3) rfl (by decide) ?_
 rw[ta2]
 refine qt (i:=3) (j:=4) rfl (by decide) ?_
 rw[ta3]
 refine qt (i:=4) (j:=5) rfl (by decide) ?_
 rw[ta4]
 refine qt (i:=5) (j:=6) rfl (by decide) ?_
 rw[ta5]
 refine⟨0,c36,?_⟩
 rw[qa5]
 refine qt (i:=6) (j:=7) rfl (by decide) ?_
 rw[ta6]
 refine qt (i:=7) (j:=8) rfl (by decide) ?_
 rw[ta7]
 refine qt (i:=8) (j:=9) rfl (by decide) ?_
 rw[ta8]
 refine qt (i:=9) (j:=10) rfl (by decide) ?_
 rw[ta9]
 refine qt (i:=10) (j:=11) rfl (by decide) ?_
 rw[qNn]
 refine⟨true,c41,?_⟩
 rw[qLZ]
 refine qt (i:=11) (j:=12) rfl (by decide) ?_
 rw[qLP]
 refine qt (i:=12) (j:=13) rfl (by decide) ?_
 rw[qMv]
 refine qt (i:=13) (j:=14) rfl (by decide) ?_
 rw[qLO]
 refine qt (i:=14) (j:=15) rfl (by decide) ?_
 rw[qMc]
 refine qt (i:=15) (j:=16) rfl (by decide) ?_
 rw[qNs]
 refine qt (i:=16) (j:=17) rfl (by decide) ?_
 rw[qNJ]
 refine qt (i:=17) (j:=18) rfl (by decide) ?_
 rw[qNT]
 refine qt (i:=18) (j:=19) rfl (by decide) ?_
 rw[qN1]
 refine qt (i:=19) (j:=20) rfl (by decide) ?_
 rw[qMm]
 refine qt (i:=20) (j:=21) rfl (by decide) ?_
 rw[qMI]
 refine⟨false,c51,?_⟩
 rw[qNX]
 refine qt (i:=21) (j:=22) rfl (by decide) ?_
 rw[qO2]
 refine qt (i:=22) (j:=23) rfl (by decide) ?_
 rw[qMe]
 refine qt (i:=23) (j:=24) rfl (by decide) ?_
 rw[qMX]
 refine qt (i:=24) (j:=25) rfl (by decide) ?_
 rw[qNh]
 refine⟨0,c55,?_⟩
 rw[qN9]
 refine qt (i:=25) (j:=26) rfl (by decide) ?_
 rw[qNA]
 refine qt (i:=26) (j:=27) rfl (by decide) ?_
 rw[qMP]
 refine qt (i:=27) (j:=28) rfl (by decide) ?_
 rw[qO1]
 refine qt (i:=28) (j:=29) rfl (by decide) ?_
 rw[qMV]
 refine qt (i:=29) (j:=30) rfl (by decide) ?_
 rw[qMO]
 refine qt (i:=30) (j:=31) rfl (by decide) ?_
 rw[qMh]
 refine⟨false,c61,?_⟩
 rw[qMC]
 refine qt (i:=31) (j:=32) rfl (by decide) ?_
 rw[qMD]
 refine qt (i:=32) (j:=33) rfl (by decide) ?_
 rw[qMJ]
 refine qt (i:=33) (j:=34) rfl (by decide) ?_
 rw[qN0]
 refine qt (i:=34) (j:=35) rfl (by decide) ?_
 rw[qNU]
 refine cV _ ?_
 rw[qNp]
 refine qt (i:=35) (j:=36) rfl (by decide) ?_
 rw[qMu]
 refine⟨_,qav,?_⟩
 rw[qND]
 refine qt (i:=36) (j:=37) rfl (by decide) ?_
 rw[qO4]
 refine⟨false,q2D,?_⟩
 rw[qNF]
 refine qt (i:=37) (j:=38) rfl (by decide) ?_
 rw[qN3]
 refine qt (i:=38) (j:=39) rfl (by decide) ?_
 rw[qMN]
 exact qvF hK
theorem qNu(x18 x19:Int)(a20 a21:Addr)(w:World)(K:KT):ZK K .normal (qHU x18 x19 a20 a21) w=q18 false x18 x19 a20 a21 w K:=kr
@[irreducible] def Eb1(x18 x19:Int)(a20 a21:Addr):qi:=((q6I x18 x19 a20 a21).put (some 31) (.pointer (some (a20.add 1))))
@[irreducible] def Eb2(x18 x19:Int)(a20 a21:Addr):qi:=((Eb1 x18 x19 a20 a21).put (some 32) (.bool false))
@[irreducible] def Eb3(x18 x19:Int)(a20 a21:Addr):qi:=((Eb2 x18 x19 a20 a21).put (some 33) (.bool true))
@[irreducible] def Eb4(x18 x19:Int)(a20 a21:Addr):qi:=((Eb3 x18 x19 a20 a21).put (some 34) (.bool true))
@[irreducible] def Eb5(x18 x19:Int)(a20 a21:Addr):qi:=(((Eb4 x18 x19 a20 a21).put (some 34) (.bool true)).put (some 35) (.pointer (some (a21.add 2))))
@[irreducible] def Eb6(x18 x19:Int)(a20 a21:Addr):qi:=(((Eb5 x18 x19 a20 a21).put (some 34) (.bool true)).put (some 36) (.int .i64 0))
@[irreducible] def Eb7(x18 x19:Int)(a20 a21:Addr):qi:=(((Eb6 x18 x19 a20 a21).put (some 34) (.bool true)).put (some 37) (.bool false))
@[irreducible] def Eb8(x18 x19:Int)(a20 a21:Addr):qi:=((Eb7 x18 x19 a20 a21).put (some 38) (.bool false))
@[irreducible] def Eb9(x18 x19:Int)(a20 a21:Addr):qi:=((Eb8 x18 x19 a20 a21).put (some 39) (.bool false))
@[irreducible] def qut(x18 x19:Int)(a20 a21:Addr):qi:=(((Eb9 x18 x19 a20 a21).put (some 39) (.bool false)).put (some 40) (.pointer (some (a20.add 8))))
@[irreducible] def qF6(x18 x19:Int)(a20 a21:Addr):qi:=(((qut x18 x19 a20 a21).put (some 39) (.bool false)).put (some 41) (.bool true))
@[irreducible] def qGY(x18 x19:Int)(a20 a21:Addr):qi:=(((qF6 x18 x19 a20 a21).put (some 39) (.bool false)).put (some 42) (.bool false))
@[irreducible] def qHJ(x18 x19:Int)(a20 a21:Addr):qi:=(((qGY x18 x19 a20 a21).put (some 39) (.bool false)).put (some 43) (.bool false))
@[irreducible] def qJ0(x18 x19:Int)(a20 a21:Addr):qi:=(((qHJ x18 x19 a20 a21).put (some 43) (.bool false)).put (some 44) undef)
@[irreducible] def qId(x18 x19:Int)(a20 a21:Addr):qi:=(((qJ0 x18 x19 a20 a21).put (some 43) (.bool false)).put (some 45) undef)
@[irreducible] def qGP(x18 x19:Int)(a20 a21:Addr):qi:=(((qId x18 x19 a20 a21).put (some 43) (.bool false)).put (some 46) undef)
@[irreducible] def qHL(x18 x19:Int)(a20 a21:Addr):qi:=(((qGP x18 x19 a20 a21).put (some 39) (.bool false)).put (some 47) (.bool false))
@[irreducible] def qGL(x18 x19:Int)(a20 a21:Addr):qi:=((qHL x18 x19 a20 a21).put (some 48) (.bool false))
@[irreducible] def qGx(x18 x19:Int)(a20 a21:Addr):qi:=((qGL x18 x19 a20 a21).put (some 49) (.bool false))
@[irreducible] def qtw(x18 x19:Int)(a20 a21:Addr):qi:=(((qGx x18 x19 a20 a21).put (some 49) (.bool false)).put (some 50) (.pointer (some (a20.add 9))))
@[irreducible] def qFC(x18 x19:Int)(a20 a21:Addr):qi:=(((qtw x18 x19 a20 a21).put (some 49) (.bool false)).put (some 51) (.bool true))
@[irreducible] def qGE(x18 x19:Int)(a20 a21:Addr):qi:=(((qFC x18 x19 a20 a21).put (some 49) (.bool false)).put (some 52) (.bool false))
@[irreducible] def qFF(x18 x19:Int)(a20 a21:Addr):qi:=(((qGE x18 x19 a20 a21).put (some 49) (.bool false)).put (some 53) (.bool false))
@[irreducible] def qIy(x18 x19:Int)(a20 a21:Addr):qi:=(((qFF x18 x19 a20 a21).put (some 53) (.bool false)).put (some 54) undef)
@[irreducible] def qH6(x18 x19:Int)(a20 a21:Addr):qi:=(((qIy x18 x19 a20 a21).put (some 53) (.bool false)).put (some 55) undef)
@[irreducible] def qFJ(x18 x19:Int)(a20 a21:Addr):qi:=(((qH6 x18 x19 a20 a21).put (some 53) (.bool false)).put (some 56) undef)
@[irreducible] def qJj(x18 x19:Int)(a20 a21:Addr):qi:=(((qFJ x18 x19 a20 a21).put (some 49) (.bool false)).put (some 57) (.bool false))
@[irreducible] def qIG(x18 x19:Int)(a20 a21:Addr):qi:=((qJj x18 x19 a20 a21).put (some 58) (.bool false))
@[irreducible] def qIm(x18 x19:Int)(a20 a21:Addr):qi:=((qIG x18 x19 a20 a21).put (some 59) (.bool false))
@[irreducible] def qw7(x18 x19:Int)(a20 a21:Addr):qi:=(((qIm x18 x19 a20 a21).put (some 59) (.bool false)).put (some 60) (.pointer (some (a20.add 10))))
@[irreducible] def qGj(x18 x19:Int)(a20 a21:Addr):qi:=(((qw7 x18 x19 a20 a21).put (some 59) (.bool false)).put (some 61) (.bool false))
@[irreducible] def qGI(x18 x19:Int)(a20 a21:Addr):qi:=(((qGj x18 x19 a20 a21).put (some 59) (.bool false)).put (some 62) (.bool true))
@[irreducible] def qIa(x18 x19:Int)(a20 a21:Addr):qi:=(((qGI x18 x19 a20 a21).put (some 59) (.bool false)).put (some 63) (.bool true))
@[irreducible] def qsW(x18 x19:Int)(a20 a21:Addr):qi:=(((qIa x18 x19 a20 a21).put (some 63) (.bool true)).put (some 64) (.pointer (some (a21.add 11))))
@[irreducible] def qwP(x18 x19:Int)(a20 a21:Addr):qi:=(((qsW x18 x19 a20 a21).put (some 63) (.bool true)).put (some 65) (.agg #[U 0,U 0,U 0,U 0]))
@[irreducible] def qtx(x18 x19:Int)(a20 a21:Addr):qi:=(((qwP x18 x19 a20 a21).put (some 63) (.bool true)).put (some 66) (.agg #[U 0,U 0,U 0,U 0]))
@[irreducible] def qIZ(x18 x19:Int)(a20 a21:Addr):qi:=(((qtx x18 x19 a20 a21).put (some 63) (.bool true)).put (some 67) (.bool false))
@[irreducible] def qI1(x18 x19:Int)(a20 a21:Addr):qi:=(((qIZ x18 x19 a20 a21).put (some 59) (.bool false)).put (some 68) (.bool false))
@[irreducible] def qFh(x18 x19:Int)(a20 a21:Addr):qi:=((qI1 x18 x19 a20 a21).put (some 69) (.bool false))
theorem tb0(x18 x19:Int)(a20 a21:Addr)(w:World)(K:YT):qD 0 (q6I x18 x19 a20 a21) w K=K (Eb1 x18 x19 a20 a21) w:=kr
theorem tb1(x18 x19:Int)(a20 a21:Addr)(w:World)(K:YT):qD 1 (Eb1 x18 x19 a20 a21) w K=(∃ b:Bool,w.cell? (a20.add 1)=some (.bool b)/\K ((Eb1 x18 x19 a20 a21).put (some 32) (.bool b)) w):=kr
theorem tb2(x18 x19:Int)(a20 a21:Addr)(w:World)(K:YT):qD 2 (Eb2 x18 x19 a20 a21) w K=K (Eb3 x18 x19 a20 a21) w:=kr
theorem tb3(x18 x19:Int)(a20 a21:Addr)(w:World)(K:YT):qD 3 (Eb3 x18 x19 a20 a21) w K=K (Eb4 x18 x19 a20 a21) w:=kr
theorem tb4(x18 x19:Int)(a20 a21:Addr)(w:World)(K:YT):qD 4 (Eb4 x18 x19 a20 a21) w K=K (Eb5 x18 x19 a20 a21) w:=kr
theorem tb5(x18 x19:Int)(a20 a21:Addr)(w:World)(K:YT):qD 5 (Eb5 x18 x19 a20 a21) w K=(∃ x:Int,w.cell? (a21.add 2)=some (.int .i64 x)/\K (((Eb5 x18 x19 a20 a21).put (some 34) (.bool true)).put (some 36) (.int .i64 x)) w):=kr
theorem tb6(x18 x19:Int)(a20 a21:Addr)(w:World)(K:YT):qD 6 (Eb6 x18 x19 a20 a21) w K=K (Eb7 x18 x19 a20 a21) w:=kr
theorem tb7(x18 x19:Int)(a20 a21:Addr)(w:World)(K:YT):qD 7 (Eb7 x18 x19 a20 a21) w K=K (Eb8 x18 x19 a20 a21) w:=kr
theorem tb8(x18 x19:Int)(a20 a21:Addr)(w:World)(K:YT):qD 8 (Eb8 x18 x19 a20 a21) w K=K (Eb9 x18 x19 a20 a21) w:=kr
theorem tb9(x18 x19:Int)(a20 a21:Addr)(w:World)(K:YT):qD 9 (Eb9 x18 x19 a20 a21) w K=K (qut x18 x19 a20 a21) w:=kr
theorem qNS(x18 x19:Int)(a20 a21:Addr)(w:World)(K:YT):qD 10 (qut x18 x19 a20 a21) w K=(∃ b:Bool,w.cell? (a20.add 8)=some (.bool b)/\K (((qut x18 x19 a20 a21).put (some 39) (.bool false)).put (some 41) (.bool b)) w):=kr
theorem qM7(x18 x19:Int)(a20 a21:Addr)(w:World)(K:YT):qD 11 (qF6 x18 x19 a20 a21) w K=K (qGY x18 x19 a20 a21) w:=kr
theorem qLN(x18 x19:Int)(a20 a21:Addr)(w:World)(K:YT):qD 12 (qGY x18 x19 a20 a21) w K=K (qHJ x18 x19 a20 a21) w:=kr
theorem qN8(x18 x19:Int)(a20 a21:Addr)(w:World)(K:YT):qD 13 (qHJ x18 x19 a20 a21) w K=K (qJ0 x18 x19 a20 a21) w:=kr
theorem qNV(x18 x19:Int)(a20 a21:Addr)(w:World)(K:YT):qD 14 (qJ0 x18 x19 a20 a21) w K=K (qId x18 x19 a20 a21) w:=kr
theorem qMA(x18 x19:Int)(a20 a21:Addr)(w:World)(K:YT):qD 15 (qId x18 x19 a20 a21) w K=K (qGP x18 x19 a20 a21) w:=kr
theorem qN7(x18 x19:Int)(a20 a21:Addr)(w:World)(K:YT):qD 16 (qGP x18 x19 a20 a21) w K=K (qHL x18 x19 a20 a21) w:=kr
theorem qLQ(x18 x19:Int)(a20 a21:Addr)(w:World)(K:YT):qD 17 (qHL x18 x19 a20 a21) w K=K (qGL x18 x19 a20 a21) w:=kr
theorem qNy(x18 x19:Int)(a20 a21:Addr)(w:World)(K:YT):qD 18 (qGL x18 x19 a20 a21) w K=K (qGx x18 x19 a20 a21) w:=kr
theorem qMl(x18 x19:Int)(a20 a21:Addr)(w:World)(K:YT):qD 19 (qGx x18 x19 a20 a21) w K=K (qtw x18 x19 a20 a21) w:=kr
theorem qMy(x18 x19:Int)(a20 a21:Addr)(w:World)(K:YT):qD 20 (qtw x18 x19 a20 a21) w K=(∃ b:Bool,w.cell? (a20.add 9)=some (.bool b)/\K (((qtw x18 x19 a20 a21).put (some 49) (.bool false)).put (some 51) (.bool b)) w):=kr
theorem qN6(x18 x19:Int)(a20 a21:Addr)(w:World)(K:YT):qD 21 (qFC x18 x19 a20 a21) w K=K (qGE x18 x19 a20 a21) w:=kr
theorem qMf(x18 x19:Int)(a20 a21:Addr)(w:World)(K:YT):qD 22 (qGE x18 x19 a20 a21) w K=K (qFF x18 x19 a20 a21) w:=kr
theorem qM1(x18 x19:Int)(a20 a21:Addr)(w:World)(K:YT):qD 23 (qFF x18 x19 a20 a21) w K=K (qIy x18 x19 a20 a21) w:=kr
theorem qMK(x18 x19:Int)(a20 a21:Addr)(w:World)(K:YT):qD 24 (qIy x18 x19 a20 a21) w K=K (qH6 x18 x19 a20 a21) w:=kr
theorem qM5(x18 x19:Int)(a20 a21:Addr)(w:World)(K:YT):qD 25 (qH6 x18 x19 a20 a21) w K=K (qFJ x18 x19 a20 a21) w:=kr
theorem qMS(x18 x19:Int)(a20 a21:Addr)(w:World)(K:YT):qD 26 (qFJ x18 x19 a20 a21) w K=K (qJj x18 x19 a20 a21) w:=kr
theorem qMW(x18 x19:Int)(a20 a21:Addr)(w:World)(K:YT):qD 27 (qJj x18 x19 a20 a21) w K=K (qIG x18 x19 a20 a21) w:=kr
theorem qO0(x18 x19:Int)(a20 a21:Addr)(w:World)(K:YT):qD 28 (qIG x18 x19 a20 a21) w K=K (qIm x18 x19 a20 a21) w:=kr
theorem qMR(x18 x19:Int)(a20 a21:Addr)(w:World)(K:YT):qD 29 (qIm x18 x19 a20 a21) w K=K (qw7 x18 x19 a20 a21) w:=kr
theorem qNG(x18 x19:Int)(a20 a21:Addr)(w:World)(K:YT):qD 30 (qw7 x18 x19 a20 a21) w K=(∃ b:Bool,w.cell? (a20.add 10)=some (.bool b)/\K (((qw7 x18 x19 a20 a21).put (some 59) (.bool false)).put (some 61) (.bool b)) w):=kr
theorem qM6(x18 x19:Int)(a20 a21:Addr)(w:World)(K:YT):qD 31 (qGj x18 x19 a20 a21) w K=K (qGI x18 x19 a20 a21) w:=kr
theorem qNC(x18 x19:Int)(a20 a21:Addr)(w:World)(K:YT):qD 32 (qGI x18 x19 a20 a21) w K=K (qIa x18 x19 a20 a21) w:=kr
theorem qNq(x18 x19:Int)(a20 a21:Addr)(w:World)(K:YT):qD 33 (qIa x18 x19 a20 a21) w K=K (qsW x18 x19 a20 a21) w:=kr
theorem qM2(x18 x19:Int)(a20 a21:Addr)(w:World)(K:YT):qD 34 (qsW x18 x19 a20 a21) w K=qS 4 (a21.add 11) w (fun cs=>K (((qsW x18 x19 a20 a21).put (some 63) (.bool true)).put (some 65) (.agg cs)) w):=kr
theorem qNR(x18 x19:Int)(a20 a21:Addr)(w:World)(K:YT):qD 35 (qwP x18 x19 a20 a21) w K=(∃ cs:Array Value,(∀ wq,(Instr.build 117 ([]:List (Nat × Value)).toArray).run P wq=.ok (.agg cs) wq)/\K (((qwP x18 x19 a20 a21).put (some 63) (.bool true)).put (some 66) (.agg cs)) w):=kr
theorem qNj(x18 x19:Int)(a20 a21:Addr)(w:World)(K:YT):qD 36 (qtx x18 x19 a20 a21) w K=(∃ b:Bool,(∀ wq,(do eqGuard .neq 117 (.tmp 65) (.tmp 66) (.agg #[U 0,U 0,U 0,U 0]) (.agg #[U 0,U 0,U 0,U 0]);binOp .neq 117 (.agg #[U 0,U 0,U 0,U 0]) (.agg #[U 0,U 0,U 0,U 0]):Sem Value).run P wq=.ok (.bool b) wq)/\K (((qtx x18 x19 a20 a21).put (some 63) (.bool true)).put (some 67) (.bool b)) w):=kr
theorem qNP(x18 x19:Int)(a20 a21:Addr)(w:World)(K:YT):qD 37 (qIZ x18 x19 a20 a21) w K=K (qI1 x18 x19 a20 a21) w:=kr
theorem qNc(x18 x19:Int)(a20 a21:Addr)(w:World)(K:YT):qD 38 (qI1 x18 x19 a20 a21) w K=K (qFh x18 x19 a20 a21) w:=kr
theorem qb1(x18 x19:Int)(a20 a21:Addr):(Eb1 x18 x19 a20 a21).put (some 32) (.bool false)=Eb2 x18 x19 a20 a21:=kr
theorem qb5(x18 x19:Int)(a20 a21:Addr):((Eb5 x18 x19 a20 a21).put (some 34) (.bool true)).put (some 36) (.int .i64 0)=Eb6 x18 x19 a20 a21:=kr
theorem qMz(x18 x19:Int)(a20 a21:Addr):((qut x18 x19 a20 a21).put (some 39) (.bool false)).put (some 41) (.bool true)=qF6 x18 x19 a20 a21:=kr
theorem qMT(x18 x19:Int)(a20 a21:Addr):((qtw x18 x19 a20 a21).put (some 49) (.bool false)).put (some 51) (.bool true)=qFC x18 x19 a20 a21:=kr
theorem qNi(x18 x19:Int)(a20 a21:Addr):((qw7 x18 x19 a20 a21).put (some 59) (.bool false)).put (some 61) (.bool false)=qGj x18 x19 a20 a21:=kr
theorem qNm(x18 x19:Int)(a20 a21:Addr):((qsW x18 x19 a20 a21).put (some 63) (.bool true)).put (some 65) (.agg #[U 0,U 0,U 0,U 0])=qwP x18 x19 a20 a21:=kr
theorem qNe(x18 x19:Int)(a20 a21:Addr):((qwP x18 x19 a20 a21).put (some 63) (.bool true)).put (some 66) (.agg #[U 0,U 0,U 0,U 0])=qtx x18 x19 a20 a21:=kr
theorem qNE(x18 x19:Int)(a20 a21:Addr):((qtx x18 x19 a20 a21).put (some 63) (.bool true)).put (some 67) (.bool false)=qIZ x18 x19 a20 a21:=kr
theorem qML(x18 x19:Int)(a20 a21:Addr)(w:World)(K:YT)(c32:w.cell? (a20.add 1)=some (.bool false))(c36:w.cell? (a21.add 2)=some (.int .i64 0))(c41:w.cell? (a20.add 8)=some (.bool true))(c51:w.cell? (a20.add 9)=some (.bool true))(c61:w.cell? (a20.add 10)=some (.bool false))(cV:∀ K:Array Value->Prop,K #[U 0,U 0,U 0,U 0]->qS 4 (a21.add 11) w K)(hK:K (qFh x18 x19 a20 a21) w):Ys 0 (q6I x18 x19 a20 a21) w K:=by
 refine qt (i:=0) (j:=1) rfl (by decide) ?_
 rw[tb0]
 refine qt (i:=1) (j:=2) rfl (by decide) ?_
 rw[tb1]
 refine⟨false,c32,?_⟩
 rw[qb1]
 refine qt (i:=2) (j:=3) rfl (by decide) ?_
 rw[tb2]
 refine qt (i:=3) (j:=4) rfl (by decide) ?_
 rw[tb3]
 refine qt (i:=4) (j:=5) rfl (by decide) ?_
 rw[tb4]
 refine qt (i:=5) (j:=6) rfl (by decide) ?_
 rw[tb5]
 refine⟨0,c36,?_⟩
 rw[qb5]
 refine qt (i:=6) (j:=7) rfl (by decide) ?_
 rw[tb6]
 refine qt (i:=7) (j:=8) rfl (by decide) ?_
 rw[tb7]
 refine qt (i:=8) (j:=9) rfl (by decide) ?_
 rw[tb8]
 refine qt (i:=9) (j:=10) rfl (by decide) ?_
 rw[tb9]
 refine qt (i:=10) (j:=11) rfl (by decide) ?_
 rw[qNS]
 refine⟨true,c41,?_⟩
 rw[qMz]
 refine qt (i:=11) (j:=12) rfl (by decide) ?_
 rw[qM7]
 refine qt (i:=12) (j:=13) rfl (by decide) ?_
 rw[qLN]
 refine qt (i:=13) (j:=14) rfl (by decide) ?_
 rw[qN8]
 refine qt (i:=14) (j:=15) rfl (by decide) ?_
 rw[qNV]
 refine qt (i:=15) (j:=16) rfl (by decide) ?_
 rw[qMA]
 refine qt (i:=16) (j:=17) rfl (by decide) ?_
 rw[qN7]
 refine qt (i:=17) (j:=18) rfl (by decide) ?_
 rw[qLQ]
 refine qt (i:=18) (j:=19) rfl (by decide) ?_
 rw[qNy]
 refine qt (i:=19) (j:=20) rfl (by decide) ?_
 rw[qMl]
 refine qt (i:=20) (j:=21) rfl (by decide) ?_
 rw[qMy]
 refine⟨true,c51,?_⟩
 rw[qMT]
 refine qt (i:=21) (j:=22) rfl (by decide) ?_
 rw[qN6]
 refine qt (i:=22) (j:=23) rfl (by decide) ?_
 rw[qMf]
 refine qt (i:=23) (j:=24) rfl (by decide) ?_
 rw[qM1]
 refine qt (i:=24) (j:=25) rfl (by decide) ?_
 rw[qMK]
 refine qt (i:=25) (j:=26) rfl (by decide) ?_
 rw[qM5]
 refine qt (i:=26) (j:=27) rfl (by decide) ?_
 rw[qMS]
 refine qt (i:=27) (j:=28) rfl (by decide) ?_
 rw[qMW]
 refine qt (i:=28) (j:=29) rfl (by decide) ?_
 rw[qO0]
 refine qt (i:=29) (j:=30) rfl (by decide) ?_
 rw[qMR]
 refine qt (i:=30) (j:=31) rfl (by decide) ?_
 rw[qNG]
 refine⟨false,c61,?_⟩
 rw[qNi]
 refine qt (i:=31) (j:=32) rfl (by decide) ?_
 rw[qM6]
 refine qt (i:=32) (j:=33) rfl (by decide) ?_
 rw[qNC]
 refine qt (i:=33) (j:=34) rfl (by decide) ?_
 rw[qNq]
 refine qt (i:=34) (j:=35) rfl (by decide) ?_
 rw[qM2]
 refine cV _ ?_
 rw[qNm]
 refine qt (i:=35) (j:=36) rfl (by decide) ?_
 rw[qNR]
 refine⟨_,qav,?_⟩
 rw[qNe]
 refine qt (i:=36) (j:=37) rfl (by decide) ?_
 rw[qNj]
 refine⟨false,q2D,?_⟩
 rw[qNE]
 refine qt (i:=37) (j:=38) rfl (by decide) ?_
 rw[qNP]
 refine qt (i:=38) (j:=39) rfl (by decide) ?_
 rw[qNc]
 exact qvF hK
theorem qM0(x18 x19:Int)(a20 a21:Addr)(w:World)(K:KT):ZK K .normal (qFh x18 x19 a20 a21) w=q18 false x18 x19 a20 a21 w K:=kr
theorem qhJ{P:Program}{c:Code}{i:Nat}{ops:Array Oper}{r:Option Nat}{Lo X:List Nat}{K:Exit->YT}{e:qi}{w:World}(h:c=.region i ops false):CS P c r Lo X K e w=qpr P r ops ops.toList e w (K .normal):=by subst h;rfl
def qMi:Nat:=match cA Qb 60 with
 | .region i _ _=>i
 | _=>0
theorem qaX:∃ i,cA Qb 60=.region i q0e false:=⟨qMi,by kernel_rfl⟩
theorem qzH(x18 x19:Int)(a20 a21:Addr):(qi.mk 104 [(2,(Value.int .i64 x18)),(1,(Value.int .i64 x19)),(7,(Value.pointer (some a20))),(3,(Value.pointer (some a21)))] [])=q6I x18 x19 a20 a21:=kr
theorem qGZ(x18 x19:Int)(a20 a21:Addr)(w:World)(K:KT):q0B x18 x19 a20 a21 w K=Ys 0 (q6I x18 x19 a20 a21) w (ZK K .normal):=by
 have h0:q0B x18 x19 a20 a21 w K=CS P (cA Qb 15) none [6] [6] (Qm K) (qi.mk 104 [(2,(Value.int .i64 x18)),(1,(Value.int .i64 x19)),(7,(Value.pointer (some a20))),(3,(Value.pointer (some a21)))] []) w:=by delta q0B;first | exact SGe | exact qE rfl
 have h1:CS P (cA Qb 15) none [6] [6] (Qm K) (qi.mk 104 [(2,(Value.int .i64 x18)),(1,(Value.int .i64 x19)),(7,(Value.pointer (some a20))),(3,(Value.pointer (some a21)))] []) w=(CS P (cA Qb 30) none [2,1,7,3] [6] (q1c K) (qi.mk 104 [(2,(Value.int .i64 x18)),(1,(Value.int .i64 x19)),(7,(Value.pointer (some a20))),(3,(Value.pointer (some a21)))] []) w):=qlj (a:=(cA Qb 30)) (b:=(cA Qb 31)) kr kr
 have h2:CS P (cA Qb 30) none [2,1,7,3] [6] (q1c K) (qi.mk 104 [(2,(Value.int .i64 x18)),(1,(Value.int .i64 x19)),(7,(Value.pointer (some a20))),(3,(Value.pointer (some a21)))] []) w=(CS P (cA Qb 60) none [69,2,1,7,3] [6] (ZK K) (qi.mk 104 [(2,(Value.int .i64 x18)),(1,(Value.int .i64 x19)),(7,(Value.pointer (some a20))),(3,(Value.pointer (some a21)))] []) w):=qlj (a:=(cA Qb 60)) (b:=(cA Qb 61)) kr kr
 obtain⟨i,hi⟩:=qaX
 have h3:qpr P none q0e q0e.toList (qi.mk 104 [(2,(Value.int .i64 x18)),(1,(Value.int .i64 x19)),(7,(Value.pointer (some a20))),(3,(Value.pointer (some a21)))] []) w (ZK K .normal)=Ys 0 (q6I x18 x19 a20 a21) w (ZK K .normal):=by rw[qzH];unfold Ys;rw[List.drop_zero]
 exact h0.trans (h1.trans (h2.trans ((qhJ hi).trans h3)))
end Go.Fx.Tryz
namespace Go.Fx.Tryz
set_option maxRecDepth 100000
open Go Go.Fx Go.Proofs
def c15:=ql Tryz.f15
def qMQ:=Tryz.f15.results.toList
abbrev vH K:=qr P qMQ K
def f15 w K:=CS P c15 none [0] [0] (vH K) (qz 202 []) w
abbrev qGq K:=kq c15 7 [0] [0] (vH K)
def qdd a b w K:=SG c15 29 [1] [0] (qGq K) 202 [(24,VB a),(1,VP b)] w
def qxB a w K:=SG c15 15 [0] [0] (vH K) 202 [(1,VP a)] w
abbrev qFG K:=kq c15 15 [0] [0] (vH K)
abbrev qI6 K:=kq c15 255 [0] [0] (vH K)
def Qs a b w K:=SG c15 1021 [1] [0] (qI6 K) 202 [(86,VB a),(1,VP b)] w
def qew a w K:=SG c15 511 [0] [0] (vH K) 202 [(1,VP a)] w
abbrev qyE K:=kq c15 511 [0] [0] (vH K)
abbrev qAm K:=kq c15 8191 [0] [0] (vH K)
def yf a b w K:=SG c15 32765 [1] [0] (qAm K) 202 [(133,VB a),(1,VP b)] w
def qe6 a w K:=SG c15 16383 [0] [0] (vH K) 202 [(1,VP a)] w
abbrev qA0 K:=kq c15 16383 [0] [0] (vH K)
abbrev qAh K:=kq c15 262143 [0] [0] (vH K)
def Jk a b w K:=SG c15 1048573 [1] [0] (qAh K) 202 [(176,VB a),(1,VP b)] w
def qgG a w K:=SG c15 524287 [0] [0] (vH K) 202 [(1,VP a)] w
abbrev qyj K:=kq c15 524287 [0] [0] (vH K)
def q6h a w K:=SG c15 4194303 [0] [0] (vH K) 202 [(0,VB a)] w
theorem qpz:q6h a w K=(K (Value.bool a) w):=qE kr
theorem qpy:qgG c w K=(q9 P 21 [(Value.pointer c),(Value.int .u32 256)] w (fun n o=>∃ p:Int,∃ g:Bool,n=(.tuple #[(Value.int .u32 p),(Value.bool g)])/\q9 P 19 [(Value.int .u32 512)] o (fun q r=>∃ (h:OA) (i j:Nat),q=(.slice h i j)/\q9 P 49 [(Value.int .u32 700),(Value.slice h i j)] r (fun s t=>∃ k:Array Value,s=(.agg k)/\q9 P 18 [(Value.pointer c),(Value.agg k)] t (fun u d=>∃ v:Int,∃ (x:OA) (y z:Nat),∃ l:Int,u=(.tuple #[(Value.int .u32 v),(Value.slice x y z),(Value.int .i64 l)])/\qp (!g) (qp (l==5) (q9 P 23 [(Value.pointer c)] d (fun a0 b0=>∃ e:Array Value,a0=(.agg e)/\∃ f:Array Value,(∀ wq,(Instr.build 47 #[(0,(Value.int .i64 3)),(1,(Value.int .i64 267)),(3,(Value.int .i64 2)),(4,(Value.int .i64 1))]).run P wq=.ok (.agg f) wq)/\∃ m:Bool,(∀ wq,(do eqGuard .eql 47 (.tmp 198) (.tmp 199) (Value.agg e) (Value.agg f);binOp .eql 47 (Value.agg e) (Value.agg f):Sem Value).run P wq=.ok (.bool m) wq)/\q6h m b0 K)) (q6h false d K)) (q6h false d K)))))):=qE (qI [1,9] (qyj K) kr)
theorem qoS:Jk a c w K=(qp a (K (Value.bool false) w) (qgG c w K)):=qE kr
theorem qpn:qe6 c w K=(q9 P 50 [(Value.int .u32 512)] w (fun b0 c0=>∃ (g:OA) (h i:Nat),b0=(.slice g h i)/\q9 P 49 [(Value.int .u32 600),(Value.slice g h i)] c0 (fun d0 e0=>∃ j:Array Value,d0=(.agg j)/\q9 P 18 [(Value.pointer c),(Value.agg j)] e0 (fun f0 g0=>∃ h0:Int,∃ (i0:OA) (j0 l0:Nat),∃ m0:Int,f0=(.tuple #[(Value.int .u32 h0),(Value.slice i0 j0 l0),(Value.int .i64 m0)])/\q9 P 19 [(Value.int .u32 512)] g0 (fun n0 o0=>∃ (k:OA) (l m:Nat),n0=(.slice k l m)/\q9 P 49 [(Value.int .u32 700),(Value.slice k l m)] o0 (fun p0 q0=>∃ n:Array Value,p0=(.agg n)/\q9 P 18 [(Value.pointer c),(Value.agg n)] q0 (fun r0 s0=>∃ t0:Int,∃ (u0:OA) (v0 x0:Nat),∃ y0:Int,r0=(.tuple #[(Value.int .u32 t0),(Value.slice u0 v0 x0),(Value.int .i64 y0)])/\q9 P 50 [(Value.int .u32 512)] s0 (fun z0 A0=>∃ (o:OA) (p q:Nat),z0=(.slice o p q)/\q9 P 49 [(Value.int .u32 800),(Value.slice o p q)] A0 (fun B0 C0=>∃ r:Array Value,B0=(.agg r)/\q9 P 18 [(Value.pointer c),(Value.agg r)] C0 (fun D0 E0=>∃ F0:Int,∃ (G0:OA) (H0 I0:Nat),∃ J0:Int,D0=(.tuple #[(Value.int .u32 F0),(Value.slice G0 H0 I0),(Value.int .i64 J0)])/\q9 P 19 [(Value.int .u32 512)] E0 (fun L0 M0=>∃ (s:OA) (t u:Nat),L0=(.slice s t u)/\q9 P 49 [(Value.int .u32 900),(Value.slice s t u)] M0 (fun N0 O0=>∃ v:Array Value,N0=(.agg v)/\q9 P 18 [(Value.pointer c),(Value.agg v)] O0 (fun Q0 d=>∃ x:Int,∃ (f:OA) (e R0:Nat),∃ y:Int,Q0=(.tuple #[(Value.int .u32 x),(Value.slice f e R0),(Value.int .i64 y)])/\qp (y != 0) (Jk true c d K) (qp (x != 6) (Jk true c d K) (qp ((((e:Nat):Int):Int) != 2) (Jk true c d K) (qh f (fun S0=>0<=(0:Int)/\(0:Int)<(e:Nat)/\∃ z:Int,d.cell? (S0.add (Int.toNat 0*1))=some (.int .u32 z)/\qp (z != 1) (Jk true c d K) (qh f (fun T0=>0<=(1:Int)/\(1:Int)<(e:Nat)/\∃ a0:Int,d.cell? (T0.add (Int.toNat 1*1))=some (.int .u32 a0)/\Jk (a0 != 3) c d K))))))))))))))))))):=qE (qI [1] (qA0 K) kr)
theorem qra:yf a c w K=(qp a (K (Value.bool false) w) (qe6 c w K)):=qE kr
theorem qoK:qew c w K=(q9 P 41 [(Value.pointer c),(Value.int .u32 1),(Value.int .i64 8)] w (fun o0 p0=>∃ q0:Bool,∃ u:Int,o0=(.tuple #[(Value.bool q0),(Value.int .i64 u)])/\q9 P 41 [(Value.pointer c),(Value.int .u32 3),(Value.int .i64 7)] p0 (fun r0 s0=>∃ t0:Bool,∃ v:Int,r0=(.tuple #[(Value.bool t0),(Value.int .i64 v)])/\∃ x:Array Value,(∀ wq,(Instr.build 36 #[(0,(Value.int .u32 515)),(1,(Value.int .i64 1))]).run P wq=.ok (.agg x) wq)/\q9 P 20 [(Value.pointer c),(Value.agg x)] s0 (fun u0 v0=>∃ (y:OA) (i x0:Nat),u0=(.slice y i x0)/\q9 P 28 [(Value.pointer c),(Value.int .u32 1)] v0 (fun y0 z0=>∃ z:Array Value,∃ a0:Int,y0=(.tuple #[(Value.agg z),(Value.int .i64 a0)])/\qu (qy P 41) 41 z0 (fun h A0=>zV 3 (Addr.mk h 0 none) z A0 (fun d=>qp (u != 1) ((yf true c d.drew K)/\((yf true c d.drew K)/\(yf true c d.drew K))) (qp (v != 211) ((yf true c d.drew K)/\((yf true c d.drew K)/\(yf true c d.drew K))) (qp (a0 != 0) ((yf true c d.drew K)/\((yf true c d.drew K)/\(yf true c d.drew K))) (qp ((((i:Nat):Int):Int) != 1) ((yf true c d.drew K)/\((yf true c d.drew K)/\(yf true c d.drew K))) (qh y (fun B0=>0<=(0:Int)/\(0:Int)<(i:Nat)/\∃ b0:Int,d.drew.cell? (B0.add (Int.toNat 0*1))=some (.int .u32 b0)/\qp (b0 != 2) ((yf true c d.drew K)/\((yf true c d.drew K)/\(yf true c d.drew K))) (∃ (e:OA) (f g:Nat),d.drew.cell? ((Addr.mk h 0 none).add 2)=some (.slice e f g)/\(∃ j:ByteArray,∃ c0:World,(convert 38 9 (Value.slice e f g)).run P d.drew=.ok (.string j) c0/\q9 P 19 [(Value.int .u32 512)] c0 (fun C0 D0=>∃ (d0:OA) (e0 f0:Nat),C0=(.slice d0 e0 f0)/\∃ k:ByteArray,∃ g0:World,(convert 38 9 (Value.slice d0 e0 f0)).run P D0=.ok (.string k) g0/\∃ h0:Bool,(∀ wq,(do eqGuard .neq 9 (.tmp 129) (.tmp 131) (Value.string j) (Value.string k);binOp .neq 9 (Value.string j) (Value.string k):Sem Value).run P wq=.ok (.bool h0) wq)/\yf h0 c g0 K))/\(q9 P 19 [(Value.int .u32 512)] d.drew (fun E0 l=>∃ (m:OA) (n o:Nat),E0=(.slice m n o)/\l.cell? ((Addr.mk h 0 none).add 2)=some (.slice e f g)/\(∃ p:ByteArray,∃ i0:World,(convert 38 9 (Value.slice e f g)).run P l=.ok (.string p) i0/\∃ q:ByteArray,∃ j0:World,(convert 38 9 (Value.slice m n o)).run P i0=.ok (.string q) j0/\∃ l0:Bool,(∀ wq,(do eqGuard .neq 9 (.tmp 129) (.tmp 131) (Value.string p) (Value.string q);binOp .neq 9 (Value.string p) (Value.string q):Sem Value).run P wq=.ok (.bool l0) wq)/\yf l0 c j0 K)/\(∃ r:ByteArray,∃ s:World,(convert 38 9 (Value.slice m n o)).run P l=.ok (.string r) s/\s.cell? ((Addr.mk h 0 none).add 2)=some (.slice e f g)/\∃ t:ByteArray,∃ m0:World,(convert 38 9 (Value.slice e f g)).run P s=.ok (.string t) m0/\∃ n0:Bool,(∀ wq,(do eqGuard .neq 9 (.tmp 129) (.tmp 131) (Value.string t) (Value.string r);binOp .neq 9 (Value.string t) (Value.string r):Sem Value).run P wq=.ok (.bool n0) wq)/\yf n0 c m0 K)))))))))))))))):=qE (qI [1,2] (qyE K) kr)
theorem qrb:Qs a c w K=(qp a (K (Value.bool false) w) (qew c w K)):=qE kr
theorem qq7:qxB c w K=(q9 P 19 [(Value.int .u32 512)] w (fun y z=>∃ (g:OA) (h i:Nat),y=(.slice g h i)/\q9 P 49 [(Value.int .u32 256),(Value.slice g h i)] z (fun a0 b0=>∃ j:Array Value,a0=(.agg j)/\q9 P 18 [(Value.pointer c),(Value.agg j)] b0 (fun c0 d0=>∃ k:Int,∃ (e0:OA) (f0 g0:Nat),∃ l:Int,c0=(.tuple #[(Value.int .u32 k),(Value.slice e0 f0 g0),(Value.int .i64 l)])/\q9 P 19 [(Value.int .u32 256)] d0 (fun h0 i0=>∃ (m:OA) (n o:Nat),h0=(.slice m n o)/\q9 P 49 [(Value.int .u32 512),(Value.slice m n o)] i0 (fun j0 l0=>∃ p:Array Value,j0=(.agg p)/\q9 P 18 [(Value.pointer c),(Value.agg p)] l0 (fun m0 n0=>∃ q:Int,∃ (o0:OA) (p0 q0:Nat),∃ r:Int,m0=(.tuple #[(Value.int .u32 q),(Value.slice o0 p0 q0),(Value.int .i64 r)])/\q9 P 21 [(Value.pointer c),(Value.int .u32 512)] n0 (fun r0 s0=>∃ s:Int,∃ t:Bool,r0=(.tuple #[(Value.int .u32 s),(Value.bool t)])/\q9 P 41 [(Value.pointer c),(Value.int .u32 1),(Value.int .i64 7)] s0 (fun t0 d=>∃ u:Bool,∃ v:Int,t0=(.tuple #[(Value.bool u),(Value.int .i64 v)])/\qp (l != 0) (Qs true c d K) (qp (r != 0) (Qs true c d K) (qp (v != 0) (Qs true c d K) (qp (k != 1) (Qs true c d K) (qp (q != 2) (Qs true c d K) (qp (s != 2) (Qs true c d K) (qp (!t) (Qs true c d K) (qp (!u) (Qs true c d K) (q9 P 23 [(Value.pointer c)] d (fun u0 v0=>∃ e:Array Value,u0=(.agg e)/\∃ f:Array Value,(∀ wq,(Instr.build 47 #[(0,(Value.int .i64 2)),(1,(Value.int .i64 22)),(2,(Value.int .i64 1))]).run P wq=.ok (.agg f) wq)/\∃ x:Bool,(∀ wq,(do eqGuard .neq 47 (.tmp 83) (.tmp 84) (Value.agg e) (Value.agg f);binOp .neq 47 (Value.agg e) (Value.agg f):Sem Value).run P wq=.ok (.bool x) wq)/\Qs x c v0 K)))))))))))))))))):=qE (qI [1,3,2] (qFG K) kr)
theorem qr4:qdd a c w K=(qp a (K (Value.bool false) w) (qxB c w K)):=qE kr
theorem qIt:f15 w K=(∃ b:Array Value,(∀ wq,(Instr.build 27 #[(0,(Value.int .i64 2)),(1,(Value.int .i64 256)),(2,(Value.int .i64 16))]).run P wq=.ok (.agg b) wq)/\q9 P 16 [(Value.agg b)] w (fun e c=>∃ a:Option Addr,∃ d:Int,e=(.tuple #[(Value.pointer a),(Value.int .i64 d)])/\qp (d != 0) (qdd true a c K) (qdd a.isNone a c K))):=kr
theorem qJi w K(h:f15 w K):q9 P 15 [] w K:=qA c15 Tryz.func15 h
def c19:=ql Tryz.f19
def qMp:=Tryz.f19.results.toList
abbrev qFk K:=qr P qMp K
def f19 a w K:=CS P c19 none [2] [2] (qFk K) (qz 7 [(Value.int .u32 a)]) w
theorem qIM:f19 b w K=(∃ a:Array Value,(∀ wq,(Instr.build 119 #[(0,(Value.int .i64 40)),(8,(Value.int .i64 1)),(9,(Value.int .u32 b))]).run P wq=.ok (.agg a) wq)/\qK 15 [(Value.agg a)]/\qu (([(Value.agg a)].map fun(v:Value)=>v.cells.toList).flatten.toArray) 119 w (fun f g=>q9 P 64 [(Value.slice (some (Addr.mk f 0 none)) 1 1)] g (fun h i=>∃ (c:OA) (d e:Nat),h=(.slice c d e)/\K (Value.slice c d e) i))):=kr
theorem qIA a w K(h:f19 a w K):q9 P 19 [(Value.int .u32 a)] w K:=qA c19 Tryz.func19 h
def c49:=ql Tryz.f49
def qLT:=Tryz.f49.results.toList
abbrev qFQ K:=qr P qLT K
def f49 a b c d w K:=CS P c49 none [4] [4] (qFQ K) (qz 11 [(Value.int .u32 a),(VS b c d)]) w
theorem qHM:f49 a c d e w K=(qu (qy P 41) 41 w (fun f i=>∃ b:Array Value,(∀ wq,(Instr.build 36 #[(0,(Value.int .u32 a)),(1,(Value.int .i64 4))]).run P wq=.ok (.agg b) wq)/\qK 2 [(Value.agg b)]/\qu (([(Value.agg b)].map fun(v:Value)=>v.cells.toList).flatten.toArray) 36 i (fun j k=>∃ g:Array Value,(∀ wq,(Instr.build 41 #[(0,(Value.int .u32 a)),(1,(Value.slice (some (Addr.mk j 0 none)) 1 1)),(2,(Value.slice c d e))]).run P wq=.ok (.agg g) wq)/\zV 3 (Addr.mk f 0 none) g k (fun h=>qS 3 (Addr.mk f 0 none) h (fun l=>K (Value.agg l) h))))):=kr
theorem qGU a b c d w K(h:f49 a b c d w K):q9 P 49 [(Value.int .u32 a),(Value.slice b c d)] w K:=qA c49 Tryz.func49 h
def c50:=ql Tryz.f50
def qNl:=Tryz.f50.results.toList
abbrev qgj K:=qr P qNl K
def f50 a w K:=CS P c50 none [2] [2] (qgj K) (qz 20 [(Value.int .u32 a)]) w
abbrev qF1 K:=kq c50 7 [2] [2] (qgj K)
abbrev qs4 K:=qo 0 (qF1 K)
def qEs K Y0 e w:=zt (fun e w=>CS P (cA c50 116) none [4,3,2,0] [2,0,3] (qv [4,3,2,0] Y0 (qs4 K)) e w) e w
abbrev q6d K Y0:=qv [4,3,2,0] Y0 (qs4 K)
def qlE a b c d f g h i w K Y0:=SG c50 116 [4,3,2,0] [2,0,3] (q6d K Y0) 20 [(4,VI a),(3,VS b c d),(2,VS f g h),(0,Value.int .u32 i)] w
def quS a b c d f g h i w K Y0:=SG c50 233 [4,3,2,0] [2,0,3] (q6d K Y0) 20 [(3,VS a b c),(2,VS d f g),(0,Value.int .u32 h),(4,VI i)] w
def qxa a b c d f g h i w K Y0:=SG c50 467 [4,3,2,0] [2,0,3] (q6d K Y0) 20 [(3,VS a b c),(2,VS d f g),(0,Value.int .u32 h),(4,VI i)] w
theorem qqH:qxa a b c d e f g h w K Y0=(Y0 (qi.mk 20 [(4,(Value.int .i64 (IntKind.wrap .i64 (h+1)))),(3,(Value.slice a b c)),(2,(Value.slice d e f)),(0,(Value.int .u32 g))] []) w):=kr
theorem qpA:quS b c d e f g h a w K Y0=(∃ i:Array Value,(∀ wq,(Instr.build 119 #[(0,(Value.int .i64 1))]).run P wq=.ok (.agg i) wq)/\qh b (fun j=>0<=a/\a<(c:Nat)/\zV 15 (j.add (Int.toNat a*15)) i w (fun k=>qxa b c d e f g h a k K Y0))):=kr
def qxm a b c d w K:=SG c50 15 [2] [2] (qgj K) 20 [(0,Value.int .u32 a),(3,VS b c d)] w
theorem qr2:qxm b c d e w K=(∃ a:Array Value,(∀ wq,(Instr.build 119 #[(0,(Value.int .i64 40)),(8,(Value.int .i64 1)),(9,(Value.int .u32 b))]).run P wq=.ok (.agg a) wq)/\qK 15 [(Value.agg a)]/\qu (([(Value.agg a)].map fun(v:Value)=>v.cells.toList).flatten.toArray) 119 w (fun m n=>∃ (f:OA) (g h:Nat),∃ i:World,(Builtin.append_ #[130,130] 130 #[(Value.slice c d e),(Value.slice (some (Addr.mk m 0 none)) 1 1)]).run P n=.ok (.slice f g h) i/\q9 P 64 [(Value.slice f g h)] i (fun o p=>∃ (j:OA) (k l:Nat),o=(.slice j k l)/\K (Value.slice j k l) p))):=kr
theorem qde:qlE a b c d f g h e w K Y0=(qp (decide (a<39)) (quS b c d f g h e a w K Y0) (qxm e b c d w K)):=kr
theorem qHc:f50 a w K=(∃ (b:OA) (c d:Nat),∃ e:World,(Instr.makeSlice 130 (Value.int .i64 39) (Value.int .i64 39)).run P w=.ok (.slice b c d) e/\qN (qEs K) (qi.mk 20 [(4,(Value.int .i64 0)),(3,(Value.slice b c d)),(2,(Value.slice none 0 0)),(0,(Value.int .u32 a))] []) e):=kr
theorem qGH a w K(h:f50 a w K):q9 P 50 [(Value.int .u32 a)] w K:=qA c50 Tryz.func50 h
def c64:=ql Tryz.f64
def qNI:=Tryz.f64.results.toList
abbrev qHz K:=qr P qNI K
def f64 a b c w K:=CS P c64 none [2] [2] (qHz K) (qz 13 [(VS a b c)]) w
theorem qIQ:f64 a b c w K=(q9 P 112 [(Value.slice a b c)] w (fun g h=>∃ (d:OA) (e f:Nat),∃ i:Int,∃ j:Int,g=(.tuple #[(Value.slice d e f),(Value.int .i64 i),(Value.int .i64 j)])/\K (Value.slice d e f) h)):=kr
theorem qIg a b c w K(h:f64 a b c w K):q9 P 64 [(Value.slice a b c)] w K:=qA c64 Tryz.func64 h
def yA:=ql Tryz.f112
def qKd:=Tryz.f112.results.toList
abbrev yb K:=qr P qKd K
def f112 a b c w K:=CS P yA none [2,3,4] [2,3,4] (yb K) (qz 67 [(VS a b c)]) w
def qo7 a b c w K:=SC yA 1 [2,3,4] [2,3,4] (yb K) 67 [(0,VS a b c)] w
abbrev qCD K:=kq yA 1 [2,3,4] [2,3,4] (yb K)
def qk8 a b c d e f g h w K:=SC yA 3 [2,3,4] [2,3,4] (yb K) 67 [(4,VI a),(3,VI b),(2,VS c d e),(0,VS f g h)] w
abbrev qCl K:=kq yA 3 [2,3,4] [2,3,4] (yb K)
def qo2 a b c d e f g h i j k w K:=SC yA 7 [2,3,4] [2,3,4] (yb K) 67 [(5,VS a b c),(4,VI d),(3,VI e),(2,VS f g h),(0,VS i j k)] w
abbrev Jb K:=kq yA 7 [2,3,4] [2,3,4] (yb K)
abbrev qAv K:=kq yA 14 [0,5] [2,3,4] (Jb K)
def qk2 a b c d e f g h i j k l w K:=SC yA 29 [0,5] [2,3,4] (Jb K) 67 [(6,VI a),(5,VS b c d),(4,VI e),(3,VI f),(2,VS g h i),(0,VS j k l)] w
abbrev q5e K:=qo 0 (Jb K)
def qvC K Y4 e w:=zt (fun e w=>CS P (cA yA 116) none [0,5,6,2,3,4] [2,3,4,0,5] (qv [0,5,6,2,3,4] Y4 (q5e K)) e w) e w
abbrev ZA K Y4:=qv [0,5,6,2,3,4] Y4 (q5e K)
def qcm a b c d f g h i j k l m w K Y4:=SG yA 116 [0,5,6,2,3,4] [2,3,4,0,5] (ZA K Y4) 67 [(0,VS a b c),(5,VS d f g),(6,VI h),(2,VS i j k),(3,VI l),(4,VI m)] w
abbrev qlu K Y4:=kq yA 116 [0,5,6,2,3,4] [2,3,4,0,5] (ZA K Y4)
abbrev qDv K Y4:=kq yA 232 [0,5,6,2,3,4] [2,3,4,0,5] (qlu K Y4)
def qoi a b c d f g h i j k l m w K Y4:=SG yA 233 [0,5,6,2,3,4] [2,3,4,0,5] (ZA K Y4) 67 [(0,VS a b c),(5,VS d f g),(6,VI h),(2,VS i j k),(3,VI l),(4,VI m)] w
abbrev qnr K Y4:=kq yA 233 [0,5,6,2,3,4] [2,3,4,0,5] (ZA K Y4)
abbrev VK K Y4:=qo 1 (qnr K Y4)
abbrev qzz K Y4:=kq yA 932 [0,5,2,3,4,6] [2,3,4,0,5,6] (VK K Y4)
abbrev qsH K Y4:=kq yA 1865 [0,5,2,3,4,6] [2,3,4,0,5,6] (VK K Y4)
def VC a b c d f g h i j k l m n o p q w K Y4:=SG yA 7461 [0,2,3,4,6,7,5] [2,3,4,0,5,6] (qsH K Y4) 67 [(39,VB a),(0,VS b c d),(5,VS f g h),(6,VI i),(2,VS j k l),(3,VI m),(4,VI n),(7,VS o p q)] w
def qo4 a b c d f g h i j k l m n o p w K Y4:=SG yA 3731 [0,5,2,3,4,6] [2,3,4,0,5,6] (VK K Y4) 67 [(0,VS a b c),(2,VS d f g),(3,VI h),(4,VI i),(6,VI j),(7,VS k l m),(5,VS n o p)] w
abbrev qsP K Y4:=kq yA 3731 [0,5,2,3,4,6] [2,3,4,0,5,6] (VK K Y4)
def q6T a b c d f g h i j k l m w K Y4:=SG yA 467 [0,5,6,2,3,4] [2,3,4,0,5] (ZA K Y4) 67 [(0,VS a b c),(5,VS d f g),(2,VS h i j),(3,VI k),(4,VI l),(6,VI m)] w
theorem qiF:q6T a c d e f g h i j k l m w K Y4=(Y4 (qi.mk 67 [(0,(Value.slice a c d)),(5,(Value.slice e f g)),(6,(Value.int .i64 (IntKind.wrap .i64 (m+1)))),(2,(Value.slice h i j)),(3,(Value.int .i64 k)),(4,(Value.int .i64 l))] []) w):=qE kr
theorem qhG:qo4 d e f g h i j k l o p q m c n w K Y4=(qp (decide ((((c:Nat):Int):Int)<=65536)) (∃ (r:OA) (s t:Nat),∃ u:World,(Builtin.append_ #[38,38] 38 #[(Value.slice m c n),(Value.slice o p q)]).run P w=.ok (.slice r s t) u/\q6T d e f r s t g h i j k l u K Y4) (q6T d e f m c n g h i j k l w K Y4)):=qE (qI [43,0,2,3,4,6,7,5] (qsP K Y4) kr)
theorem qi0:VC c d e f g h i a j k l m n o p q w K Y4=(qp c (K (Value.tuple #[(Value.slice none 0 0),(Value.int .i64 a),(Value.int .i64 170)]) w) (qo4 d e f j k l m n a o p q g h i w K Y4)):=qE kr
theorem qdJ:qoi e d f g h i c j k l m n w K Y4=(qh e (fun x=>0<=c/\c<(d:Nat)/\qS 15 (x.add (Int.toNat c*15)) w (fun y=>q9 P 73 [(Value.agg y)] w (fun z r=>∃ (o:OA) (p q:Nat),∃ s:Int,z=(.tuple #[(Value.slice o p q),(Value.int .i64 s)])/\qp (s != 0) (VC true e d f g h i c j k l m n o p q r K Y4) (qh e (fun a0=>0<=c/\c<(d:Nat)/\∃ t:Int,r.cell? (a0.add (Int.toNat c*15))=some (.int .i64 t)/\q9 P 117 [(Value.int .i64 t)] r (fun b0 u=>∃ v:Bool,b0=(.bool v)/\qp v (VC (c != (IntKind.wrap .i64 ((((d:Nat):Int):Int)-1))) e d f g h i c j k l m n o p q u K Y4) (VC false e d f g h i c j k l m n o p q u K Y4)))))))):=qE (qI [0,5,2,3,4,6] (qnr K Y4) (Q9 1 [2,3,4,0,5,6] (VK K Y4) (qI [0,5,6,2,3,4,7,8] (qzz K Y4) kr)))
def ql0 a b c d f g w K:=SG yA 15 [2,3,4] [2,3,4] (yb K) 67 [(0,VS a b c),(5,VS d f g)] w
abbrev q2u K:=kq yA 15 [2,3,4] [2,3,4] (yb K)
abbrev qxb K:=kq yA 30 [5] [2,3,4] (q2u K)
def q1W a b c d f g h w K:=SG yA 61 [5] [2,3,4] (q2u K) 67 [(60,VB a),(0,VS b c d),(5,VS f g h)] w
def qcg a b c w K:=SG yA 31 [2,3,4] [2,3,4] (yb K) 67 [(5,VS a b c)] w
abbrev qcH K:=kq yA 31 [2,3,4] [2,3,4] (yb K)
abbrev qul K:=kq yA 62 [5] [2,3,4] (qcH K)
def q8p a b c w K:=SG yA 63 [2,3,4] [2,3,4] (yb K) 67 [(5,VS a b c)] w
abbrev qtD K:=kq yA 63 [2,3,4] [2,3,4] (yb K)
theorem qam:q8p c d e w K=(K (Value.tuple #[(Value.slice c d e),(Value.int .i64 0),(Value.int .i64 0)]) w):=qE (qI [2,3,4] (qtD K) kr)
theorem q8K:qcg d c e w K=(qp (decide ((((c:Nat):Int):Int) > 65536)) (K (Value.tuple #[(Value.slice none 0 0),(Value.int .i64 0),(Value.int .i64 2)]) w) (q8p d c e w K)):=qE (qI [5] (qcH K) (qI [65,5] (qul K) kr))
theorem qaw:q1W a g c h d e f w K=(qp a (K (Value.tuple #[(Value.slice none 0 0),(Value.int .i64 ((c:Nat):Int)),(Value.int .i64 170)]) w) (qcg d e f w K)):=qE kr
theorem qf9:ql0 d c e f g h w K=(qp ((((c:Nat):Int):Int)==0) (q1W true d c e f g h w K) (qh d (fun k=>0<=(IntKind.wrap .i64 ((((c:Nat):Int):Int)-1))/\(IntKind.wrap .i64 ((((c:Nat):Int):Int)-1))<(c:Nat)/\∃ i:Int,w.cell? (k.add (Int.toNat (IntKind.wrap .i64 ((((c:Nat):Int):Int)-1))*15))=some (.int .i64 i)/\q9 P 117 [(Value.int .i64 i)] w (fun l m=>∃ j:Bool,l=(.bool j)/\q1W (!j) d c e f g h m K)))):=qE (qI [5] (q2u K) (qI [60,0,5] (qxb K) kr))
theorem q96:qcm d c e f g h i j k l m n w K Y4=(qp (decide (i<((c:Nat):Int))) (qoi d c e f g h i j k l m n w K Y4) (ql0 d c e f g h w K)):=qE (qI [0,5,6,2,3,4] (qlu K Y4) (qI [12,0,5,6,2,3,4] (qDv K Y4) kr))
theorem qio:qk2 a c d e f g h i j k l m w K=(qN (qvC K) (qi.mk 67 [(0,(Value.slice k l m)),(5,(Value.slice c d e)),(6,(Value.int .i64 a)),(2,(Value.slice h i j)),(3,(Value.int .i64 g)),(4,(Value.int .i64 f))] []) w):=Eq.trans (b:=CS P (cA yA 29) none [0,5] [2,3,4] (Jb K) (qi.mk 67 [(6,(VI a)),(5,(VS c d e)),(4,(VI f)),(3,(VI g)),(2,(VS h i j)),(0,(VS k l m))] []) w) kr (Eq.trans (Ze 0 [2,3,4,0,5] (q5e K) kr) ((qT (b:=(cA yA 116)) (X':=[2,3,4,0,5]) (H:=[0,5,6,2,3,4]) kr kr kr).trans kr))
theorem qdv:qo2 c d e f g h i j k l m w K=(qk2 0 c d e f g h i j k l m w K):=Eq.trans (b:=CS P (cA yA 7) none [2,3,4] [2,3,4] (yb K) (qi.mk 67 [(5,(VS c d e)),(4,(VI f)),(3,(VI g)),(2,(VS h i j)),(0,(VS k l m))] []) w) kr (Eq.trans (zd [0,5] (Jb K) kr) (Eq.trans (zd [0,5,6,2,3,4] (qAv K) kr) kr))
theorem qgc:qk8 c d e f g h i j w K=(qo2 none 0 0 c d e f g h i j w K):=Eq.trans (b:=CS P (cA yA 3) none [2,3,4] [2,3,4] (yb K) (qi.mk 67 [(4,(VI c)),(3,(VI d)),(2,(VS e f g)),(0,(VS h i j))] []) w) kr (Eq.trans (zd [0,5,2,3,4] (qCl K) kr) kr)
theorem qha:qo7 c d e w K=(qk8 0 0 none 0 0 c d e w K):=Eq.trans (b:=CS P (cA yA 1) none [2,3,4] [2,3,4] (yb K) (qi.mk 67 [(0,(VS c d e))] []) w) kr (Eq.trans (zd [0,2,3,4] (qCD K) kr) kr)
theorem qBy:f112 a b c w K=(qo7 a b c w K):=kr
theorem qAo a b c w K(h:f112 a b c w K):q9 P 112 [(Value.slice a b c)] w K:=qA yA Tryz.func112 h
def c73:=ql Tryz.f73
def qN5:=Tryz.f73.results.toList
abbrev vW K:=qr P qN5 K
def f73 a w K:=CS P c73 none [2,3] [2,3] (vW K) (qz 110 [(Value.agg a)]) w
def qwH a w K:=SG c73 7 [2,3] [2,3] (vW K) 110 [(1,VQ a)] w
def qe1 a b c d f w K:=SG c73 63 [2,3] [2,3] (vW K) 110 [(1,VQ a),(4,VQ b),(6,VS c d f)] w
def qfO a b c d f w K:=SG c73 127 [2,3] [2,3] (vW K) 110 [(1,VQ a),(4,VQ b),(6,VS c d f)] w
def qdO a b c d f w K:=SG c73 255 [2,3] [2,3] (vW K) 110 [(1,VQ a),(4,VQ b),(6,VS c d f)] w
def q6l a b c d f w K:=SG c73 511 [2,3] [2,3] (vW K) 110 [(1,VQ a),(4,VQ b),(6,VS c d f)] w
def qf2 a b c d f w K:=SG c73 1023 [2,3] [2,3] (vW K) 110 [(1,VQ a),(4,VQ b),(6,VS c d f)] w
def qfw a b c d f w K:=SG c73 2047 [2,3] [2,3] (vW K) 110 [(1,VQ a),(4,VQ b),(6,VS c d f)] w
def q7s a b c d f w K:=SG c73 4095 [2,3] [2,3] (vW K) 110 [(1,VQ a),(4,VQ b),(6,VS c d f)] w
def qdL a b c d f w K:=SG c73 8191 [2,3] [2,3] (vW K) 110 [(1,VQ a),(4,VQ b),(6,VS c d f)] w
def qfE a b c d f w K:=SG c73 16383 [2,3] [2,3] (vW K) 110 [(1,VQ a),(4,VQ b),(6,VS c d f)] w
def q0K a b c d f w K:=SG c73 32767 [2,3] [2,3] (vW K) 110 [(1,VQ a),(6,VS b c d),(4,VQ f)] w
def q6v a b c w K:=SG c73 65535 [2,3] [2,3] (vW K) 110 [(6,VS a b c)] w
theorem qhj:q6v a b c w K=(K (Value.tuple #[(Value.slice a b c),(Value.int .i64 0)]) w):=kr
theorem qhZ:q0K d a b c e w K=(∃ f:Bool,w.cell? (e.add 10)=some (.bool f)/\qp f (qS 4 (d.add 11) w (fun n=>q9 P 121 [(Value.agg n)] w (fun o p=>∃ (g:OA) (h i:Nat),o=(.slice g h i)/\∃ (j:OA) (k l:Nat),∃ m:World,(Builtin.append_ #[38,38] 38 #[(Value.slice a b c),(Value.slice g h i)]).run P p=.ok (.slice j k l) m/\q6v j k l m K))) (q6v a b c w K)):=kr
theorem q4k:qfE a b c d e w K=(∃ f:Bool,w.cell? (b.add 9)=some (.bool f)/\qp f (∃ g:Int,w.cell? (a.add 10)=some (.int .u32 g)/\q9 P 120 [(Value.int .u32 g),(Value.int .i64 4)] w (fun o p=>∃ (h:OA) (i j:Nat),o=(.slice h i j)/\∃ (k:OA) (l m:Nat),∃ n:World,(Builtin.append_ #[38,38] 38 #[(Value.slice c d e),(Value.slice h i j)]).run P p=.ok (.slice k l m) n/\q0K a k l m b n K)) (q0K a c d e b w K)):=kr
theorem q4d:qdL a b c d e w K=(∃ f:Bool,w.cell? (b.add 8)=some (.bool f)/\qp f (∃ g:Int,w.cell? (a.add 9)=some (.int .u32 g)/\q9 P 120 [(Value.int .u32 g),(Value.int .i64 4)] w (fun o p=>∃ (h:OA) (i j:Nat),o=(.slice h i j)/\∃ (k:OA) (l m:Nat),∃ n:World,(Builtin.append_ #[38,38] 38 #[(Value.slice c d e),(Value.slice h i j)]).run P p=.ok (.slice k l m) n/\qfE a b k l m n K)) (qfE a b c d e w K)):=kr
theorem q4o:q7s a b c d e w K=(∃ f:Bool,w.cell? (b.add 7)=some (.bool f)/\qp f (∃ g:Int,w.cell? (a.add 8)=some (.int .i64 g)/\q9 P 120 [(Value.int .u32 (IntKind.wrap .u32 g)),(Value.int .i64 2)] w (fun o p=>∃ (h:OA) (i j:Nat),o=(.slice h i j)/\∃ (k:OA) (l m:Nat),∃ n:World,(Builtin.append_ #[38,38] 38 #[(Value.slice c d e),(Value.slice h i j)]).run P p=.ok (.slice k l m) n/\qdL a b k l m n K)) (qdL a b c d e w K)):=kr
theorem qpB:qfw a b c d e w K=(∃ g:Int,w.cell? (b.add 6)=some (.int .i64 g)/\qp (g != 0) (∃ f:Int,w.cell? (a.add 7)=some (.int .i64 f)/\qK 1 [(Value.int .u8 (IntKind.wrap .u8 f))]/\qu (([(Value.int .u8 (IntKind.wrap .u8 f))].map fun(v:Value)=>v.cells.toList).flatten.toArray) 5 w (fun l m=>∃ (h:OA) (i j:Nat),∃ k:World,(Builtin.append_ #[38,38] 38 #[(Value.slice c d e),(Value.slice (some (Addr.mk l 0 none)) 1 1)]).run P m=.ok (.slice h i j) k/\q7s a b h i j k K)) (q7s a b c d e w K)):=kr
theorem qqo:qf2 a b c d e w K=(∃ g:Int,w.cell? (b.add 5)=some (.int .i64 g)/\qp (g != 0) (∃ f:Int,w.cell? (a.add 6)=some (.int .i64 f)/\qK 1 [(Value.int .u8 (IntKind.wrap .u8 f))]/\qu (([(Value.int .u8 (IntKind.wrap .u8 f))].map fun(v:Value)=>v.cells.toList).flatten.toArray) 5 w (fun l m=>∃ (h:OA) (i j:Nat),∃ k:World,(Builtin.append_ #[38,38] 38 #[(Value.slice c d e),(Value.slice (some (Addr.mk l 0 none)) 1 1)]).run P m=.ok (.slice h i j) k/\qfw a b h i j k K)) (qfw a b c d e w K)):=kr
theorem qqJ:q6l a b c d e w K=(∃ g:Int,w.cell? (b.add 4)=some (.int .i64 g)/\qp (g != 0) (∃ f:Int,w.cell? (a.add 5)=some (.int .i64 f)/\qK 1 [(Value.int .u8 (IntKind.wrap .u8 f))]/\qu (([(Value.int .u8 (IntKind.wrap .u8 f))].map fun(v:Value)=>v.cells.toList).flatten.toArray) 5 w (fun l m=>∃ (h:OA) (i j:Nat),∃ k:World,(Builtin.append_ #[38,38] 38 #[(Value.slice c d e),(Value.slice (some (Addr.mk l 0 none)) 1 1)]).run P m=.ok (.slice h i j) k/\qf2 a b h i j k K)) (qf2 a b c d e w K)):=kr
theorem qqF:qdO a b c d e w K=(∃ g:Int,w.cell? (b.add 3)=some (.int .i64 g)/\qp (g != 0) (∃ f:Int,w.cell? (a.add 4)=some (.int .i64 f)/\qK 1 [(Value.int .u8 (IntKind.wrap .u8 f))]/\qu (([(Value.int .u8 (IntKind.wrap .u8 f))].map fun(v:Value)=>v.cells.toList).flatten.toArray) 5 w (fun l m=>∃ (h:OA) (i j:Nat),∃ k:World,(Builtin.append_ #[38,38] 38 #[(Value.slice c d e),(Value.slice (some (Addr.mk l 0 none)) 1 1)]).run P m=.ok (.slice h i j) k/\q6l a b h i j k K)) (q6l a b c d e w K)):=kr
theorem qpE:qfO a b c d e w K=(∃ g:Bool,w.cell? (b.add 2)=some (.bool g)/\qp g (∃ f:Int,w.cell? (a.add 3)=some (.int .i64 f)/\qK 1 [(Value.int .u8 (IntKind.wrap .u8 f))]/\qu (([(Value.int .u8 (IntKind.wrap .u8 f))].map fun(v:Value)=>v.cells.toList).flatten.toArray) 5 w (fun l m=>∃ (h:OA) (i j:Nat),∃ k:World,(Builtin.append_ #[38,38] 38 #[(Value.slice c d e),(Value.slice (some (Addr.mk l 0 none)) 1 1)]).run P m=.ok (.slice h i j) k/\qdO a b h i j k K)) (qdO a b c d e w K)):=kr
theorem qpG:qe1 a b c d e w K=(∃ g:Bool,w.cell? (b.add 1)=some (.bool g)/\qp g (∃ f:Int,w.cell? (a.add 2)=some (.int .i64 f)/\qK 1 [(Value.int .u8 (IntKind.wrap .u8 f))]/\qu (([(Value.int .u8 (IntKind.wrap .u8 f))].map fun(v:Value)=>v.cells.toList).flatten.toArray) 5 w (fun l m=>∃ (h:OA) (i j:Nat),∃ k:World,(Builtin.append_ #[38,38] 38 #[(Value.slice c d e),(Value.slice (some (Addr.mk l 0 none)) 1 1)]).run P m=.ok (.slice h i j) k/\qfO a b h i j k K)) (qfO a b c d e w K)):=kr
theorem qpo:qwH a w K=(∃ f:Int,w.cell? a=some (.int .i64 f)/\q9 P 119 [(Value.int .i64 f)] w (fun o p=>∃ g:Array Value,∃ q:Bool,o=(.tuple #[(Value.agg g),(Value.bool q)])/\qu (qy P 172) 172 p (fun b r=>zV 11 (Addr.mk b 0 none) g r (fun h=>∃ d:Int,h.cell? a=some (.int .i64 d)/\qK 1 [(Value.int .u8 (IntKind.wrap .u8 d))]/\qu (([(Value.int .u8 (IntKind.wrap .u8 d))].map fun(v:Value)=>v.cells.toList).flatten.toArray) 5 h (fun i c=>∃ j:Bool,c.cell? (Addr.mk b 0 none)=some (.bool j)/\qp j (∃ e:Int,c.cell? (a.add 1)=some (.int .i64 e)/\qK 1 [(Value.int .u8 (IntKind.wrap .u8 e))]/\qu (([(Value.int .u8 (IntKind.wrap .u8 e))].map fun(v:Value)=>v.cells.toList).flatten.toArray) 5 c (fun s t=>∃ (k:OA) (l m:Nat),∃ n:World,(Builtin.append_ #[38,38] 38 #[(Value.slice (some (Addr.mk i 0 none)) 1 1),(Value.slice (some (Addr.mk s 0 none)) 1 1)]).run P t=.ok (.slice k l m) n/\qe1 a (Addr.mk b 0 none) k l m n K)) (qe1 a (Addr.mk b 0 none) (some (Addr.mk i 0 none)) 1 1 c K)))))):=kr
theorem qF2:f73 a w K=(qu a 119 w (fun b c=>qS 15 (Addr.mk b 0 none) c (fun f=>q9 P 118 [(Value.agg f)] c (fun g d=>∃ e:Bool,g=(.bool e)/\qp (!e) (K (Value.tuple #[(Value.slice none 0 0),(Value.int .i64 170)]) d) (qwH (Addr.mk b 0 none) d K))))):=kr
theorem qGd a w K(h:f73 a w K):q9 P 73 [(Value.agg a)] w K:=qA c73 Tryz.func73 h
end Go.Fx.Tryz
namespace Go.Fx.Tryz
open Go Go.Fx Go.Fx.Ch
open Go.Proofs
set_option linter.all false
set_option maxRecDepth 20000
variable {w0 w:World} {H X G:qF} {K:KT}
def X1:HI:={ op:=1 }
def X2(at_:Int):HI:={ op:=40,k:=1,i:=at_ }
theorem vF{cs vs:List Value}(h:vs.length=cs.length):qX cs 0 vs=vs:=by
 rw[ZY _ _ _ om]
 simp[h]
def Zd:Int->List Value
 | 1=>[.bool false,.bool false,.bool false,J 1,J 0,J 0,J 0,.bool false,.bool true,.bool false,.bool false]
 | _=>[.bool false,.bool false,.bool false,J 0,J 0,J 0,J 0,.bool true,.bool true,.bool true,.bool false]
def Is2(x:HI):Prop:=x=X1\/∃ a,x=X2 a
theorem qoR{x a b:Int}(hK:K (.bool (decide (a<=x)&&decide (x<=b))) w):q9 P 190 [J x,J a,J b] w K:=by
 refine qz2 _ _ _ _ _ ?_
 rw[qDJ,qg]
 refine⟨fun h=>?_,fun h=>?_⟩<;>rw[qi7]
 ·have:decide (a<=x)=true:=h
  rw[this,Bool.true_and]at hK;exact hK
 ·have:decide (a<=x)=false:=h
  rw[this,Bool.false_and]at hK;exact hK
theorem qiP{x:Int}(hK:K (.bool (x==40||x==41)) w):q9 P 117 [J x] w K:=by
 refine qym _ _ _ ?_
 rw[qC6]
 cases h:(x==40)<;>rw[h]at hK<;>simp only[qe,qb,qej]
 ·exact hK
 ·exact hK
theorem ZZ:qy P 172=#[.bool false,.bool false,.bool false,J 0,J 0,J 0,J 0,.bool false,.bool false,.bool false,.bool false]:=kr
theorem qHm(wq:World):(Instr.build 172 [(3,J 1),(8,.bool true)].toArray).run P wq=.ok (.agg (Zd 1).toArray) wq:=kr
theorem qDF(wq:World):(Instr.build 172 [(7,.bool true),(8,.bool true),(9,.bool true)].toArray).run P wq=.ok (.agg (Zd 40).toArray) wq:=kr
theorem Vu(x:Int):∀ v∈(Zd x).toArray.toList,v.oneCell'=true:=by
 unfold Zd
 split<;>simp[Value.oneCell']
theorem ym(x:Int):(Zd x).length=11:=by unfold Zd;split<;>rfl
theorem qt5(x:Int):(Zd x).take 11=Zd x:=List.take_of_length_le (by rw[ym];exact Nat.le_refl _)
theorem qcr(h:St w0 w H){op:Int}(ho:op=1\/op=40)(hK:∀ w',St w0 w' H->K (.tuple [.agg (Zd op).toArray,.bool true].toArray) w'):q9 P 119 [J op] w K:=by
 refine qA5 _ _ _ ?_
 rw[qDs,qh3,ZZ]
 refine h.newC fun n2 w3 hn2 h3=>?_
 have out:∀ {w4:World},St w0 w4 ((n2,Cs [.bool false,.bool false,.bool false,J 0,J 0,J 0,J 0,.bool false,.bool false,.bool false,.bool false] 172)::H)->zV 11 (Addr.mk n2 0 none) (Zd op).toArray w4 (fun w10=>qS 11 (Addr.mk n2 0 none) w10 (fun cs11=>K (.tuple [.agg cs11,.bool true].toArray) w10)):=fun {w4} h4=>by
  refine h4.stA (k:=0) rfl (by simp[ym]) (by simp) (Vu op) fun w10 h10=>h10.ldA (k:=0) rfl (by simp[zx]) ?_
  have:=hK w10 (h10.tail hn2)
  rw[vF (by simp[ym])]
  simpa [ym,qt5]using this
 rw[qfc]
 rcases ho with rfl | rfl
 ·simp only[q3N,Int.reduceBEq,qe,qb]
  exact⟨_,qHm,out h3⟩
 ·simp only[q3N,qdm,qfx,qir,qdC,qdw,qd4,qhq,qab,qc8,Int.reduceBEq,qe,qb]
  exact⟨_,qDF,out h3⟩
theorem q4w(x:HI):∀ v∈(qq x).toArray.toList,v.oneCell'=true:=by simp[qq,Value.oneCell']
theorem qxO(h:St w0 w H){x:HI}(ho:x.op=1\/x.op=40)(hK:∀ w',St w0 w' H->K (.tuple [.agg (Zd x.op).toArray,.bool true].toArray) w'):q9 P 180 [.agg (qq x).toArray] w K:=by
 refine qBk _ _ _ ?_
 rw[qB7,ZZ]
 refine h.newC fun n1 w2 hn1 h2=>h2.newC fun n3 w4 hn3 h4=>⟨x.op,h4.cell (k:=1) rfl,?_⟩
 refine qcr h4 ho fun w7 h7=>⟨_,_,rfl,?_⟩
 refine h7.newC fun n10 w11 hn10 h11=>h11.stA (k:=0) rfl (by simp[ym]) (by simp) (Vu _) fun w12 h12=>⟨x.op,h12.cell (k:=2) rfl,?_⟩
 have hne:(x.op==34)=false:=by rcases ho with h | h<;>rw[h]<;>decide
 simp only[hne,qb]
 rw[qdN,qb,qhs]
 rw[vF (by simp[ym])]at h12
 refine h12.ldA (k:=0) rfl (by simp[ym]) ?_
 rw[List.drop_zero,List.take_of_length_le (by simp[ym])]
 refine h12.stA (k:=1) rfl (by simp[ym]) (by simp) (Vu _) fun w24 h24=>h24.ldA (k:=1) rfl (by simp[zx]) ?_
 rw[vF (by simp[ym])]
 have:=hK w24 (((h24.tail hn10).tail hn3).tail hn1)
 simpa [ym,qt5]using this
theorem qyr(h:St w0 w H){x:HI}(ho:x.op=1\/x.op=40)(hs:x.sub=0)(hK:∀ w',St w0 w' H->K (.bool true) w'):q9 P 181 [.agg (qq x).toArray] w K:=by
 refine qyt _ _ _ ?_
 rw[qy5,qdx]
 refine h.newC fun n2 w3 hn2 h3=>?_
 rw[qf5]
 refine⟨x.op,h3.cell (k:=0) rfl,?_⟩
 have c1:w3.cell? ((Addr.mk n2 0 none).add 1)=some (J 0):=by rw[qa,h3.cell (k:=0) rfl,<-hs];rfl
 have hK:=hK w3 (h3.tail hn2)
 rcases ho with h | h<;>rw[h]<;>simp only[qfk,qdk,Int.reduceBEq,qe,qb,qi6]<;>exact⟨0,c1,hK⟩
theorem qtA(h:St w0 w H){x:HI}(ho:x.op=1\/x.op=40)(hs:x.ty=0)(hK:∀ w',St w0 w' H->K (.bool true) w'):q9 P 182 [.agg (qq x).toArray] w K:=by
 refine qCV _ _ _ ?_
 rw[qAF,qfI]
 refine h.newC fun n2 w3 hn2 h3=>?_
 rw[qgo]
 refine⟨x.op,h3.cell (k:=0) rfl,?_⟩
 have c1:w3.cell? ((Addr.mk n2 0 none).add 3)=some (J 0):=by rw[qa,h3.cell (k:=0) rfl,<-hs];rfl
 have hK:=hK w3 (h3.tail hn2)
 rcases ho with h | h<;>rw[h]<;>simp only[qid,qfS,Int.reduceBEq,qe,qb,qgL]<;>exact⟨0,c1,hK⟩
theorem qdc(h:St w0 w H){x:HI}(ho:x.op=1/\x.k=0\/x.op=40/\x.k=1)(hK:∀ w',St w0 w' H->K (.bool true) w'):q9 P 183 [.agg (qq x).toArray] w K:=by
 refine qzf _ _ _ ?_
 rw[qEg,qhE]
 refine h.newC fun n2 w3 hn2 h3=>?_
 rw[qd9]
 refine⟨x.op,h3.cell (k:=0) rfl,?_⟩
 have c1:w3.cell? ((Addr.mk n2 0 none).add 8)=some (J x.k):=by rw[qa];exact h3.cell (k:=0) rfl
 have hK:=hK w3 (h3.tail hn2)
 rcases ho with⟨h,hk⟩ | ⟨h,hk⟩<;>rw[h]<;>rw[hk]at c1
 ·simp only[q2F,q1l,q2v,q1L,q2g,q2j,JU,Int.reduceBEq,qe,qb,JX]
  exact⟨0,c1,hK⟩
 ·simp only[q2F,q1l,q2v,q1L,q2g,q2j,JU,Int.reduceBEq,qe,qb,JX]
  refine⟨1,c1,qoR ⟨_,rfl,?_⟩⟩
  exact hK
theorem Qg{n k a b:Int}(hn:n=0)(hk:k=0\/k=1)(ha:0<a)(hK:K (.bool true) w):q9 P 184 [J n,J k,J a,J b] w K:=by
 refine qA6 _ _ _ _ _ _ ?_
 subst hn
 rw[qyp]
 rcases hk with rfl | rfl
 ·simp only[Int.reduceBEq,qe];exact hK
 ·simp only[Int.reduceBEq,qb]
  rw[qie]
  simp only[Int.reduceBEq,qb]
  rw[qeY]
  simp only[ge_iff_le,Int.le_refl,decide_true,qe]
  rw[qgb,decide_eq_true ha]
  exact hK
theorem qLf(h:St w0 w H){x:HI}(hx:Is2 x)(hK:∀ w',St w0 w' H->K (.bool true) w'):q9 P 118 [.agg (qq x).toArray] w K:=by
 have ho:x.op=1/\x.k=0\/x.op=40/\x.k=1:=by
  rcases hx with rfl | ⟨a,rfl⟩
  ·exact .inl ⟨rfl,rfl⟩
  ·exact .inr ⟨rfl,rfl⟩
 have ho1:x.op=1\/x.op=40:=ho.imp And.left And.left
 have hz:x.sub=0/\x.frm=0/\x.ty=0/\x.d=0/\x.a=0/\x.b=0/\x.c=0/\x.chain=0/\x.v0=0/\x.v1=0/\x.v2=0/\x.v3=0:=by
  rcases hx with rfl | ⟨a,rfl⟩<;>exact⟨rfl,rfl,rfl,rfl,rfl,rfl,rfl,rfl,rfl,rfl,rfl,rfl⟩
 obtain⟨z1,z2,z3,z4,z5,z6,z7,z8,z9,z10,z11,z12⟩:=hz
 refine qAx _ _ _ ?_
 rw[qzZ]
 refine h.newC fun n1 w2 hn1 h2=>?_
 have h2:St w0 w2 ((n1,Cs (qq x) 119)::H):=h2
 refine h2.ldA (k:=0) rfl (by simp[qq]) ?_
 refine qBA _ _ _ _ _ ?_
 rw[qCa]
 refine h2.newC fun n3 w4 hn3 h4=>?_
 have h4:St w0 w4 ((n3,Cs (qq x) 119)::(n1,Cs (qq x) 119)::H):=h4
 refine h4.ldA (k:=0) rfl (by simp[qq]) ?_
 refine qxO (x:=x) h4 ho1 fun w7 h7=>⟨_,_,rfl,?_⟩
 rw[ZZ]
 refine h7.newC fun n10 w11 hn10 h11=>h11.stA (k:=0) rfl (by simp[ym]) (by simp) (Vu _) fun w12 h12=>?_
 rw[vF (by simp[ym])]at h12
 have h12:St w0 w12 ((n10,Cs (Zd x.op) 172)::(n3,Cs (qq x) 119)::(n1,Cs (qq x) 119)::H):=h12
 simp only[Bool.not_true,qb]
 refine h12.ldA (k:=1) rfl (by simp[qq]) ?_
 refine qyr (x:=x) h12 ho1 z1 fun w100 h100=>⟨_,rfl,?_⟩
 simp only[Bool.not_true,qb]
 refine h100.ldA (k:=1) rfl (by simp[qq]) ?_
 refine qtA (x:=x) h100 ho1 z3 fun w104 h104=>⟨_,rfl,?_⟩
 simp only[Bool.not_true,qb]
 refine h104.ldA (k:=1) rfl (by simp[qq]) ?_
 refine qdc (x:=x) h104 ho fun w108 h108=>⟨_,rfl,?_⟩
 rw[Bool.not_true,qcT,qb,qGZ]
 have cx:∀ i,w108.cell? ((Addr.mk n3 0 none).add i)=(qq x)[i]?:=fun i=>by rw[qa,h108.cell (k:=1) rfl,Nat.zero_add]
 have cf:∀ i,w108.cell? ((Addr.mk n10 0 none).add i)=(Zd x.op)[i]?:=fun i=>by rw[qa,h108.cell (k:=0) rfl,Nat.zero_add]
 have cV:∀ K:Array Value->Prop,K #[U 0,U 0,U 0,U 0]->qS 4 ((Addr.mk n3 0 none).add 11) w108 K:=fun K hK=>by
  rw[qa]
  refine h108.ldA (k:=1) rfl (by simp[qq]) ?_
  have:((qq x).drop (0+11)).take 4=[U 0,U 0,U 0,U 0]:=by simp[qq,z9,z10,z11,z12]
  rw[this];exact hK
 have fin:q18 false 6 12 (Addr.mk n10 0 none) (Addr.mk n3 0 none) w108 (fun r5 w5=>∃ b6:Bool,r5=Value.bool b6/\K (Value.bool b6) w5):=by
  rw[qgs,qb,qii]
  have hd:(Zd x.op)[3]?=some (J 0)\/(Zd x.op)[3]?=some (J 1):=by rcases ho1 with h | h<;>rw[h]<;>simp[Zd]
  have hf:(Zd x.op)[4]?=some (J 0)/\(Zd x.op)[5]?=some (J 0)/\(Zd x.op)[6]?=some (J 0):=by rcases ho1 with h | h<;>rw[h]<;>simp[Zd]
  obtain⟨k,hk,hc⟩:∃ k:Int,(k=0\/k=1)/\w108.cell? ((Addr.mk n10 0 none).add 3)=some (J k):=by
   rcases hd with hd | hd
   ·exact⟨0,.inl rfl,by rw[cf];exact hd⟩
   ·exact⟨1,.inr rfl,by rw[cf];exact hd⟩
  refine⟨x.d,by rw[cx];rfl,k,hc,Qg z4 hk (by decide) ⟨_,rfl,?_⟩⟩
  simp only[qe]
  refine⟨x.a,by rw[cx];rfl,0,by rw[cf];exact hf.1,Qg z5 (.inl rfl) (by decide) ⟨_,rfl,?_⟩⟩
  simp only[qe]
  refine⟨x.b,by rw[cx];rfl,0,by rw[cf];exact hf.2.1,Qg z6 (.inl rfl) (by decide) ⟨_,rfl,?_⟩⟩
  simp only[qe]
  refine⟨x.c,by rw[cx];rfl,0,by rw[cf];exact hf.2.2,Qg z7 (.inl rfl) (by decide) ⟨_,rfl,?_⟩⟩
  rw[qfY]
  exact⟨_,rfl,hK w108 (((h108.tail hn10).tail hn3).tail hn1)⟩
 rcases ho1 with h1 | h1
 ·refine qNd 6 12 (Addr.mk n10 0 none) (Addr.mk n3 0 none) w108 _ ?_ ?_ ?_ ?_ ?_ ?_ cV ?_
  ·rw[cf,h1];rfl
  ·rw[cx,<-z2];rfl
  ·rw[cf,h1];rfl
  ·rw[cf,h1];rfl
  ·rw[cx,<-z8];rfl
  ·rw[cf,h1];rfl
  ·rw[qNu];exact fin
 ·refine qML 6 12 (Addr.mk n10 0 none) (Addr.mk n3 0 none) w108 _ ?_ ?_ ?_ ?_ ?_ cV ?_
  ·rw[cf,h1];rfl
  ·rw[cx,<-z2];rfl
  ·rw[cf,h1];rfl
  ·rw[cf,h1];rfl
  ·rw[cf,h1];rfl
  ·rw[qM0];exact fin
def leN(x:Int)(n:Nat):List Int:=(List.range n).map fun i=>x / 2 ^ (8*i) % 256
theorem qw0(x:Int)(n:Nat):leN x (n+1)=leN x n++[x / 2 ^ (8*n) % 256]:=by
 unfold leN
 rw[List.range_succ,List.map_append]
 rfl
theorem q5c(x:Int)(n:Nat):(leN x n).length=n:=by simp[leN]
theorem q7z(x:Int):IntKind.wrap .u8 x=x % 256:=by simp[IntKind.wrap,IntKind.bits,IntKind.signed]
theorem qbV{x:Int}(hx:jq x){n:Nat}(hn:n<=4)(h:St w0 w H)(hK:∀ w' ov L,zv 1 5 ov n ((leN x n).map B) L->qG w0 L->St w0 w' (L++H)->K ov w'):q9 P 120 [U x,J n] w K:=by
 refine qCu _ _ _ _ ?_
 rw[qCj]
 refine⟨fun m e w'=>∃ (j:Nat) (a:Option Addr) (c:Nat) (L:qF),j<=n/\m=n-j/\e=qi.mk 22 [(6,J j),(0,U x),(5,.slice a j c),(4,.slice none 0 0),(1,J n)] []/\zv 1 5 (.slice a j c) j ((leN x j).map B) L/\qG w0 L/\St w0 w' (L++H),⟨_,0,none,0,[],by omega,rfl,rfl,zv.nil 1 5,qG.nil _,h⟩,?_⟩
 rintro m e w' ⟨j,a,c,L,hj,rfl,rfl,hS,hN,hs⟩
 show qbA ..
 rw[q8x,qg]
 refine⟨fun hlt=>?_,fun hge=>?_⟩
 ·have hlt:j<n:=by have:=of_decide_eq_true hlt;omega
  rw[qg1]
  have e1:IntKind.wrap .i64 ((8:Int)*(j:Int))=((8*j:Nat):Int):=by rw[qd om om];omega
  have e2:IntKind.wrap .u64 ((8*j:Nat):Int)=((8*j:Nat):Int):=qtZ om om
  rw[e1,e2,Int.toNat_natCast]
  have e3:min (8*j) (IntKind.bits .u32)=8*j:=by
   have:IntKind.bits .u32=32:=rfl
   omega
  rw[e3,q7z,Int.fdiv_eq_ediv_of_nonneg _ (Int.le_of_lt (Int.pow_pos (by decide)))]
  generalize hv:x / 2 ^ (8*j) % 256=v
  refine⟨by omega,⟨rfl,trivial⟩,hs.newC fun n15 w13 hn15 h13=>?_⟩
  have h13:St w0 w13 ([(n15,Cs [B (v)] 5)]++(L++H)):=h13
  obtain⟨g,cap,w17,L',hr,hS',h17,hN'⟩:=St.append (P:=P) 38 38 5 Tryz.t5 (B 0) 1 1 Tryz.underlying38 kr rfl rfl rfl rfl om (A:=[(n15,Cs [B (v)] 5)]) (news:=[B (v)]) h13 hS hN (j:=0) rfl rfl (fun u hu=>by rw[List.mem_singleton.1 hu];rfl) (by simp[maxLen];omega) om
  refine⟨_,_,_,w17,hr,?_⟩
  rw[qhU]
  refine⟨n-(j+1),by omega,j+1,some ⟨g,0,none⟩,cap,L',by omega,rfl,by rw[qd om om];rfl,?_,hN',St.tail (H:=L'++H) h17 hn15⟩
  rw[qw0,List.map_append,hv]
  exact hS'
 ·have:j=n:=by have:=of_decide_eq_false hge;omega
  subst this
  rw[qfo]
  exact hK w' _ L hS hN hs
theorem q0p{x:Int}{n:Nat}(hx:jq x)(hn:n<=4){o:List Int}{a:Option Addr}{c:Nat}{Lo:qF}{Q:Option Addr->Nat->Nat->World->Prop}(h:St w0 w (Lo++H))(hS:zv 1 5 (.slice a o.length c) o.length (o.map B) Lo)(hN:qG w0 Lo)(ho:o.length<1000)
  (hQ:∀ w' a' c' Lo',zv 1 5 (.slice a' (o++leN x n).length c') (o++leN x n).length ((o++leN x n).map B) Lo'->qG w0 Lo'->St w0 w' (Lo'++H)->Q a' (o++leN x n).length c' w') :
  q9 P 120 [U x,J n] w (fun r w1=>∃ (sa:Option Addr) (sl sc:Nat),r=.slice sa sl sc/\∃ (ta:Option Addr) (tl tc:Nat),∃ w2:World,(Builtin.append_ #[38,38] 38 [.slice a o.length c,.slice sa sl sc].toArray).run P w1=.ok (.slice ta tl tc) w2/\Q ta tl tc w2):=by
 refine qbV hx hn h fun w1 ov M hM hMN h1=>?_
 obtain⟨sa,sc,e⟩:=hM.form
 subst e
 have h2:St w0 w1 ([]++(Lo++(M++H))):=h1.perm (qn fun c=>by simp only[List.nil_append,List.map_append,List.sum_append];omega)
 obtain⟨v',w',L',hr,hS',h3,hN'⟩:=St.appendN (P:=P) 38 38 5 Tryz.t5 (B 0) 1 1 Tryz.underlying38 kr rfl rfl rfl rfl om h2 hS hN hM (fun u hu=>h2.has _ _ (List.mem_append_right [] (List.mem_append_right Lo (List.mem_append_left _ hu)))) (q9y _) (by simp[maxLen];omega) om
 have hle:(o++leN x n).length=o.length+n:=by rw[List.length_append,q5c]
 rw[<-hle,<-List.map_append]at hS'
 obtain⟨ta,tc,e⟩:=hS'.form
 subst e
 refine⟨sa,n,sc,rfl,ta,_,tc,w',hr,hQ w' ta tc L' hS' hN' ?_⟩
 have h4:St w0 w' (M++(L'++H)):=St.perm (H:=[]++(L'++(M++H))) h3 (qn fun c=>by simp only[List.nil_append,List.map_append,List.sum_append];omega)
 exact h4.sub hMN
def q0d(x:HI):List Int:=if x.op=1 then[1,0]++leN x.i 4 else[40]++leN 1 2++leN x.i 4++leN 0 4
theorem qvh{x:HI}(hx:Is2 x)(hi:jq x.i)(h:St w0 w H)(hK:∀ w' a c L,zv 1 5 (.slice a (q0d x).length c) (q0d x).length ((q0d x).map B) L->qG w0 L->St w0 w' (L++H)->K (.tuple [.slice a (q0d x).length c,J 0].toArray) w'):q9 P 73 [.agg (qq x).toArray] w K:=by
 refine qGd _ _ _ ?_
 rw[qF2]
 refine h.newC fun n1 w2 hn1 h2=>?_
 have h2:St w0 w2 ((n1,Cs (qq x) 119)::H):=h2
 refine h2.ldA (k:=0) rfl (by simp[qq]) ?_
 refine qLf h2 hx fun w5 h5=>⟨_,rfl,?_⟩
 simp only[Bool.not_true,qb]
 rw[qpo]
 have ho1:x.op=1\/x.op=40:=by
  rcases hx with rfl | ⟨a,rfl⟩
  ·exact .inl rfl
  ·exact .inr rfl
 refine⟨x.op,h5.cell (k:=0) rfl,qcr h5 ho1 fun w10 h10=>⟨_,_,rfl,?_⟩⟩
 rw[ZZ]
 refine h10.newC fun n13 w14 hn13 h14=>h14.stA (k:=0) rfl (by simp[ym]) (by simp) (Vu _) fun w15 h15=>?_
 rw[vF (by simp[ym])]at h15
 have h15:St w0 w15 ((n13,Cs (Zd x.op) 172)::(n1,Cs (qq x) 119)::H):=h15
 refine⟨x.op,h15.cell (k:=1) rfl,⟨rfl,trivial⟩,h15.newC fun n20 w18 hn20 h18=>?_⟩
 rw[q7z]at h18
 have h18:St w0 w18 ([(n20,Cs [B (x.op % 256)] 5)]++((n13,Cs (Zd x.op) 172)::(n1,Cs (qq x) 119)::H)):=h18
 have hS:zv 1 5 (.slice (some ⟨n20,0,none⟩) 1 1) 1 ([x.op % 256].map B) [(n20,Cs [B (x.op % 256)] 5)]:=⟨rfl,.inr ⟨n20,1,_,rfl,rfl,Nat.le_refl _,by decide,rfl,rfl⟩⟩
 have hN:qG w0 [(n20,Cs [B (x.op % 256)] 5)]:=fun y hy=>by rw[List.mem_singleton.1 hy];exact hn20
 have cf:∀ {w2:World} {L:qF} (i:Nat),St w0 w2 (L++((n13,Cs (Zd x.op) 172)::(n1,Cs (qq x) 119)::H))->w2.cell? ((Addr.mk n13 0 none).add i)=(Zd x.op)[i]?:=fun {w2 L} i h2=>by
  rw[qa,qw (h2.has _ _ (List.mem_append_right L (.head _))),Nat.zero_add]
 have cx:∀ {w2:World} {L:qF} (i:Nat),St w0 w2 (L++((n13,Cs (Zd x.op) 172)::(n1,Cs (qq x) 119)::H))->w2.cell? ((Addr.mk n1 0 none).add i)=(qq x)[i]?:=fun {w2 L} i h2=>by
  rw[qa,qw (h2.has _ _ (List.mem_append_right L (.tail _ (.head _)))),Nat.zero_add]
 have fin:∀ {w2:World} {a:Option Addr} {c:Nat} {L:qF} {o:List Int},o=q0d x->zv 1 5 (.slice a o.length c) o.length (o.map B) L->qG w0 L->St w0 w2 (L++((n13,Cs (Zd x.op) 172)::(n1,Cs (qq x) 119)::H))->q0K (Addr.mk n1 0 none) a o.length c (Addr.mk n13 0 none) w2 K:=fun {w2 a c L o} ho hS hN h2=>by
  subst ho
  have hv:(Zd x.op)[10]?=some (.bool false):=by rcases ho1 with h | h<;>rw[h]<;>rfl
  rw[qhZ]
  refine⟨false,by rw[cf 10 h2];exact hv,?_⟩
  rw[qb,qhj]
  have h3:St w0 w2 ((n13,Cs (Zd x.op) 172)::(n1,Cs (qq x) 119)::(L++H)):=h2.perm (qn fun c=>by simp only[List.map_append,List.map_cons,List.sum_append,List.sum_cons];omega)
  exact hK w2 a c L hS hN ((h3.tail hn13).tail hn1)
 have h0:w18.cell? (Addr.mk n13 0 none)=some (.bool false):=by
  have:=cf 0 h18
  rw[qa]at this
  rw[this]
  rcases ho1 with h | h<;>rw[h]<;>rfl
 refine⟨false,h0,?_⟩
 rw[qb,qpG]
 have hf:(Zd x.op)[1]?=some (.bool false)/\(Zd x.op)[2]?=some (.bool false)/\(Zd x.op)[4]?=some (J 0)/\(Zd x.op)[5]?=some (J 0)/\(Zd x.op)[6]?=some (J 0)/\(Zd x.op)[8]?=some (.bool true):=by
  rcases ho1 with h | h<;>rw[h]<;>exact⟨rfl,rfl,rfl,rfl,rfl,rfl⟩
 refine⟨false,by rw[cf 1 h18];exact hf.1,?_⟩
 rw[qb,qpE]
 refine⟨false,by rw[cf 2 h18];exact hf.2.1,?_⟩
 rw[qb,qqF]
 have regs:∀ {w2:World} {a:Option Addr} {n c:Nat} {L:qF},St w0 w2 (L++((n13,Cs (Zd x.op) 172)::(n1,Cs (qq x) 119)::H))->q7s (Addr.mk n1 0 none) (Addr.mk n13 0 none) a n c w2 K->q6l (Addr.mk n1 0 none) (Addr.mk n13 0 none) a n c w2 K:=fun {w2 a n c L} h2 hk=>by
  rw[qqJ]
  refine⟨0,by rw[cf 4 h2];exact hf.2.2.1,?_⟩
  simp only[show((0:Int) != 0)=false from rfl,qb]
  rw[qqo]
  refine⟨0,by rw[cf 5 h2];exact hf.2.2.2.1,?_⟩
  simp only[show((0:Int) != 0)=false from rfl,qb]
  rw[qpB]
  refine⟨0,by rw[cf 6 h2];exact hf.2.2.2.2.1,?_⟩
  simp only[show((0:Int) != 0)=false from rfl,qb]
  exact hk
 rcases hx with rfl | ⟨at_,rfl⟩
 ·-- a set
  refine⟨1,by rw[cf 3 h18];rfl,?_⟩
  simp only[show((1:Int) != 0)=true from rfl,qe]
  refine⟨0,by rw[cx 4 h18];rfl,⟨rfl,trivial⟩,h18.newC fun n59 w57 hn59 h57=>?_⟩
  rw[q7z]at h57
  have h57:St w0 w57 ([(n59,Cs [B (0 % 256)] 5)]++([(n20,Cs [B (1 % 256)] 5)]++((n13,Cs (Zd 1) 172)::(n1,Cs (qq X1) 119)::H))):=h57
  obtain⟨g,cap,w61,L',hr,hS',h61,hN'⟩:=St.append (P:=P) 38 38 5 Tryz.t5 (B 0) 1 1 Tryz.underlying38 kr rfl rfl rfl rfl om (A:=[(n59,Cs [B (0 % 256)] 5)]) (news:=[B (0 % 256)]) h57 hS hN (j:=0) rfl rfl (fun u hu=>by rw[List.mem_singleton.1 hu];rfl) (by simp[maxLen]) om
  refine⟨_,_,_,w61,hr,?_⟩
  have h62:St w0 w61 (L'++((n13,Cs (Zd 1) 172)::(n1,Cs (qq X1) 119)::H)):=St.tail h61 hn59
  refine regs h62 ?_
  rw[q4o]
  refine⟨false,by rw[cf 7 h62];rfl,?_⟩
  rw[qb,q4d]
  refine⟨true,by rw[cf 8 h62];rfl,?_⟩
  rw[qe]
  refine⟨0,by rw[cx 9 h62];rfl,?_⟩
  refine q0p (n:=4) (o:=[1,0]) Vk om h62 hS' hN' (by decide) fun w2 a c L hS2 hN2 h2=>?_
  rw[q4k]
  refine⟨false,by rw[cf 9 h2];rfl,?_⟩
  rw[qb]
  exact fin rfl hS2 hN2 h2
 ·-- an end
  refine⟨0,by rw[cf 3 h18];rfl,?_⟩
  simp only[show((0:Int) != 0)=false from rfl,qb]
  refine regs h18 ?_
  rw[q4o]
  refine⟨true,by rw[cf 7 h18];rfl,?_⟩
  rw[qe]
  refine⟨1,by rw[cx 8 h18];rfl,?_⟩
  rw[Zq (by decide) (by decide)]
  refine q0p (n:=2) (o:=[40]) ⟨by decide,by decide⟩ om h18 hS hN (by decide) fun w2 a c L hS2 hN2 h2=>?_
  rw[q4d]
  refine⟨true,by rw[cf 8 h2];rfl,?_⟩
  rw[qe]
  refine⟨at_,by rw[cx 9 h2];rfl,?_⟩
  refine q0p (n:=4) (o:=[40]++leN 1 2) hi om h2 hS2 hN2 (by decide) fun w3 a3 c3 L3 hS3 hN3 h3=>?_
  rw[q4k]
  refine⟨true,by rw[cf 9 h3];rfl,?_⟩
  rw[qe]
  refine⟨0,by rw[cx 10 h3];rfl,?_⟩
  refine q0p (n:=4) (o:=[40]++leN 1 2++leN at_ 4) Vk om h3 hS3 hN3 (by simp[q5c]) fun w4 a4 c4 L4 hS4 hN4 h4=>?_
  exact fin rfl hS4 hN4 h4
def zN(l:List HI):List Int:=(l.map q0d).flatten
def zT(n:Nat)(at_:Int):List HI:=List.replicate n X1++[X2 at_]
theorem Jf(n:Nat)(at_:Int):(zT n at_).length=n+1:=by simp[zT]
theorem qwf{n:Nat}{at_:Int}{i:Nat}(hi:i<(zT n at_).length):(zT n at_)[i]=if i<n then X1 else X2 at_:=by
 simp only[zT,List.getElem_append,List.length_replicate,List.getElem_replicate]
 split
 ·rfl
 ·have:i-n=0:=by rw[Jf]at hi;omega
  simp[this]
theorem qad{x:HI}(hx:Is2 x):(q0d x).length<=11:=by
 rcases hx with rfl | ⟨a,rfl⟩<;>simp[q0d,q5c,X1,X2]
theorem q4h{l:List HI}(hx:∀ x∈l,Is2 x):(zN l).length<=11*l.length:=by
 induction l with
 | nil=>simp[zN]
 | cons x r ih=>
  have h1:=ih fun y hy=>hx y (.tail _ hy)
  have h2:=qad (hx x (.head _))
  unfold zN at *
  simp only[List.map_cons,List.flatten_cons,List.length_append,List.length_cons]
  omega
theorem qdT(l:List HI)(x:HI):zN (l++[x])=zN l++q0d x:=by simp[zN]
theorem qgF{n:Nat}{at_:Int}{a:Option Addr}{c:Nat}(hn:n<=39)(hat:jq at_)(h:St w0 w H)(hrow:∀ w',St w0 w' H->vj w' 15 (.slice a (zT n at_).length c) (zT n at_).length ((zT n at_).map qq).flatten)
  (hK:∀ w' ov L,zv 1 5 ov (zN (zT n at_)).length ((zN (zT n at_)).map B) L->qG w0 L->St w0 w' (L++H)->K (.tuple [ov,J 0,J 0].toArray) w'):q9 P 112 [.slice a (zT n at_).length c] w K:=by
 have hlen:=Jf n at_
 have hat':∀ {i:Nat} (hi:i<(zT n at_).length),(zT n at_)[i]=if i<n then X1 else X2 at_:=qwf
 generalize zT n at_=l at *
 have hIs:∀ {i:Nat} (hi:i<l.length),Is2 l[i]/\jq l[i].i:=fun {i} hi=>by
  rw[hat' hi]
  split
  ·exact⟨.inl rfl,Vk⟩
  ·exact⟨.inr ⟨_,rfl⟩,hat⟩
 have hall:∀ x∈l,Is2 x:=fun x hx=>by
  obtain⟨i,hi,rfl⟩:=List.getElem_of_mem hx
  exact(hIs hi).1
 have hop:∀ {w2:World} {i:Nat} (hi:i<l.length),St w0 w2 H->∃ ad,a=some ad/\w2.cell? (ad.add (i*15))=some (J l[i].op)/\∀ K:Array Value->Prop,K (qq l[i]).toArray->qS 15 (ad.add (i*15)) w2 K:=fun {w2 i} hi h2=>by
  obtain⟨ad,cp,hac,hld⟩:=(hrow w2 h2).ldA hi
  injection hac with hac _ _
  rw[v8 qq 15 (fun x=>rfl) l hi]at hld
  refine⟨ad,hac,?_,hld⟩
  obtain⟨cs,hsz,hcs,hc0⟩:=hld (fun cs=>cs=(qq l[i]).toArray) rfl
  have:=hcs 0 (by decide)
  rw[hc0]at this
  have e:(ad.add (i*15)).add 0=ad.add (i*15):=by rw[vw];rfl
  rw[e]at this
  rw[this];rfl
 refine qAo _ _ _ _ _ ?_
 rw[qBy,qha,qgc,qdv,qio]
 have hcl:∀ j,(zN (l.take j)).length<=440:=fun j=>by
  have h1:=q4h (l:=l.take j) fun x hx=>hall x (List.mem_of_mem_take hx)
  have h2:(l.take j).length<=l.length:=by rw[List.length_take];omega
  omega
 refine⟨fun m e w'=>∃ (j:Nat) (oa:Option Addr) (oc:Nat) (L:qF),j<=l.length/\m=l.length-j/\e=qi.mk 67 [(0,.slice a l.length c),(5,.slice oa (zN (l.take j)).length oc),(6,J j),(2,.slice none 0 0),(3,J 0),(4,J 0)] []/\
  zv 1 5 (.slice oa (zN (l.take j)).length oc) (zN (l.take j)).length ((zN (l.take j)).map B) L/\qG w0 L/\St w0 w' (L++H),⟨_,0,none,0,[],by omega,rfl,rfl,zv.nil 1 5,qG.nil _,h⟩,?_⟩
 rintro m e w' ⟨j,oa,oc,L,hj,rfl,rfl,hS,hN,hs⟩
 show qcm ..
 rw[q96,qg]
 refine⟨fun hlt=>?_,fun hge=>?_⟩
 ·have hlt:j<l.length:=by have:=of_decide_eq_true hlt;omega
  rw[qdJ]
  obtain⟨ad,rfl,hc,hld⟩:=hop hlt (hs.sub hN)
  refine⟨by omega,by omega,?_⟩
  rw[Int.toNat_natCast]
  refine hld _ ?_
  refine qvh (hIs hlt).1 (hIs hlt).2 hs fun w32 ba bc M hM hMN h32=>⟨_,_,_,_,rfl,?_⟩
  simp only[show((0:Int) != 0)=false from rfl,qb]
  obtain⟨ad2,e2,hc2,_⟩:=hop hlt ((h32.sub hMN).sub hN)
  cases e2
  refine⟨by omega,by omega,l[j].op,hc2,?_⟩
  refine qiP ⟨_,rfl,?_⟩
  have s6:VC false (some ad) l.length c oa (zN (l.take j)).length oc j none 0 0 0 0 ba (q0d l[j]).length bc w32 K (fun e' w'=>∃ m,m<l.length-j/\∃ (j:Nat) (oa:Option Addr) (oc:Nat) (L:qF),j<=l.length/\m=l.length-j/\e'=qi.mk 67 [(0,.slice (some ad) l.length c),(5,.slice oa (zN (l.take j)).length oc),(6,J j),(2,.slice none 0 0),(3,J 0),(4,J 0)] []/\
    zv 1 5 (.slice oa (zN (l.take j)).length oc) (zN (l.take j)).length ((zN (l.take j)).map B) L/\qG w0 L/\St w0 w' (L++H)):=by
   rw[qi0,qb,qhG]
   have hle:=hcl j
   rw[decide_eq_true om,qe]
   have h33:St w0 w32 ([]++(L++(M++H))):=h32.perm (qn fun c=>by simp only[List.nil_append,List.map_append,List.sum_append];omega)
   have hel:=qad (hIs hlt).1
   obtain⟨v',w2,L',hr,hS',h34,hN'⟩:=St.appendN (P:=P) 38 38 5 Tryz.t5 (B 0) 1 1 Tryz.underlying38 kr rfl rfl rfl rfl om h33 hS hN hM (fun u hu=>h33.has _ _ (List.mem_append_right [] (List.mem_append_right L (List.mem_append_left _ hu)))) (q9y _) (by simp[maxLen];omega) om
   have hst:zN (l.take (j+1))=zN (l.take j)++q0d l[j]:=by rw[zy l hlt,qdT]
   have hsl:(zN (l.take (j+1))).length=(zN (l.take j)).length+(q0d l[j]).length:=by rw[hst,List.length_append]
   rw[<-hsl,<-List.map_append,<-hst]at hS'
   obtain⟨ta,tc,e⟩:=hS'.form
   subst e
   refine⟨ta,_,tc,w2,hr,?_⟩
   rw[qiF]
   have h35:St w0 w2 (M++(L'++H)):=St.perm (H:=[]++(L'++(M++H))) h34 (qn fun c=>by simp only[List.nil_append,List.map_append,List.sum_append];omega)
   exact⟨l.length-(j+1),by omega,j+1,ta,tc,L',by omega,rfl,by rw[qd om om];rfl,hS',hN',h35.sub hMN⟩
  rw[qg]
  refine⟨fun hb=>?_,fun _=>s6⟩
  have hjn:¬ j<n:=fun hh=>by
   rw[hat' hlt,if_pos hh]at hb
   exact absurd hb (by decide)
  have:((j:Int) != IntKind.wrap .i64 (((l.length:Nat):Int)-1))=false:=by
   rw[qd om om]
   simp
   omega
  rw[this]
  exact s6
 ·have:j=l.length:=by have:=of_decide_eq_false hge;omega
  subst this
  rw[List.take_length]at hS ⊢
  rw[qf9]
  have hne:(((l.length:Nat):Int)==0)=false:=beq_eq_false_iff_ne.2 om
  rw[hne,qb]
  have hlt:l.length-1<l.length:=by omega
  obtain⟨ad,rfl,hc,_⟩:=hop hlt (hs.sub hN)
  have ew:IntKind.wrap .i64 (((l.length:Nat):Int)-1)=((l.length-1:Nat):Int):=by rw[qd om om];omega
  rw[ew]
  refine⟨by omega,by omega,_,by rw[Int.toNat_natCast];exact hc,qiP ⟨_,rfl,?_⟩⟩
  have hnl:¬ l.length-1<n:=by omega
  have hlast:l[l.length-1].op=40:=by rw[hat' hlt,if_neg hnl];rfl
  rw[hlast]
  simp only[show((40:Int)==40)=true from rfl,Bool.true_or,Bool.not_true]
  rw[qaw,qb,q8K]
  have hle:=q4h hall
  have hd:decide ((((zN l).length:Nat):Int) > 65536)=false:=decide_eq_false om
  rw[hd,qb,qam]
  exact hK w' _ L hS hN hs
theorem q4D{n:Nat}{at_:Int}{a:Option Addr}{c:Nat}(hn:n<=39)(hat:jq at_)(h:St w0 w H)(hrow:∀ w',St w0 w' H->vj w' 15 (.slice a (zT n at_).length c) (zT n at_).length ((zT n at_).map qq).flatten)
  (hK:∀ w' ov L,zv 1 5 ov (zN (zT n at_)).length ((zN (zT n at_)).map B) L->qG w0 L->St w0 w' (L++H)->K ov w'):q9 P 64 [.slice a (zT n at_).length c] w K:=by
 refine qIg _ _ _ _ _ ?_
 rw[qIQ]
 refine qgF hn hat h hrow fun w' ov L hS hN hs=>?_
 obtain⟨oa,oc,e⟩:=hS.form
 subst e
 exact⟨_,_,_,_,_,rfl,hK w' _ L hS hN hs⟩
theorem bX2(at_:Int)(wq:World):(Instr.build 119 [(0,J 40),(8,J 1),(9,U at_)].toArray).run P wq=.ok (.agg (qq (X2 at_)).toArray) wq:=kr
theorem bX1(wq:World):(Instr.build 119 [(0,J 1)].toArray).run P wq=.ok (.agg (qq X1).toArray) wq:=kr
theorem qjT{at_:Int}(hat:jq at_)(h:St w0 w H)(hK:∀ w' ov L,zv 1 5 ov (zN (zT 0 at_)).length ((zN (zT 0 at_)).map B) L->qG w0 L->St w0 w' (L++H)->K ov w'):q9 P 19 [U at_] w K:=by
 refine qIA _ _ _ ?_
 rw[qIM]
 refine⟨_,bX2 at_,⟨rfl,trivial⟩,h.newC fun n5 w3 hn5 h3=>?_⟩
 have h3:St w0 w3 ((n5,Cs (qq (X2 at_)) 119)::H):=h3
 have hrow:∀ w',St w0 w' ((n5,Cs (qq (X2 at_)) 119)::H)->vj w' 15 (.slice (some (Addr.mk n5 0 none)) 1 1) 1 (qq (X2 at_)):=fun w' h'=>⟨rfl,.inr ⟨_,_,rfl,fun i hi=>by rw[qa,h'.cell (k:=0) rfl,Nat.zero_add]⟩⟩
 refine q4D (n:=0) (at_:=at_) om hat h3 (by simpa [zT]using hrow) fun w7 ov L hS hN h7=>?_
 obtain⟨oa,oc,e⟩:=hS.form
 subst e
 refine⟨_,_,_,rfl,hK w7 _ L hS hN ?_⟩
 have h8:St w0 w7 ((n5,Cs (qq (X2 at_)) 119)::(L++H)):=h7.perm (qn fun c=>by simp only[List.map_append,List.map_cons,List.sum_append,List.sum_cons];omega)
 exact h8.tail hn5
theorem qCn(j:Nat):((List.replicate j X1).map qq).flatten.length=j*15:=by
 induction j with
 | zero=>rfl
 | succ j ih=>
  rw[List.replicate_succ,List.map_cons,List.flatten_cons,List.length_append,ih]
  show 15+_=_
  omega
theorem qs9(j:Nat):((List.replicate (j+1) X1).map qq).flatten=((List.replicate j X1).map qq).flatten++qq X1:=by
 rw[List.replicate_succ',List.map_append,List.flatten_append]
 simp
theorem qJW:∃ z,Tryz.t119.zero=some z/\z.cells.size=15:=⟨.agg (qq {}).toArray,by kernel_rfl,rfl⟩
theorem qq6{at_:Int}(hat:jq at_)(h:St w0 w H)(hK:∀ w' ov L,zv 1 5 ov (zN (zT 39 at_)).length ((zN (zT 39 at_)).map B) L->qG w0 L->St w0 w' (L++H)->K ov w'):q9 P 50 [U at_] w K:=by
 refine qGH _ _ _ ?_
 rw[qHc]
 obtain⟨z,hz,hzs⟩:=qJW
 have hr:=run_make (P:=P) w 130 119 Tryz.t119 z Tryz.underlying130 kr hz .i64 .i64 39 39 (by decide) (by decide) (by show((96:Nat):Int)*_<=_;decide) (by decide)
 rw[show Tryz.t119.size=15 from rfl]at hr
 refine⟨_,_,_,_,hr,?_⟩
 have hg:=h.le
 have hsz:(madeCells z.cells (Int.toNat 39*15)).size=585:=by rw[size_madeCells];rfl
 generalize hcs:madeCells z.cells (Int.toNat 39*15)=cs0 at *
 have h1:St w0 (w.alloc (.cells cs0 119)) ((w.heap.size,Cs cs0.toList 119)::H):=by
  have:=h.alloc (.cells cs0 119)
  have e:Obj.cells cs0 119 (0,0)=Cs cs0.toList 119:=by unfold Cs;rw[Array.toArray_toList]
  rw[e]at this
  exact this
 have hl0:cs0.toList.length=585:=by rw[Array.length_toList];exact hsz
 generalize cs0.toList=c0 at *
 generalize w.heap.size=g at *
 refine⟨fun m e w'=>∃ (j:Nat) (cs:List Value),j<=39/\m=39-j/\e=qi.mk 20 [(4,J j),(3,.slice (some ⟨g,0,none⟩) 39 39),(2,.slice none 0 0),(0,U at_)] []/\cs.length=585/\cs.take (j*15)=((List.replicate j X1).map qq).flatten/\St w0 w' ((g,Cs cs 119)::H),⟨_,0,c0,by omega,rfl,rfl,hl0,rfl,h1⟩,?_⟩
 rintro m e w' ⟨j,cs,hj,rfl,rfl,hl,ht,hs⟩
 show qlE ..
 rw[qde,qg]
 refine⟨fun hlt=>?_,fun hge=>?_⟩
 ·have hlt:j<39:=by have:=of_decide_eq_true hlt;omega
  rw[qpA]
  refine⟨_,bX1,by omega,by omega,?_⟩
  rw[qa,Int.toNat_natCast,Nat.zero_add]
  refine hs.stA (k:=0) rfl rfl om (q4w X1) fun w13 h13=>?_
  rw[qqH]
  have hle:(qq X1).length=15:=rfl
  refine⟨39-(j+1),by omega,j+1,qX cs (j*15) (qq X1),by omega,rfl,by rw[qd om om];rfl,by rw[zx];exact hl,?_,h13⟩
  have hta:(cs.take (j*15)).length=j*15:=by rw[List.length_take];omega
  rw[qs9,<-ht,ZY _ _ _ om]
  rw[List.take_append_of_le_length (by rw[List.length_append,hta,hle];omega),List.take_of_length_le (by rw[List.length_append,hta,hle];omega)]
 ·have hj39:j=39:=by have:=of_decide_eq_false hge;omega
  subst hj39
  rw[qr2]
  refine⟨_,bX2 at_,⟨rfl,trivial⟩,hs.newC fun n24 w22 hn24 h22=>?_⟩
  have h22:St w0 w22 ([(n24,Cs (qq (X2 at_)) 119)]++([(g,Cs cs 119)]++H)):=h22
  have hS:zv 15 119 (.slice (some ⟨g,0,none⟩) 39 39) 39 ((List.replicate 39 X1).map qq).flatten [(g,Cs cs 119)]:=⟨qCn 39,.inr ⟨g,39,cs,rfl,rfl,Nat.le_refl _,by decide,hl,ht⟩⟩
  have hN:qG w0 [(g,Cs cs 119)]:=fun x hx=>by rw[List.mem_singleton.1 hx];exact hg
  obtain⟨ga,cap,w26,L',hr2,hS2,h26,hN2⟩:=St.append (P:=P) 130 130 119 Tryz.t119 z 15 96 Tryz.underlying130 kr hz rfl rfl hzs om (A:=[(n24,Cs (qq (X2 at_)) 119)]) (news:=qq (X2 at_)) h22 hS hN (j:=0) rfl rfl (by have:=q4w (X2 at_);simpa using this) (by simp[maxLen]) om
  have hx:((List.replicate 39 X1).map qq).flatten++qq (X2 at_)=((zT 39 at_).map qq).flatten:=by
   unfold zT
   rw[List.map_append,List.flatten_append]
   simp
  rw[hx]at hS2
  have hl40:(zT 39 at_).length=39+1:=Jf 39 at_
  refine⟨_,_,_,w26,hr2,?_⟩
  have h27:St w0 w26 (L'++H):=St.tail h26 hn24
  rw[<-hl40]at hS2 ⊢
  refine q4D (n:=39) (at_:=at_) om hat h27 (fun w' h'=>hS2.row fun u hu=>h'.has _ _ (List.mem_append_left _ hu)) fun w7 ov L hSo hNo h7=>?_
  obtain⟨oa,oc,e⟩:=hSo.form
  subst e
  refine⟨_,_,_,rfl,hK w7 _ L hSo hNo ?_⟩
  have h8:St w0 w7 (L'++(L++H)):=h7.perm (qn fun c=>by simp only[List.map_append,List.sum_append];omega)
  exact h8.sub hN2
theorem qEO(a b:Int)(wq:World):(Instr.build 36 [(0,U a),(1,J b)].toArray).run P wq=.ok (.agg #[U a,J b]) wq:=kr
theorem qGg(a:Int)(n8:Nat)(ca:Option Addr)(cl cc:Nat)(wq:World):(Instr.build 41 [(0,U a),(1,.slice (some (Addr.mk n8 0 none)) 1 1),(2,.slice ca cl cc)].toArray).run P wq=.ok (.agg (ye a (.slice (some (Addr.mk n8 0 none)) 1 1) (.slice ca cl cc)).toArray) wq:=kr
theorem q8g{at_:Int}{ca:Option Addr}{cl cc:Nat}(h:St w0 w H)(hK:∀ w' n8,w0.heap.size<=n8->St w0 w' ((n8,Cs [U at_,J 4] 36)::H)->K (.agg (ye at_ (.slice (some ⟨n8,0,none⟩) 1 1) (.slice ca cl cc)).toArray) w'):q9 P 49 [U at_,.slice ca cl cc] w K:=by
 refine qGU _ _ _ _ _ _ ?_
 rw[qHM,jY]
 refine h.newC fun n2 w3 hn2 h3=>⟨_,qEO at_ 4,⟨rfl,trivial⟩,h3.newC fun n8 w6 hn8 h6=>⟨_,qGg at_ n8 ca cl cc,?_⟩⟩
 have h6:St w0 w6 ((n8,Cs [U at_,J 4] 36)::(n2,Cs [U 0,.slice none 0 0,.slice none 0 0] 41)::H):=h6
 refine h6.stA (k:=1) rfl rfl (by simp) (by simp[ye,Value.oneCell']) fun w10 h10=>h10.ldA (k:=1) rfl (by simp[zx,ye]) ?_
 have h11:St w0 w10 ((n2,Cs (ye at_ (.slice (some ⟨n8,0,none⟩) 1 1) (.slice ca cl cc)) 41)::(n8,Cs [U at_,J 4] 36)::H):=St.perm (H:=(n8,Cs [U at_,J 4] 36)::(n2,Cs (ye at_ (.slice (some ⟨n8,0,none⟩) 1 1) (.slice ca cl cc)) 41)::H) h10 (List.Perm.swap _ _ _)
 exact hK w10 n8 hn8 (h11.tail hn2)
end Go.Fx.Tryz
namespace Go.Fx.Ch
open Go.Fx.Tryz
set_option linter.all false
set_option maxRecDepth 100000
def c1:List Int:=zN (zT 0 512)
def c2:List Int:=zN (zT 0 256)
def c3:List Int:=zN (zT 39 512)
def T4(a:Int)(c:List Int):TR:=⟨a,[(a,4)],c⟩
def S0:qc:=vM 2 256 4
def S1:qc:=⟨256,4,[(1,⟨256,[(256,4)],c1⟩)],[[1],[]],[0,0,0,0,0,0,0,0,1,0,0,0,0,0,0,0],[],0,1,0,0⟩
def S2:qc:=⟨256,4,[(1,⟨256,[(256,4)],c1⟩),(2,⟨512,[(512,4)],c2⟩)],[[1,2],[]],[0,2,0,0,0,0,0,0,1,0,0,0,0,0,0,0],[],0,2,0,0⟩
def S3:qc:=⟨256,4,[(1,⟨256,[(256,4)],zI c1 7 2⟩),(2,⟨512,[(512,4)],c2⟩)],[[1,2],[]],[0,2,0,0,0,0,0,0,1,0,0,0,0,0,0,0],[(2,[(1,7)])],0,2,0,0⟩
def S4:qc:=⟨256,4,[(1,⟨256,[(256,4)],c1⟩)],[[1],[]],[0,0,0,0,0,0,0,0,1,0,0,0,0,0,0,0],[],0,2,0,1⟩
def S5:qc:=⟨256,4,[(1,⟨256,[(256,4)],c1⟩),(3,⟨600,[(600,4)],c3⟩)],[[1,3],[]],[0,0,0,0,0,0,0,0,1,0,0,3,0,0,0,0],[],0,3,0,1⟩
def S6:qc:=⟨256,4,[(1,⟨256,[(256,4)],c1⟩),(3,⟨600,[(600,4)],c3⟩),(4,⟨700,[(700,4)],c1⟩)],[[1,3],[4]],[0,0,4,0,0,0,0,0,1,0,0,3,0,0,0,0],[],1,4,0,1⟩
def S7:qc:=⟨256,4,[(1,⟨256,[(256,4)],c1⟩),(3,⟨600,[(600,4)],c3⟩),(4,⟨700,[(700,4)],c1⟩),(5,⟨800,[(800,4)],c3⟩)],[[1,3],[4,5]],[0,0,4,0,0,0,0,0,1,5,0,3,0,0,0,0],[],1,5,0,1⟩
def S8:qc:=⟨256,4,[(4,⟨700,[(700,4)],c1⟩),(5,⟨800,[(800,4)],c3⟩),(6,⟨900,[(900,4)],c1⟩)],[[6],[4,5]],[6,0,4,0,0,0,0,0,0,5,0,0,0,0,0,0],[],0,6,2,1⟩
structure q2p (s:qc) (t:TR) (g:List Int) (s':qc):Prop where
 err:yu s t=0
 ev:∃ s1,evD t.code.length 5 s=some (g,s1)/\zP s1 t=s'/\s1.given+1=s'.given
theorem p1:q2p S0 (T4 256 c1) [] S1:=⟨by kernel_rfl,S0,by kernel_rfl,by kernel_rfl,by kernel_rfl⟩
theorem p2:q2p S1 (T4 512 c2) [] S2:=⟨by kernel_rfl,S1,by kernel_rfl,by kernel_rfl,by kernel_rfl⟩
theorem p3:zH S2 1 7=(S3,true,0):=kr
theorem p4:zH S3 1 8=(S3,false,1):=kr
theorem p5:zH S3 3 7=(S3,false,211):=kr
theorem p6:q1A ((S3.items.map (·.1)).filter (vO S3 (515,1)))=[2]/\qvj S3 [2]=true/\({ Qf S3 [2]with dr:=1 }:qc)=S4/\(Qf S3 [2]).dr=0:=⟨by kernel_rfl,by kernel_rfl,by kernel_rfl,by kernel_rfl⟩
theorem p7:q2p S4 (T4 600 c3) [] S5:=⟨by kernel_rfl,S4,by kernel_rfl,by kernel_rfl,by kernel_rfl⟩
theorem p8:q2p S5 (T4 700 c1) [] S6:=⟨by kernel_rfl,qx S5,by kernel_rfl,by kernel_rfl,by kernel_rfl⟩
theorem p9:q2p S6 (T4 800 c3) [] S7:=⟨by kernel_rfl,S6,by kernel_rfl,by kernel_rfl,by kernel_rfl⟩
def S7e:qc:=⟨256,4,[(4,⟨700,[(700,4)],c1⟩),(5,⟨800,[(800,4)],c3⟩)],[[],[4,5]],[0,0,4,0,0,0,0,0,0,5,0,0,0,0,0,0],[],0,5,2,1⟩
theorem p10:q2p S7 (T4 900 c1) [1,3] S8:=⟨by kernel_rfl,S7e,by kernel_rfl,by kernel_rfl,by kernel_rfl⟩
theorem p11:yu S8 (T4 700 c1)=5:=kr
theorem p12:(zO S2 512).1=2/\(zO S8 256).1=0:=⟨by kernel_rfl,by kernel_rfl⟩
theorem p13:Qu S3=22/\jj S3=1/\Qu S8=267/\jj S8=0:=⟨by kernel_rfl,by kernel_rfl,by kernel_rfl,by kernel_rfl⟩
theorem q38:c1.length=11:=kr
theorem qx8:c3.length=245:=kr
theorem qCN:c1.all (fun b=>decide (0<=b)&&decide (b<256))=true:=kr
theorem qMo:c2.all (fun b=>decide (0<=b)&&decide (b<256))=true:=kr
theorem qKG:c3.all (fun b=>decide (0<=b)&&decide (b<256))=true:=kr
end Go.Fx.Ch
namespace Go.Fx.Tryz
open Go Go.Fx Go.Fx.Ch
open Go.Proofs
set_option linter.all false
set_option maxRecDepth 20000
variable {w0 w:World} {H X G:qF} {K:KT} {s s':qc} {L:qR} {q:LB}
theorem vT{c:List Int}(h:c.all (fun b=>decide (0<=b)&&decide (b<256))=true):∀ b∈c,0<=b/\b<256:=fun b hb=>by
 have:=List.all_eq_true.1 h b hb
 simpa using this
def qaf(w0:World)(f:FuncId)(a:Int)(c:List Int):Prop:=∀ (w:World) (H:qF) (K:KT),St w0 w H->(∀ w' ov N,zv 1 5 ov c.length (c.map B) N->qG w0 N->St w0 w' (N++H)->K ov w')->q9 P f [U a] w K
theorem Jt:qaf w0 19 512 c1:=fun w H K h hK=>qjT ⟨by decide,by decide⟩ h hK
theorem qGr:qaf w0 19 256 c2:=fun w H K h hK=>qjT ⟨by decide,by decide⟩ h hK
theorem qu0:qaf w0 50 512 c3:=fun w H K h hK=>qq6 ⟨by decide,by decide⟩ h hK
theorem qaA{n8:Nat}{b:Int}{Y:qF}:jP w0 ((n8,Cs [U b,J 4] 36)::Y) (.slice (some ⟨n8,0,none⟩) 1 1) [(b,4)]:=
 ⟨fun w' h'=>⟨rfl,.inr ⟨_,_,rfl,fun i hi=>by rw[qa,h'.cell (k:=0) rfl,Nat.zero_add];rfl⟩⟩,by simp⟩
theorem q9f{c:List Int}{ov:Value}{n8:Nat}{o:Obj}{N Y:qF}(hS:zv 1 5 ov c.length (c.map B) N)(hb:∀ b∈c,0<=b/\b<256)(hl:c.length<1000000):yk w0 ((n8,o)::(N++Y)) ov c:=
 (js.of hS hb hl).bytes fun u hu=>.tail _ (List.mem_append_left _ hu)
theorem ZL{f:FuncId}{a b:Int}{c:List Int}{g:List Int}(hf:qaf w0 f a c)(hb:∀ b∈c,0<=b/\b<256)(hl:c.length<1000000)(hbW:jq b)(hp:q2p s (T4 b c) g s')(hg0:0<=s.given)(hg1:s.given<=2147483647)(hgl:g.length<1000)
  (hL:L.Ok w0 q s) (hg:zC H) (hX:qG w0 X) (h:St w0 w (L.bl q s++(X++H))) {Q:Int->Option Addr->Nat->Nat->Int->World->Prop}
  (hQ:∀ (w':World) (L':qR) (X':qF) (sa:Option Addr) (sc:Nat),L'.Ok w0 q s'->qG w0 X'->St w0 w' (L'.bl q s'++(X'++H))->(∃ N,(∀ u∈N,u∈X')/\zv 1 24 (.slice sa g.length sc) g.length ((zJ g).map U) N)->Q s'.given sa g.length sc 0 w') :
  q9 P f [U a] w (fun r8 w9=>∃ (sa:Option Addr) (sl sc:Nat),r8=.slice sa sl sc/\q9 P 49 [U b,.slice sa sl sc] w9 (fun r11 w12=>∃ cs13:Array Value,r11=.agg cs13/\q9 P 18 [.pointer (some ⟨q.cb,0,none⟩),.agg cs13] w12 (fun r14 w15=>∃ x16:Int,∃ (ta:Option Addr) (tl tc:Nat),∃ x18:Int,r14=(.tuple [U x16,.slice ta tl tc,J x18].toArray)/\Q x16 ta tl tc x18 w15))):=by
 refine hf _ _ _ h fun w9 ov N hS hN h9=>?_
 obtain⟨sa,sc,e⟩:=hS.form
 subst e
 refine⟨_,_,_,rfl,q8g h9 fun w12 n8 hn8 h12=>⟨_,rfl,?_⟩⟩
 have h13:St w0 w12 (L.bl q s++((n8,Cs [U b,J 4] 36)::(N++(X++H)))):=h12.perm (qn fun c=>by simp only[List.map_append,List.map_cons,List.sum_append,List.sum_cons];omega)
 have hg2:zC ((n8,Cs [U b,J 4] 36)::(N++(X++H))):=hg.mono fun u hu=>.tail _ (List.mem_append_right _ (List.mem_append_right _ hu))
 obtain⟨s1,hev,hadd,hgiv⟩:=hp.ev
 have hspec:=q9J 5 s (g,s1) hev
 refine qdg (t:=T4 b c) h13 hL hg2 qaA (q9f hS hb hl) hbW hg0 hg1 (fun _=>⟨5,hspec.1 0 (by simp only;omega)⟩) (fun hne=>absurd hp.err hne) fun _ w' L' gone s1' ov' N' hE hok hS' hN' hs'=>?_
 obtain⟨rfl,rfl⟩:=hspec.2 _ _ hE
 obtain⟨ta,tc,e⟩:=hS'.form
 subst e
 rw[hadd]at hok hs'
 rw[hgiv]
 refine⟨_,_,_,_,_,rfl,hQ w' L' (N'++((n8,Cs [U b,J 4] 36)::(N++X))) ta tc hok ?_ ?_ ⟨N',fun u hu=>List.mem_append_left _ hu,hS'⟩⟩
 ·refine qG.append hN' (fun u hu=>?_)
  rcases List.mem_cons.1 hu with rfl | hu
  ·exact hn8
  ·exact qG.append hN hX u hu
 ·exact hs'.perm (qn fun c=>by simp only[List.map_append,List.map_cons,List.sum_append,List.sum_cons];omega)
theorem qGc{f:FuncId}{a b:Int}{c:List Int}(hf:qaf w0 f a c)(hb:∀ b∈c,0<=b/\b<256)(hl:c.length<1000000)(hbW:jq b)(hp:yu s (T4 b c)=5)(hg0:0<=s.given)(hg1:s.given<=2147483647)
  (hL:L.Ok w0 q s) (hg:zC H) (hX:qG w0 X) (h:St w0 w (L.bl q s++(X++H))) {Q:Int->Option Addr->Nat->Nat->Int->World->Prop}
  (hQ:∀ (w':World) (X':qF),qG w0 X'->St w0 w' (L.bl q s++(X'++H))->Q 0 none 0 0 5 w') :
  q9 P f [U a] w (fun r8 w9=>∃ (sa:Option Addr) (sl sc:Nat),r8=.slice sa sl sc/\q9 P 49 [U b,.slice sa sl sc] w9 (fun r11 w12=>∃ cs13:Array Value,r11=.agg cs13/\q9 P 18 [.pointer (some ⟨q.cb,0,none⟩),.agg cs13] w12 (fun r14 w15=>∃ x16:Int,∃ (ta:Option Addr) (tl tc:Nat),∃ x18:Int,r14=(.tuple [U x16,.slice ta tl tc,J x18].toArray)/\Q x16 ta tl tc x18 w15))):=by
 refine hf _ _ _ h fun w9 ov N hS hN h9=>?_
 obtain⟨sa,sc,e⟩:=hS.form
 subst e
 refine⟨_,_,_,rfl,q8g h9 fun w12 n8 hn8 h12=>⟨_,rfl,?_⟩⟩
 have h13:St w0 w12 (L.bl q s++((n8,Cs [U b,J 4] 36)::(N++(X++H)))):=h12.perm (qn fun c=>by simp only[List.map_append,List.map_cons,List.sum_append,List.sum_cons];omega)
 have hg2:zC ((n8,Cs [U b,J 4] 36)::(N++(X++H))):=hg.mono fun u hu=>.tail _ (List.mem_append_right _ (List.mem_append_right _ hu))
 refine qdg (t:=T4 b c) h13 hL hg2 qaA (q9f hS hb hl) hbW hg0 hg1 (fun h0=>by rw[hp]at h0;cases h0) (fun _ w' hs'=>?_) fun h0=>by rw[hp]at h0;cases h0
 rw[hp]
 refine⟨_,_,_,_,_,rfl,hQ w' ((n8,Cs [U b,J 4] 36)::(N++X)) (fun u hu=>?_) ?_⟩
 ·rcases List.mem_cons.1 hu with rfl | hu
  ·exact hn8
  ·exact qG.append hN hX u hu
 ·exact hs'.perm (qn fun c=>by simp only[List.map_append,List.map_cons,List.sum_append,List.sum_cons];omega)
theorem q8c{s:qc}{b:Int}(h0:0<=b)(h:∀ p∈s.hold,(p.2.length:Int)<=b)(c:Int):vQ s c<=b:=by
 unfold vQ
 cases hl:lk s.hold c with
 | none=>exact h0
 | some v=>
  obtain⟨a,r,e,_⟩:=q8H hl
  exact h (c,v) (by rw[e];simp)
theorem qfj{c:List Int}{ov:Value}{N:qF}(hS:zv 1 5 ov c.length (c.map B) N)(hN:∀ u∈N,w.heap[u.1]?=some u.2)(hc:0<c.length):(convert 38 9 ov).run P w=.ok (.string (strOfNums c)) w:=by
 rcases hS.2 with⟨_,h0,_⟩ | ⟨g,cap,cur,rfl,rfl,h3,h4,h5,h6⟩
 ·omega
 refine run_convert_bytes_arg w 38 5 Tryz.underlying38 kr g 0 c.length cap c rfl (fun i hi=>?_) 9 kr
 have hb:=hN (g,Cs cur 5) (.head _)
 rw[qw hb,Nat.zero_add]
 have:=congrArg (fun l=>l[i]?) h6
 simp only[Nat.mul_one,List.getElem?_take,hi,if_true,List.getElem?_map,List.getElem?_eq_getElem hi,Option.map_some]at this
 rw[this]
 simp[List.getD,List.getElem?_eq_getElem hi]
theorem q5j(wq:World):(do eqGuard .neq 9 (.tmp 129) (.tmp 131) (.string (strOfNums c1)) (.string (strOfNums c1));binOp .neq 9 (.string (strOfNums c1)) (.string (strOfNums c1)):Sem Value).run P wq=.ok (.bool false) wq:=kr
theorem qHn(wq:World):(do eqGuard .neq 47 (.tmp 83) (.tmp 84) (.agg #[J 2,J 22,J 1,J 0,J 0]) (.agg #[J 2,J 22,J 1,J 0,J 0]);binOp .neq 47 (.agg #[J 2,J 22,J 1,J 0,J 0]) (.agg #[J 2,J 22,J 1,J 0,J 0]):Sem Value).run P wq=.ok (.bool false) wq:=kr
theorem qJc(wq:World):(do eqGuard .eql 47 (.tmp 198) (.tmp 199) (.agg #[J 3,J 267,J 0,J 2,J 1]) (.agg #[J 3,J 267,J 0,J 2,J 1]);binOp .eql 47 (.agg #[J 3,J 267,J 0,J 2,J 1]) (.agg #[J 3,J 267,J 0,J 2,J 1]):Sem Value).run P wq=.ok (.bool true) wq:=kr
theorem qLY(wq:World):(Instr.build 47 [(0,J 2),(1,J 22),(2,J 1)].toArray).run P wq=.ok (.agg #[J 2,J 22,J 1,J 0,J 0]) wq:=kr
theorem qNY(wq:World):(Instr.build 47 [(0,J 3),(1,J 267),(3,J 2),(4,J 1)].toArray).run P wq=.ok (.agg #[J 3,J 267,J 0,J 2,J 1]) wq:=kr
theorem qL3(wq:World):(Instr.build 27 [(0,J 2),(1,J 256),(2,J 16)].toArray).run P wq=.ok (.agg #[J 2,J 256,J 16]) wq:=kr
theorem qzi(hL:L.Ok w0 q S8)(hg:zC H)(hX:qG w0 X)(h:St w0 w (L.bl q S8++(X++H)))(hK:∀ w',St w0 w' H->K (.bool true) w'):qgG (some ⟨q.cb,0,none⟩) w K:=by
 rw[qpy]
 have hg2:zC (X++H):=hg.mono fun u hu=>List.mem_append_right _ hu
 refine q0F h hL hg2 (by decide) (by decide) fun w111 h111=>⟨_,_,rfl,?_⟩
 rw[p12.2]
 refine qGc Jt (vT qCN) (by rw[q38];decide) ⟨by decide,by decide⟩ p11 (by decide) (by decide) hL hg hX h111 fun w121 X' hX' h121=>?_
 simp only[show((0:Int) != 0)=false from rfl,Bool.not_false,qe,show((5:Int)==5)=true from rfl]
 have hf:=jW (by kernel_rfl:q7X S8=true)
 refine q7G h121 hL hf.rows (by decide) (q8c (by decide) (by intro p hp;cases hp)) fun w126 h126=>⟨_,rfl,_,qNY,?_⟩
 have e1:(#[J S8.items.length,J (Qu S8),J (jj S8),J S8.ev,J S8.dr]:Array Value)=#[J 3,J 267,J 0,J 2,J 1]:=by rw[p13.2.2.1,p13.2.2.2];rfl
 rw[e1]
 refine⟨true,qJc,?_⟩
 rw[qpz]
 exact hK w126 ((h126.sub hL.newB).sub hX')
theorem qyC(hL:L.Ok w0 q S4)(hg:zC H)(hX:qG w0 X)(h:St w0 w (L.bl q S4++(X++H)))(hK:∀ w',St w0 w' H->K (.bool true) w'):qe6 (some ⟨q.cb,0,none⟩) w K:=by
 rw[qpn]
 refine ZL qu0 (vT qKG) (by rw[qx8];decide) ⟨by decide,by decide⟩ p7 (by decide) (by decide) (by decide) hL hg hX h fun w70 L5 X5 _ _ hL5 hX5 h5 _=>?_
 refine ZL Jt (vT qCN) (by rw[q38];decide) ⟨by decide,by decide⟩ p8 (by decide) (by decide) (by decide) hL5 hg hX5 h5 fun w81 L6 X6 _ _ hL6 hX6 h6 _=>?_
 refine ZL qu0 (vT qKG) (by rw[qx8];decide) ⟨by decide,by decide⟩ p9 (by decide) (by decide) (by decide) hL6 hg hX6 h6 fun w92 L7 X7 _ _ hL7 hX7 h7 _=>?_
 refine ZL Jt (vT qCN) (by rw[q38];decide) ⟨by decide,by decide⟩ p10 (by decide) (by decide) (by decide) hL7 hg hX7 h7 fun w103 L8 X8 sa sc hL8 hX8 h8 hN=>?_
 obtain⟨N,hNX,hS⟩:=hN
 have hso:zJ [1,3]=[1,3]:=by rw[Zx];rfl
 rw[hso]at hS
 have hrow:vj w103 1 (.slice sa [1,3].length sc) 2 (([1,3]:List Int).map U):=hS.row fun u hu=>h8.has _ _ (List.mem_append_right _ (List.mem_append_left _ (hNX u hu)))
 obtain⟨ad,cp,hac,_⟩:=vj.ldA (i:=0) hrow (by decide)
 injection hac with hac _ _
 subst hac
 have c0:=vS (r:=[1,3]) (i:=0) hrow (by decide)
 have c1':=vS (r:=[1,3]) (i:=1) hrow (by decide)
 have hs8:S8.given=6:=rfl
 simp only[hs8,show((0:Int) != 0)=false from rfl,show((6:Int) != 6)=false from rfl,qb]
 have hl2:((([1,3]:List Int).length:Nat):Int)=2:=rfl
 simp only[hl2,show((2:Int) != 2)=false from rfl,qb]
 refine⟨by decide,by decide,1,c0,?_⟩
 simp only[show((1:Int) != 1)=false from rfl,qb]
 refine⟨by decide,by decide,3,c1',?_⟩
 simp only[show((3:Int) != 3)=false from rfl]
 rw[qoS,qb]
 exact qzi hL8 hg hX8 h8 hK
theorem qAT(hL:L.Ok w0 q S3)(hg:zC H)(hX:qG w0 X)(h:St w0 w (L.bl q S3++(X++H)))(hK:∀ w',St w0 w' H->K (.bool true) w'):qew (some ⟨q.cb,0,none⟩) w K:=by
 rw[qoK]
 have hg2:zC (X++H):=hg.mono fun u hu=>List.mem_append_right _ hu
 have hf:=jW (by kernel_rfl:q7X S3=true)
 refine Vc (id:=1) (slot:=8) h hL hg2 hf.table ?_
 rw[p4]
 intro w42 L2 hL2 h2
 refine⟨_,_,rfl,?_⟩
 refine Vc (id:=3) (slot:=7) h2 hL2 hg2 hf.table ?_
 rw[p5]
 intro w46 L3 hL3 h3
 refine⟨_,_,rfl,_,qEO 515 1,?_⟩
 refine qlX (r:=(515,1)) h3 hL3 hg2 (by decide) (by decide) (by decide) fun w51 L4 s4 ov N hF hL4 hS hN h4=>?_
 have hdl:jQ S3 (515,1)=[2]:=by unfold jQ;rw[Zx];exact p6.1
 rw[hdl]at hF hL4 hS h4
 have hs4:({ s4 with dr:=s4.dr+(([2]:List Int).length:Nat) }:qc)=S4:=by
  rw[hF.det p6.2.1,p6.2.2.2]
  exact p6.2.2.1
 rw[hs4]at hL4 h4
 obtain⟨la,lc,e⟩:=hS.form
 subst e
 refine⟨_,_,_,rfl,?_⟩
 have h5:St w0 w51 (L4.bl q S4++(N++(X++H))):=h4.perm (qn fun c=>by simp only[List.map_append,List.sum_append];omega)
 refine qF3 (id:=1) h5 hL4 (fun h0=>by cases h0) fun t ht w54 sv' cv' A M hSA hAN hSM hMN h6=>⟨_,_,rfl,?_⟩
 have ht':t=T4 256 c1:=by
  have:lk S4.items 1=some (T4 256 c1):=by rfl
  rw[this]at ht
  exact(Option.some.inj ht).symm
 subst ht'
 obtain⟨sa,sc,e⟩:=hSA.form
 subst e
 obtain⟨ca,cc,e⟩:=hSM.form
 subst e
 rw[jY]
 refine h6.newC fun n57 w58 hn57 h58=>h58.stA (k:=0) rfl rfl (by simp) (by simp[ye,Value.oneCell']) fun w59 h59=>?_
 have h59:St w0 w59 ((n57,Cs (ye (T4 256 c1).at_ (.slice sa (T4 256 c1).sp.length sc) (.slice ca (T4 256 c1).code.length cc)) 41)::(M++(A++(L4.bl q S4++(N++(X++H)))))):=h59
 have h60:=h59.drew
 have hl1:((([2]:List Int).length:Nat):Int)=1:=rfl
 simp only[show((1:Int) != 1)=false from rfl,show((211:Int) != 211)=false from rfl,show((0:Int) != 0)=false from rfl,hl1,qb]
 have hrow:vj w59.drew 1 (.slice la [2].length lc) 1 (([2]:List Int).map U):=hS.row fun u hu=>h60.has _ _ (.tail _ (List.mem_append_right _ (List.mem_append_right _ (List.mem_append_right _ (List.mem_append_left _ hu)))))
 obtain⟨ad,cp,hac,_⟩:=vj.ldA (i:=0) hrow (by decide)
 injection hac with hac _ _
 subst hac
 have c0:=vS (r:=[2]) (i:=0) hrow (by decide)
 refine⟨by decide,by decide,2,c0,?_⟩
 simp only[show((2:Int) != 2)=false from rfl,qb]
 refine⟨ca,(T4 256 c1).code.length,cc,by rw[qa];exact h60.cell (k:=0) rfl,?_⟩
 have hpos:0<c1.length:=by rw[q38];decide
 have hc1:∀ {w2:World} {Z:qF},St w0 w2 (Z++((n57,Cs (ye (T4 256 c1).at_ (.slice sa (T4 256 c1).sp.length sc) (.slice ca (T4 256 c1).code.length cc)) 41)::(M++(A++(L4.bl q S4++(N++(X++H)))))))->(convert 38 9 (.slice ca (T4 256 c1).code.length cc)).run P w2=.ok (.string (strOfNums c1)) w2:=fun {w2 Z} h2=>
  qfj (c:=c1) hSM (fun u hu=>h2.has _ _ (List.mem_append_right _ (.tail _ (List.mem_append_left _ hu)))) hpos
 have fin:∀ {w2:World} {Z:qF},qG w0 Z->St w0 w2 (Z++((n57,Cs (ye (T4 256 c1).at_ (.slice sa (T4 256 c1).sp.length sc) (.slice ca (T4 256 c1).code.length cc)) 41)::(M++(A++(L4.bl q S4++(N++(X++H)))))))->yf false (some ⟨q.cb,0,none⟩) w2 K:=fun {w2 Z} hZ h2=>by
  rw[qra,qb]
  have h3:St w0 w2 (Z++((n57,Cs (ye (T4 256 c1).at_ (.slice sa (T4 256 c1).sp.length sc) (.slice ca (T4 256 c1).code.length cc)) 41)::(M++(A++(L4.bl q S4++((N++X)++H)))))):=h2.perm (qn fun c=>by simp only[List.map_append,List.map_cons,List.sum_append,List.sum_cons];omega)
  exact qyC hL4 hg (qG.append hN hX) ((((h3.sub hZ).tail hn57).sub hMN).sub hAN) hK
 refine⟨⟨_,_,hc1 (Z:=[]) h60,?_⟩,?_⟩
 ·refine Jt _ _ _ h60 fun w141 ov2 Z hSZ hZ h141=>?_
  obtain⟨za,zc,e⟩:=hSZ.form
  subst e
  exact⟨_,_,_,rfl,_,_,qfj hSZ (fun u hu=>h141.has _ _ (List.mem_append_left _ hu)) hpos,false,q5j,fin hZ h141⟩
 ·refine Jt _ _ _ h60 fun w147 ov2 Z hSZ hZ h147=>?_
  obtain⟨za,zc,e⟩:=hSZ.form
  subst e
  have hm:(n57,Cs (ye (T4 256 c1).at_ (.slice sa (T4 256 c1).sp.length sc) (.slice ca (T4 256 c1).code.length cc)) 41)∈(Z++((n57,Cs (ye (T4 256 c1).at_ (.slice sa (T4 256 c1).sp.length sc) (.slice ca (T4 256 c1).code.length cc)) 41)::(M++(A++(L4.bl q S4++(N++(X++H))))))):=List.mem_append_right _ (.head _)
  have hcell:w147.cell? ((Addr.mk n57 0 none).add 2)=some (.slice ca (T4 256 c1).code.length cc):=by rw[qa,qw (h147.has _ _ hm)];rfl
  have hz:=qfj (w:=w147) hSZ (fun u hu=>h147.has _ _ (List.mem_append_left _ hu)) hpos
  exact⟨_,_,_,rfl,hcell,⟨_,_,hc1 h147,_,_,hz,false,q5j,fin hZ h147⟩,⟨_,_,hz,hcell,_,_,hc1 h147,false,q5j,fin hZ h147⟩⟩
theorem q6G(h:St w0 w H)(hg:zC H)(hK:∀ w',St w0 w' H->K (.bool true) w'):q9 P 15 [] w K:=by
 refine qJi _ _ ?_
 rw[qIt]
 refine⟨_,qL3,?_⟩
 refine qhS h (fun hc=>by exact absurd hc (by decide)) fun n k hn hk _ _ hk4 hk16 _ _ _ w2 q L hL h2=>⟨_,_,rfl,?_⟩
 have hn2:n=2:=by omega
 have hk4':k=4:=by
  rcases jE hk4 hk16 with rfl | rfl | rfl | rfl | rfl | rfl | rfl | rfl | rfl | rfl | rfl | rfl | rfl<;>first | rfl | (exact absurd hk (by decide))
 subst hn2;subst hk4'
 have hL:L.Ok w0 q S0:=hL
 have h2:St w0 w2 (L.bl q S0++([]++H)):=h2
 simp only[show((0:Int) != 0)=false from rfl,qb,Option.isNone_some]
 rw[qr4,qb,qq7]
 refine ZL Jt (vT qCN) (by rw[q38];decide) ⟨by decide,by decide⟩ p1 (by decide) (by decide) (by decide) hL hg (qG.nil _) h2 fun w15 L1 X1 _ _ hL1 hX1 h15 _=>?_
 refine ZL qGr (vT qMo) (by decide) ⟨by decide,by decide⟩ p2 (by decide) (by decide) (by decide) hL1 hg hX1 h15 fun w26 L2 X2 _ _ hL2 hX2 h26 _=>?_
 have hg2:zC (X2++H):=hg.mono fun u hu=>List.mem_append_right _ hu
 refine q0F h26 hL2 hg2 (by decide) (by decide) fun w31 h31=>⟨_,_,rfl,?_⟩
 have hf:=jW (by kernel_rfl:q7X S2=true)
 refine Vc (id:=1) (slot:=7) h31 hL2 hg2 hf.table ?_
 rw[p3,p12.1]
 intro w35 L3 hL3 h35
 refine⟨_,_,rfl,?_⟩
 have g1:S1.given=1:=rfl
 have g2:S2.given=2:=rfl
 simp only[g1,g2,show((0:Int) != 0)=false from rfl,show((1:Int) != 1)=false from rfl,show((2:Int) != 2)=false from rfl,show((2:Int) != 0)=true from rfl,Bool.not_true,qb]
 have hf3:=jW (by kernel_rfl:q7X S3=true)
 refine q7G h35 hL3 hf3.rows (by decide) (q8c (by decide) (by decide)) fun w160 h160=>⟨_,rfl,_,qLY,?_⟩
 have e1:(#[J S3.items.length,J (Qu S3),J (jj S3),J S3.ev,J S3.dr]:Array Value)=#[J 2,J 22,J 1,J 0,J 0]:=by rw[p13.1,p13.2.1];rfl
 have h160:St w0 w160 (L3.bl q S3++(X2++H)):=h160
 show ∃ b163:Bool,_/\_
 refine⟨false,?_,?_⟩
 ·show ∀ wq,(do eqGuard .neq 47 (.tmp 83) (.tmp 84) (.agg #[J S3.items.length,J (Qu S3),J (jj S3),J S3.ev,J S3.dr]) (.agg #[J 2,J 22,J 1,J 0,J 0]);binOp .neq 47 (.agg #[J S3.items.length,J (Qu S3),J (jj S3),J S3.ev,J S3.dr]) (.agg #[J 2,J 22,J 1,J 0,J 0]):Sem Value).run P wq=.ok (.bool false) wq
  rw[e1];exact qHn
 rw[qrb,qb]
 exact qAT hL3 hg hX2 h160 hK
end Go.Fx.Tryz
namespace Go.Fx.Tryz
set_option maxRecDepth 100000
open Go Go.Fx Go.Proofs
def c11:=ql Tryz.f11
def c36:=ql Tryz.f36
def qMZ:=Tryz.f36.results.toList
abbrev quq K:=qr P qMZ K
def f36 a w K:=CS P c36 none [2] [2] (quq K) (qz 13 [(Value.agg a)]) w
def qfU a w K:=SG c36 7 [2] [2] (quq K) 13 [(2,VB a)] w
theorem q46:qfU a w K=(K (Value.bool a) w):=kr
theorem qFe:f36 b w K=(qu b 41 w (fun c a=>∃ (f:OA) (d g:Nat),a.cell? ((Addr.mk c 0 none).add 2)=some (.slice f d g)/\qp (decide ((((d:Nat):Int):Int)<=5000)) (∃ (h:OA) (e i:Nat),a.cell? ((Addr.mk c 0 none).add 1)=some (.slice h e i)/\qfU (decide ((((e:Nat):Int):Int)<=200)) a K) (qfU false a K))):=kr
theorem qFB a w K(h:f36 a w K):q9 P 36 [(Value.agg a)] w K:=qA c36 Tryz.func36 h
end Go.Fx.Tryz
namespace Go.Fx.Tryz
open Go Go.Fx Go.Fx.Ch
open Go.Proofs
set_option linter.all false
set_option maxRecDepth 20000
variable {w0 w:World} {H X G:qF} {K:KT}
theorem qCA{a:Value}{sa ca:Option Addr}{sl sc cl cc:Nat}(h:St w0 w H)(hK:∀ w',St w0 w' H->K (.bool (decide (cl<=5000)&&decide (sl<=200))) w'):q9 P 36 [.agg #[a,.slice sa sl sc,.slice ca cl cc]] w K:=by
 refine qFB _ _ _ ?_
 rw[qFe]
 refine h.newC fun n1 w2 hn1 h2=>⟨ca,cl,cc,by rw[qa];exact h2.cell (k:=0) rfl,?_⟩
 have hK:=hK w2 (h2.tail hn1)
 rw[qg]
 refine⟨fun hb=>⟨sa,sl,sc,by rw[qa];exact h2.cell (k:=0) rfl,?_⟩,fun hb=>?_⟩
 ·have hb:cl<=5000:=by have:=of_decide_eq_true hb;omega
  rw[q46]
  rw[decide_eq_true hb,Bool.true_and]at hK
  have e:decide (((sl:Nat):Int)<=200)=decide (sl<=200):=by
   by_cases hx:sl<=200
   ·rw[decide_eq_true hx,decide_eq_true om]
   ·rw[decide_eq_false hx,decide_eq_false om]
  rw[e];exact hK
 ·have hb:¬ cl<=5000:=by have:=of_decide_eq_false hb;omega
  rw[q46]
  rw[decide_eq_false hb,Bool.false_and]at hK
  exact hK
end Go.Fx.Tryz
namespace Go.Fx.Tryz
open Go Go.Fx Go.Fx.Ch
open Go.Proofs Go.Proofs.YtepbaneageipfaaGreatDoor
open Go.ChangeShapes Go.WideShapes Go.ChangeAt Go.RowKit
set_option linter.all false
set_option maxRecDepth 100000
variable {W:World}
abbrev JM : List (String × DataW Unit) := [("math/bits.deBruijn32tab", Rows.laid_math_bits_deBruijn32tab), ("math/bits.deBruijn64tab", Rows.laid_math_bits_deBruijn64tab), ("candling/host.forms", Rows.laid_candling_host_forms)]
theorem qbU{n:String}{g:Nat}{cs:Array Value}(hg:P.globalNamed n=some g)(hv:W.var? P n=some cs)(hfz:∃ c t,W.heap[g]?=some (.cells c t (0,0))):∃ t,W.heap[g]?=some (Cs cs.toList t):=by
 obtain⟨c,t,h⟩:=hfz
 simp only[World.var?,hg,Option.bind_some,h,Option.some.injEq]at hv
 subst hv
 exact⟨t,by rw[h];simp[Cs]⟩
theorem d64:(Rows.laid_math_bits_deBruijn64tab:DataW Unit)=.agg (Yo.map fun x=>.lit (.int .u8 x)):=rfl
def qFx:DataW Unit->List (List UInt8)
 | .agg l=>l.map fun
  | .agg (.lit (.string s)::_)=>s
  | _=>[]
 | _=>[]
def qzE:List (List UInt8):=qFx Rows.laid_candling_host_forms
theorem qHu:(Rows.laid_candling_host_forms:DataW Unit)=.agg ((List.range 46).map fun i=>.agg [.lit (.string (qzE.getD i [])),.lit (.int .i64 ((forms.getD i (0,0)).1:Nat)),.lit (.int .i64 ((forms.getD i (0,0)).2:Nat))]):=kr
theorem qto{ds:List Int}{cs:List Value}{fuel:Nat}{p:List MemPlace}{sp:Nat->Bool}(hl:ds.length=64)(h:DataW.trod (fun _=>()) P W 0 sp false fuel 244 cs=some (.agg (ds.map fun x=>.lit (.int .u8 x)),p)):cs=ds.map fun x=>Value.int .u8 x:=by
 obtain⟨xs,m,_,hx,hlen,hxs,hel⟩:=DataW.trod_array Tryz.underlying244 h
 have c5:P.cellsOf 5=1:=kr
 have c244:P.cellsOf 244=64:=kr
 rw[c244]at hlen
 simp only[Prod.mk.injEq,DataW.agg.injEq]at hx
 apply List.ext_getElem?
 intro i
 by_cases hi:i<64
 ·have he:=hel i hi
  rw[c5,List.getElem?_eq_getElem om]at he
  obtain⟨k,e1,e2,_⟩:=DataW.trod_int Tryz.underlying5 he
  have h1:=congrArg (fun l=>l[i]?) hx.1
  simp only[List.getElem?_map,List.getElem?_eq_getElem (show i<ds.length by omega),List.getElem?_eq_getElem (show i<xs.length by omega),Option.map_some,Option.some.injEq]at h1
  rw[e2]at h1
  have hk:k=ds[i]:=by injection h1 with h1;injection h1 with _ h1;exact h1.symm
  have h2:=congrArg (fun l=>l[0]?) e1
  simp only[Nat.mul_one,List.getElem?_take,List.getElem?_drop,Nat.add_zero,Nat.zero_lt_one,if_true,List.getElem?_cons_zero]at h2
  rw[h2,List.getElem?_map,List.getElem?_eq_getElem om,hk];rfl
 ·rw[List.getElem?_eq_none om,List.getElem?_eq_none (by rw[List.length_map];omega)]
theorem qf6{cs:List Value}{fuel:Nat}{p:List MemPlace}{sp:Nat->Bool}(h:DataW.trod (fun _=>()) P W 0 sp false fuel 232 cs=some (Rows.laid_candling_host_forms,p)):jU cs:=by
 rw[qHu]at h
 obtain⟨xs,m,_,hx,hlen,hxs,hel⟩:=DataW.trod_array Tryz.underlying232 h
 have qrq:P.cellsOf 214=3:=kr
 have c232:P.cellsOf 232=138:=kr
 have c9:P.cellsOf 9=1:=kr
 have c3':P.cellsOf 3=1:=kr
 rw[c232]at hlen
 simp only[Prod.mk.injEq,DataW.agg.injEq]at hx
 refine⟨hlen,fun i hi=>?_⟩
 have he:=hel i hi
 rw[qrq,List.getElem?_eq_getElem om]at he
 have h1:=congrArg (fun l=>l[i]?) hx.1
 simp only[List.getElem?_map,List.getElem?_range hi,List.getElem?_eq_getElem (show i<xs.length by omega),Option.map_some,Option.some.injEq]at h1
 obtain⟨ys,m2,_,hy,hl3,hys,hf⟩:=DataW.trod_struct Tryz.underlying214 he
 rw[qrq]at hl3
 rw[hy]at h1
 simp only[DataW.agg.injEq]at h1
 generalize (cs.drop (i*3)).take 3=r at *
 match r,hl3 with
 | [a,b,c],_=>
 have hy3:ys.length=3:=by rw[hys];rfl
 match ys,hy3 with
 | [y0,y1,y2],_=>
 have f0:=hf 0 _ rfl
 have f1:=hf 1 _ rfl
 have f2:=hf 2 _ rfl
 obtain⟨s,e0,g0,_⟩:=DataW.trod_string Tryz.underlying9 f0
 obtain⟨k1,e1,g1,_⟩:=DataW.trod_int Tryz.underlying3 f1
 obtain⟨k2,e2,g2,_⟩:=DataW.trod_int Tryz.underlying3 f2
 simp[c9,c3']at e0 e1 e2
 subst e0 e1 e2
 simp only[List.map_cons,List.map_nil,List.cons.injEq,and_true,g0,g1,g2,DataW.lit.injEq,Lit.int.injEq,true_and]at h1
 refine⟨s,?_⟩
 unfold y7
 rw[<-h1.2.1,<-h1.2.2]
theorem q7Z(h:laidMetH P JM W):∃ gcs gt t,W.heap[0]?=some (Cs gcs gt)/\jU gcs/\W.heap[2]?=some (Cs (Yo.map fun x=>.int .u8 x) t):=by
 rw[MakeChecks.laidMetH_plain _ _ _ kr]at h
 obtain⟨ps,⟨g1,t1,cs1,f1,p1,q1,hg1,ht1,hv1,hd1,⟨g2,t2,cs2,f2,p2,q2,hg2,ht2,hv2,hd2,⟨g3,t3,cs3,f3,p3,q3,hg3,ht3,hv3,hd3,hq,e3⟩,e2⟩,e1⟩,hnd,hfz⟩:=h
 obtain rfl := Option.some.inj ((show P.globalNamed "math/bits.deBruijn64tab" = some 2 by kernel_rfl).symm.trans hg2)
 obtain rfl := Option.some.inj ((show P.globalNamed "candling/host.forms" = some 0 by kernel_rfl).symm.trans hg3)
 obtain rfl:=Option.some.inj ((show(P.globals[2]?).map (·.type)=some 244 by kernel_rfl).symm.trans ht2)
 obtain rfl:=Option.some.inj ((show(P.globals[0]?).map (·.type)=some 232 by kernel_rfl).symm.trans ht3)
 have hT:=qf6 hd3
 rw[d64]at hd2
 have h64:=qto (ds:=Yo) rfl hd2
 have hm:∀ (g:Nat) (cs:Array Value),0<cs.size->MemPlace.cell g 0∈MemPlace.row ⟨g,0,none⟩ cs.size:=fun g cs hc=>by
  simp only[MemPlace.row,List.mem_map,List.mem_range]
  exact⟨0,hc,rfl⟩
 have hs3:0<cs3.size:=by have:=hT.len;rw[Array.length_toList]at this;omega
 have hs2:0<cs2.size:=by
  have:=congrArg List.length h64
  rw[Array.length_toList,List.length_map]at this
  rw[this];decide
 obtain⟨gt,hb0⟩:=qbU hg3 hv3 (hfz 0 0 (by rw[e1,e2,e3];exact List.mem_append_right _ (List.mem_append_right _ (List.mem_append_left _ (List.mem_append_left _ (hm 0 cs3 hs3)))))).1
 obtain⟨t,hb2⟩:=qbU hg2 hv2 (hfz 2 0 (by rw[e1,e2];exact List.mem_append_right _ (List.mem_append_left _ (List.mem_append_left _ (hm 2 cs2 hs2))))).1
 rw[h64]at hb2
 exact⟨_,gt,t,hb0,hT,hb2⟩
end Go.Fx.Tryz
namespace Go.Proofs.YtepbaneageipfaaGreatDoor
open Go
set_option maxRecDepth 100000
theorem qO8{a b:Bool}(h:a=true)(g:b=true):(a&&b)=true:=by rw[h,g];rfl
end Go.Proofs.YtepbaneageipfaaGreatDoor
namespace Go.Fx
open Go
variable {w0 w:World} {H:qF}
theorem St.unadd{b:Nat}{o:Obj}(h:St w0 w ((b,o)::H))(hb:w0.heap[b]?=some o):St w0 w H:=by
 refine⟨h.kept,h.le,fun c p hp=>h.has c p (.tail _ hp),?_,fun k hk hn=>?_⟩
 ·have:=h.nd
  rw[List.map_cons]at this
  exact(List.nodup_cons.1 this).2
 ·by_cases e:k=b
  ·subst e
   rw[h.has k o (.head _),hb]
  ·exact h.old k hk (by rw[List.map_cons,List.mem_cons];exact fun hc=>hc.elim e hn)
theorem St.below'(h:St w0 w []):RowKit.Below w0.heap.size w0 w:=⟨h.kept.os,h.kept.tape,h.kept.output,h.le,fun k hk=>h.old k hk (by simp)⟩
namespace Tryz
open Go.Fx.Ch
open Go.Proofs
set_option maxRecDepth 100000
theorem own:ownKnob P.godebug=none:=kr
theorem ql7:laidOutB P=true:=kr
end Tryz
end Go.Fx
namespace Go.Proofs.YtepbaneageipfaaGreatDoor
open Go Go.Fx Go.Fx.Tryz Go.Fx.Ch
open Go.ChangeShapes Go.WideShapes Go.ChangeAt Go.RowKit
set_option maxRecDepth 100000
theorem qse(os:Os)(args:Array Value):laidMetH Tryz.prog JM ((World.laidAll Tryz.prog os JM).forCall (fun _ _=>0) ⟨#[],args,[]⟩).memory:=by
 rw[MakeChecks.laidMetH_plain _ _ _ kr]
 exact laidMet_laidAll _ kr kr
end Go.Proofs.YtepbaneageipfaaGreatDoor
namespace Go.Fx.Ch
set_option linter.all false
def D(N a b:Nat):Nat:=if a<=b then b-a else b+N-a
theorem qEC{N a n:Nat}(ha:a<N)(hn:n<N):(a+n) % N=if a+n<N then a+n else a+n-N:=by
 split
 ·exact Nat.mod_eq_of_lt ‹_›
 ·rw[Nat.mod_eq_sub_mod om,Nat.mod_eq_of_lt om]
theorem q3x{N a:Nat}(ha:a<N)(n:Nat):(a+n) % N<N:=Nat.mod_lt _ om
theorem qvT{N a n:Nat}(ha:a<N)(hn:n<N):D N a ((a+n) % N)=n:=by
 rw[qEC ha hn];unfold D;split<;>split<;>omega
theorem qhI{N a b:Nat}(ha:a<N)(hb:b<N):(a+D N a b) % N=b:=by
 have:D N a b<N:=by unfold D;split<;>omega
 rw[qEC ha this];unfold D;split<;>split<;>omega
theorem q9i{N a b:Nat}(ha:a<N)(hb:b<N):D N a b<N:=by unfold D;split<;>omega
theorem qwm{N a:Nat}:D N a a=0:=by unfold D;simp
theorem qLI{N a b:Nat}(ha:a<N)(hb:b<N)(h:a≠b):0<D N a b:=by unfold D;split<;>omega
theorem qEM{N a b c:Nat}(ha:a<N)(hb:b<N)(hc:c<N)(h:D N a b=D N a c):b=c:=by
 unfold D at h;split at h<;>split at h<;>omega
theorem j7{t:List Int}{i j:Nat}{v:Int}(hi:i<t.length):qm (t.set i v) j=if i=j then v else qm t j:=by
 unfold qm
 rw[List.getElem?_set]
 split
 ·rename_i h;subst h;first | rfl | (rw[if_pos hi];rfl)
 ·rfl
structure Tab (N:Nat) (t:List Int) (ids:Int->Prop) (home:Int->Nat):Prop where
 z:¬ ids 0
 len:t.length=N
 mem:∀ i,i<N->qm t i≠0->ids (qm t i)
 has:∀ x,ids x->∃ i,i<N/\qm t i=x
 inj:∀ i j,i<N->j<N->qm t i≠0->qm t i=qm t j->i=j
 reach:∀ i j,i<N->j<N->qm t i≠0->qm t j=0->D N (home (qm t i)) i<D N j i
theorem Tab.congr{N:Nat}{t:List Int}{ids ids':Int->Prop}{home home':Int->Nat}(h:Tab N t ids home)(hi:∀ x,ids x↔ids' x)(hh:∀ x,ids x->home x=home' x):Tab N t ids' home':=by
 refine⟨fun hz=>h.z ((hi 0).2 hz),h.len,fun i hi' hs=>(hi _).1 (h.mem i hi' hs),fun x hx=>h.has x ((hi x).2 hx),h.inj,fun i j hi' hj hs he=>?_⟩
 rw[<-hh _ (h.mem i hi' hs)]
 exact h.reach i j hi' hj hs he
theorem Tab.empty(N:Nat)(home:Int->Nat):Tab N (List.replicate N 0) (fun _=>False) home:=by
 have h0:∀ i,qm (List.replicate N 0) i=0:=fun i=>by
  unfold qm
  rw[List.getElem?_replicate]
  split<;>rfl
 exact⟨fun h=>h,List.length_replicate,fun i _ h=>absurd (h0 i) h,fun _ h=>h.elim,fun i _ _ _ h=>absurd (h0 i) h,fun i _ _ _ h=>absurd (h0 i) h⟩
theorem q2Z{k:Nat}{id:Int}{frm:Nat}{t:List Int}(hf:frm<2 ^ k):∀ f n,n+f=2 ^ k->(∀ m,m<n->qm t ((frm+m) % 2 ^ k)≠0)->(∃ m,n<=m/\m<2 ^ k/\qm t ((frm+m) % 2 ^ k)=0)->
  ∃ m,m<2 ^ k/\qm t ((frm+m) % 2 ^ k)=0/\(∀ j,j<m->qm t ((frm+j) % 2 ^ k)≠0)/\ZG k id frm t f n=t.set ((frm+m) % 2 ^ k) id
 | 0,n,hn,_,⟨m,h1,h2,_⟩=>by omega
 | f+1,n,hn,hb,⟨m,h1,h2,h3⟩=>by
  unfold ZG
  split
  ·rename_i h0;exact⟨n,by omega,h0,hb,rfl⟩
  ·rename_i h0
   refine q2Z hf f (n+1) om (fun j hj=>?_) ⟨m,?_,h2,h3⟩
   ·by_cases hjn:j=n
    ·subst hjn;exact h0
    ·exact hb j om
   ·by_cases hmn:m=n
    ·subst hmn;exact absurd h3 h0
    ·omega
theorem Tab.insert{k:Nat}{t:List Int}{ids:Int->Prop}{home:Int->Nat}{id:Int}{e:Nat}(h:Tab (2 ^ k) t ids home)(hid:¬ ids id)(h0:id≠0)(hh:home id<2 ^ k)(he:e<2 ^ k)(he0:qm t e=0) :
  Tab (2 ^ k) (ZG k id (home id) t (2 ^ k) 0) (fun x=>ids x\/x=id) home:=by
 obtain⟨m,hm,hm0,hb,heq⟩:=q2Z (k:=k) (id:=id) (frm:=home id) (t:=t) hh (2 ^ k) 0 om (fun m hm=>by omega) ⟨D (2 ^ k) (home id) e,by omega,q9i hh he,by rw[qhI hh he];exact he0⟩
 rw[heq]
 clear heq
 generalize 2 ^ k=N at *
 have hp:(home id+m) % N<N:=q3x hh m
 have hD:D N (home id) ((home id+m) % N)=m:=qvT hh hm
 have hb':∀ j,j<N->qm t j=0->m<=D N (home id) j:=fun j hj hj0=>by
  rcases Nat.lt_or_ge (D N (home id) j) m with hlt | hge
  ·have:=hb _ hlt;rw[qhI hh hj]at this;exact absurd hj0 this
  ·exact hge
 generalize (home id+m) % N=p at *
 have hpl:p<t.length:=by rw[h.len];exact hp
 have hs:∀ j,qm (t.set p id) j=if p=j then id else qm t j:=fun j=>j7 hpl
 refine⟨fun hz=>hz.elim h.z fun hz=>h0 hz.symm,by rw[List.length_set];exact h.len,?_,?_,?_,?_⟩
 ·intro i hi hne
  rw[hs]at hne ⊢
  split
  ·exact .inr rfl
  ·rename_i hpi;rw[if_neg hpi]at hne;exact .inl (h.mem i hi hne)
 ·rintro x (hx | rfl)
  ·obtain⟨i,hi,hx'⟩:=h.has x hx
   refine⟨i,hi,?_⟩
   rw[hs,if_neg,hx']
   rintro rfl
   rw[hm0]at hx';subst hx'
   exact h.z hx
  ·exact⟨p,hp,by rw[hs,if_pos rfl]⟩
 ·intro i j hi hj hne heq
  rw[hs]at hne heq
  rw[hs]at heq
  split at heq
  ·rename_i hpi
   split at heq
   ·omega
   ·exact absurd (h.mem j hj (by rw[<-heq];exact h0)) (by rw[<-heq];exact hid)
  ·rename_i hpi
   rw[if_neg hpi]at hne
   split at heq
   ·exact absurd (h.mem i hi hne) (by rw[heq];exact hid)
   ·exact h.inj i j hi hj hne heq
 ·intro i j hi hj hne hj0
  rw[hs]at hne hj0 ⊢
  have hpj:p≠j:=by rintro rfl;rw[if_pos rfl]at hj0;exact h0 hj0
  rw[if_neg hpj]at hj0
  split
  ·rename_i hpi
   subst hpi
   have h1:=hb' j hj hj0
   have h2:D N (home id) j≠D N (home id) p:=fun hh'=>hpj (qEM hh hj hp hh').symm
   rw[hD]
   rw[hD]at h2
   unfold D at *
   split at h1<;>split at hD<;>split<;>simp_all<;>omega
  ·rename_i hpi
   rw[if_neg hpi]at hne
   exact h.reach i j hi hj hne hj0
structure Rem (N:Nat) (t:List Int) (ids:Int->Prop) (home:Int->Nat) (h d:Nat):Prop where
 z:¬ ids 0
 len:t.length=N
 hN:h<N
 h0:qm t h=0
 mem:∀ i,i<N->qm t i≠0->ids (qm t i)
 has:∀ x,ids x->∃ i,i<N/\qm t i=x
 inj:∀ i j,i<N->j<N->qm t i≠0->qm t i=qm t j->i=j
 other:∀ i j,i<N->j<N->qm t i≠0->qm t j=0->j≠h->D N (home (qm t i)) i<D N j i
 seen:∀ i,i<N->0<D N h i->D N h i<d->qm t i≠0/\D N (home (qm t i)) i<D N h i
theorem Rem.keep{N:Nat}{t:List Int}{ids:Int->Prop}{home:Int->Nat}{h d c:Nat}(r:Rem N t ids home h d)(hc:c<N)(hd:D N h c=d)(h0:qm t c≠0)(hb:D N (home (qm t c)) c<D N h c):Rem N t ids home h (d+1):=by
 refine⟨r.z,r.len,r.hN,r.h0,r.mem,r.has,r.inj,r.other,fun i hi h1 h2=>?_⟩
 by_cases hid:D N h i=d
 ·have:i=c:=qEM r.hN hi hc (hid.trans hd.symm)
  subst this
  exact⟨h0,hb⟩
 ·exact r.seen i hi h1 om
theorem Rem.move{N:Nat}{t:List Int}{ids:Int->Prop}{home:Int->Nat}{h d c:Nat}(r:Rem N t ids home h d)(hc:c<N)(hd:D N h c=d)(h1:0<d)(h0:qm t c≠0)(hx:home (qm t c)<N)
  (hb:¬ D N (home (qm t c)) c<D N h c):Rem N ((t.set h (qm t c)).set c 0) ids home c 1:=by
 have hhc:h≠c:=by rintro rfl;rw[qwm]at hd;omega
 have hs:∀ j,qm ((t.set h (qm t c)).set c 0) j=if c=j then 0 else if h=j then qm t c else qm t j:=fun j=>by
  rw[j7 (by rw[List.length_set,r.len];exact hc),j7 (by rw[r.len];exact r.hN)]
 have hN:=r.hN
 refine⟨r.z,by rw[List.length_set,List.length_set];exact r.len,hc,by rw[hs,if_pos rfl],?_,?_,?_,?_,fun i _ h1 h2=>by omega⟩
 ·intro i hi hne
  rw[hs]at hne ⊢
  split at hne
  ·exact absurd rfl hne
  ·rename_i hci
   rw[if_neg hci]
   split at hne
   ·rename_i hhi;rw[if_pos hhi];exact r.mem c hc h0
   ·rename_i hhi;rw[if_neg hhi];exact r.mem i hi hne
 ·intro x hx'
  obtain⟨i,hi,hxi⟩:=r.has x hx'
  by_cases hic:i=c
  ·subst hic;exact⟨h,hN,by rw[hs,if_neg (Ne.symm hhc),if_pos rfl,hxi]⟩
  ·refine⟨i,hi,?_⟩
   rw[hs,if_neg (Ne.symm hic),if_neg,hxi]
   rintro rfl
   rw[r.h0]at hxi;subst hxi;exact r.z hx'
 ·intro i j hi hj hne heq
  rw[hs]at hne heq
  rw[hs]at heq
  by_cases hci:c=i
  ·rw[if_pos hci]at hne;exact absurd rfl hne
  rw[if_neg hci]at hne heq
  by_cases hcj:c=j
  ·rw[if_pos hcj]at heq;exact absurd heq hne
  rw[if_neg hcj]at heq
  by_cases hhi:h=i
  ·rw[if_pos hhi]at hne heq
   by_cases hhj:h=j
   ·omega
   ·rw[if_neg hhj]at heq;exact absurd (r.inj c j hc hj hne heq) hcj
  ·rw[if_neg hhi]at hne heq
   by_cases hhj:h=j
   ·rw[if_pos hhj]at heq;exact absurd (r.inj i c hi hc hne heq).symm hci
   ·rw[if_neg hhj]at heq;exact r.inj i j hi hj hne heq
 ·intro i j hi hj hne hj0 hjc
  rw[hs]at hne hj0 ⊢
  rw[if_neg (Ne.symm hjc)]at hj0
  have hhj:h≠j:=by rintro rfl;rw[if_pos rfl]at hj0;exact h0 hj0
  rw[if_neg hhj]at hj0
  by_cases hci:c=i
  ·rw[if_pos hci]at hne;exact absurd rfl hne
  rw[if_neg hci]at hne ⊢
  by_cases hhi:h=i
  ·subst hhi
   rw[if_pos rfl]at hne ⊢
   have h2:=r.other c j hc hj h0 hj0 (Ne.symm hhj)
   generalize home (qm t c)=x at *
   unfold D at *
   split at h2<;>split at h2<;>split at hb<;>split at hb<;>split<;>split<;>omega
  ·rw[if_neg hhi]at hne ⊢
   exact r.other i j hi hj hne hj0 (Ne.symm hhj)
theorem Rem.done{N:Nat}{t:List Int}{ids:Int->Prop}{home:Int->Nat}{h d c:Nat}(r:Rem N t ids home h d)(hc:c<N)(hd:D N h c=d)(h0:qm t c=0)(hhc:h≠c):Tab N t ids home:=by
 refine⟨r.z,r.len,r.mem,r.has,r.inj,fun i j hi hj hne hj0=>?_⟩
 by_cases hjh:j=h
 ·subst hjh
  rcases Nat.lt_or_ge (D N j i) d with hlt | hge
  ·have hij:j≠i:=by rintro rfl;exact hne hj0
   exact(r.seen i hi (qLI hj hi hij) hlt).2
  ·have h2:=r.other i c hi hc hne h0 (Ne.symm hhc)
   have hci:c≠i:=by rintro rfl;exact hne h0
   generalize home (qm t i)=x at *
   unfold D at *
   split at h2<;>split at h2<;>split at hge<;>split at hd<;>split<;>omega
 ·exact r.other i j hi hj hne hj0 hjh
theorem qEU{k a b:Nat}(ha:a<2 ^ k)(hb:b<2 ^ k):far k (a:Int) (b:Int)=(D (2 ^ k) a b:Nat):=by
 unfold far D
 have hp:((2:Int) ^ k)=((2 ^ k:Nat):Int):=by rw[Int.natCast_pow];rfl
 rw[hp]
 generalize 2 ^ k=N at *
 split
 ·rw[Int.emod_eq_of_lt om om];omega
 ·have:((b:Int)-a) % (N:Int)=((b:Int)-a+N) % N:=by rw[Int.add_emod_right]
  rw[this,Int.emod_eq_of_lt om om];omega
theorem JF{items:List (Int × TR)}{k:Nat}{id:Int}{frm:Nat}{ids:Int->Prop}{home:Int->Nat}(hf:frm<2 ^ k)(hhome:∀ x,ids x->zB k (qj items x).at_=(home x:Int)/\home x<2 ^ k) :
  ∀ f n h (t:List Int),n+f=2 ^ k->Rem (2 ^ k) t ids home h (n-D (2 ^ k) frm h)->D (2 ^ k) frm h<n->(∃ e,e<2 ^ k/\e≠h/\qm t e=0/\n<=D (2 ^ k) frm e)->Tab (2 ^ k) (yq items k id frm f n (some h) t) ids home
 | 0,n,h,t,hn,r,hd,⟨e,h1,_,_,h2⟩=>by have:=q9i hf h1;omega
 | f+1,n,h,t,hn,r,hd,⟨e,h1,h2,h3,h4⟩=>by
  unfold yq
  have hh:=r.hN
  have hnN:n<2 ^ k:=by omega
  have hc:(frm+n) % 2 ^ k<2 ^ k:=q3x hf n
  have hDc:D (2 ^ k) frm ((frm+n) % 2 ^ k)=n:=qvT hf hnN
  have hDh:D (2 ^ k) h ((frm+n) % 2 ^ k)=n-D (2 ^ k) frm h:=by
   generalize (frm+n) % 2 ^ k=c at *
   generalize 2 ^ k=N at *
   unfold D at *
   split at hDc<;>split at hd<;>split<;>first | omega | (split<;>omega)
  split
  ·rename_i h0
   exact r.done hc hDh h0 (by rintro hhc;rw[<-hhc,qwm]at hDh;omega)
  ·rename_i h0
   have hm:=hhome _ (r.mem _ hc h0)
   rw[hm.1,qEU hm.2 hc,qEU hh hc]
   have hne:n≠D (2 ^ k) frm e:=by
    intro hh'
    have:(frm+n) % 2 ^ k=e:=by rw[hh'];exact qhI hf h1
    rw[this]at h0;exact h0 h3
   split
   ·rename_i hb
    refine JF hf hhome f (n+1) h t om ?_ om ⟨e,h1,h2,h3,by omega⟩
    have:=r.keep hc hDh h0 om
    rw[show n+1-D (2 ^ k) frm h=n-D (2 ^ k) frm h+1 by omega]
    exact this
   ·rename_i hb
    refine JF hf hhome f (n+1) _ _ om ?_ om ⟨e,h1,?_,?_,by omega⟩
    ·have:=r.move hc hDh om h0 hm.2 om
     rw[hDc,show n+1-n=1 by omega]
     exact this
    ·intro he;rw[he,hDc]at hne;omega
    ·rw[j7 (by rw[List.length_set,r.len];exact hc),j7 (by rw[r.len];exact hh)]
     split
     ·rfl
     ·rw[if_neg (Ne.symm h2)];exact h3
theorem q4N{items:List (Int × TR)}{k:Nat}{id:Int}{frm:Nat}{ids:Int->Prop}{home:Int->Nat}{t:List Int}{r e:Nat}(hf:frm<2 ^ k)(hhome:∀ x,ids x->zB k (qj items x).at_=(home x:Int)/\home x<2 ^ k)
  (h:Tab (2 ^ k) t ids home) (hid:ids id) (hr:r<2 ^ k) (hri:qm t ((frm+r) % 2 ^ k)=id) (he:e<2 ^ k) (he0:qm t e=0) (hre:r<D (2 ^ k) frm e) :
  ∀ f n,n+f=2 ^ k->n<=r->Tab (2 ^ k) (yq items k id frm f n none t) (fun x=>ids x/\x≠id) home
 | 0,n,hn,hnr=>by omega
 | f+1,n,hn,hnr=>by
  unfold yq
  have hc:(frm+n) % 2 ^ k<2 ^ k:=q3x hf n
  have hDc:D (2 ^ k) frm ((frm+n) % 2 ^ k)=n:=qvT hf om
  have hid0:id≠0:=by rintro rfl;exact h.z hid
  split
  ·rename_i hci
   have hs:∀ j,qm (t.set ((frm+n) % 2 ^ k) 0) j=if(frm+n) % 2 ^ k=j then 0 else qm t j:=fun j=>j7 (by rw[h.len];exact hc)
   generalize (frm+n) % 2 ^ k=c at *
   have hce:e≠c:=by rintro rfl;omega
   refine JF hf (fun x hx=>hhome x hx.1) f (n+1) c _ om ?_ om ⟨e,he,hce,by rw[hs,if_neg (Ne.symm hce)];exact he0,by omega⟩
   rw[hDc]
   refine⟨fun hz=>h.z hz.1,by rw[List.length_set];exact h.len,hc,by rw[hs,if_pos rfl],?_,?_,?_,?_,fun i _ h1 h2=>by omega⟩
   ·intro i hi hne
    rw[hs]at hne ⊢
    split at hne
    ·exact absurd rfl hne
    ·rename_i hci'
     rw[if_neg hci']
     exact⟨h.mem i hi hne,fun hh=>hci' (h.inj c i hc hi (by rw[hci];exact hid0) (by rw[hci,hh]))⟩
   ·rintro x ⟨hx,hxi⟩
    obtain⟨i,hi,hxx⟩:=h.has x hx
    refine⟨i,hi,?_⟩
    rw[hs,if_neg,hxx]
    rintro rfl
    exact hxi (hxx.symm.trans hci)
   ·intro i j hi hj hne heq
    rw[hs]at hne heq
    rw[hs]at heq
    split at hne
    ·exact absurd rfl hne
    ·rename_i hci'
     rw[if_neg hci']at heq
     split at heq
     ·exact absurd heq hne
     ·exact h.inj i j hi hj hne heq
   ·intro i j hi hj hne hj0 hjc
    rw[hs]at hne hj0 ⊢
    rw[if_neg (Ne.symm hjc)]at hj0
    split at hne
    ·exact absurd rfl hne
    ·rename_i hci'
     rw[if_neg hci']
     exact h.reach i j hi hj hne hj0
  ·rename_i hci
   have:n≠r:=by rintro rfl;exact hci hri
   exact q4N hf hhome h hid hr hri he he0 hre f (n+1) om om
theorem Tab.remove{items:List (Int × TR)}{k:Nat}{id:Int}{ids:Int->Prop}{home:Int->Nat}{t:List Int}{e:Nat}(hhome:∀ x,ids x->zB k (qj items x).at_=(home x:Int)/\home x<2 ^ k)
  (h:Tab (2 ^ k) t ids home) (hid:ids id) (he:e<2 ^ k) (he0:qm t e=0):Tab (2 ^ k) (yq items k id (home id) (2 ^ k) 0 none t) (fun x=>ids x/\x≠id) home:=by
 obtain⟨i,hi,hii⟩:=h.has id hid
 have hf:=(hhome id hid).2
 have hid0:id≠0:=by rintro rfl;exact h.z hid
 have hr:=h.reach i e hi he (by rw[hii];exact hid0) he0
 rw[hii]at hr
 refine q4N (r:=D (2 ^ k) (home id) i) (e:=e) hf hhome h hid (q9i hf hi) (by rw[qhI hf hi];exact hii) he he0 ?_ (2 ^ k) 0 om om
 generalize home id=x at *
 generalize 2 ^ k=N at *
 have:i≠e:=by rintro rfl;rw[he0]at hii;exact hid0 hii.symm
 unfold D at *
 split at hr<;>split at hr<;>split<;>split<;>omega
theorem JK{items:List (Int × TR)}{t:List Int}{k:Nat}{at_:Int}{frm r:Nat}{x:Int}(hr:qm t ((frm+r) % 2 ^ k)=x)(hx:x≠0)(ha:(qj items x).at_=at_) :
  ∀ f n,n<=r->r<n+f->(∀ m,n<=m->m<r->qm t ((frm+m) % 2 ^ k)≠0/\(qj items (qm t ((frm+m) % 2 ^ k))).at_≠at_)->vz items t k at_ frm f n=(x,r+1)
 | 0,n,h1,h2,_=>by omega
 | f+1,n,h1,h2,hb=>by
  unfold vz
  by_cases hnr:n=r
  ·subst hnr;rw[hr,if_neg hx,if_pos ha]
  ·have:=hb n (Nat.le_refl _) om
   rw[if_neg this.1,if_neg this.2]
   exact JK hr hx ha f (n+1) om om fun m h3 h4=>hb m om h4
theorem JQ{items:List (Int × TR)}{t:List Int}{k:Nat}{at_:Int}{frm r:Nat}(hr:qm t ((frm+r) % 2 ^ k)=0) :
  ∀ f n,n<=r->r<n+f->(∀ m,n<=m->m<r->qm t ((frm+m) % 2 ^ k)≠0/\(qj items (qm t ((frm+m) % 2 ^ k))).at_≠at_)->vz items t k at_ frm f n=(0,r+1)
 | 0,n,h1,h2,_=>by omega
 | f+1,n,h1,h2,hb=>by
  unfold vz
  by_cases hnr:n=r
  ·subst hnr;rw[hr,if_pos rfl]
  ·have:=hb n (Nat.le_refl _) om
   rw[if_neg this.1,if_neg this.2]
   exact JQ hr f (n+1) om om fun m h3 h4=>hb m om h4
theorem Tab.look_some{items:List (Int × TR)}{t:List Int}{k:Nat}{at_:Int}{frm:Nat}{x:Int}{ids:Int->Prop}{home:Int->Nat}(h:Tab (2 ^ k) t ids home)(hx:ids x)(hf:frm<2 ^ k)(hh:home x=frm)
  (ha:(qj items x).at_=at_) (hd:∀ y,ids y->(qj items y).at_=at_->y=x) {e:Nat} (he:e<2 ^ k) (he0:qm t e=0) :
  ∃ i,i<2 ^ k/\qm t i=x/\(∀ m,m<D (2 ^ k) frm i->qm t ((frm+m) % 2 ^ k)≠0)/\vz items t k at_ frm (2 ^ k) 0=(x,D (2 ^ k) frm i+1):=by
 obtain⟨i,hi,hii⟩:=h.has x hx
 have hx0:x≠0:=by rintro rfl;exact h.z hx
 have hb:∀ m,m<D (2 ^ k) frm i->qm t ((frm+m) % 2 ^ k)≠0:=fun m hm h0=>by
  have hmN:m<2 ^ k:=by have:=q9i hf hi;omega
  have h1:=h.reach i _ hi (q3x hf m) (by rw[hii];exact hx0) h0
  rw[hii,hh]at h1
  have h2:=qvT hf hmN
  generalize (frm+m) % 2 ^ k=c at *
  generalize 2 ^ k=N at *
  unfold D at *
  split at h1<;>split at h1<;>split at h2<;>split at hm<;>omega
 refine⟨i,hi,hii,hb,JK (by rw[qhI hf hi];exact hii) hx0 ha _ 0 om (by have:=q9i hf hi;omega) fun m _ hm=>⟨hb m hm,fun hat=>?_⟩⟩
 have hmN:m<2 ^ k:=by have:=q9i hf hi;omega
 have h3:=hd _ (h.mem _ (q3x hf m) (hb m hm)) hat
 have h4:=h.inj _ i (q3x hf m) hi (hb m hm) (by rw[h3,hii])
 have h5:=qvT hf hmN
 rw[h4]at h5
 omega
theorem Tab.look_none{items:List (Int × TR)}{t:List Int}{k:Nat}{at_:Int}{frm:Nat}{ids:Int->Prop}{home:Int->Nat}(h:Tab (2 ^ k) t ids home)(hf:frm<2 ^ k)
  (hd:∀ y,ids y->(qj items y).at_≠at_) {r:Nat} (hr:r<2 ^ k) (hr0:qm t ((frm+r) % 2 ^ k)=0) (hb:∀ m,m<r->qm t ((frm+m) % 2 ^ k)≠0):vz items t k at_ frm (2 ^ k) 0=(0,r+1):=
 JQ hr0 _ 0 om om fun m _ hm=>⟨hb m hm,hd _ (h.mem _ (q3x hf m) (hb m hm))⟩
theorem qs6{p:Nat->Prop}:∀ n,p n->∃ m,p m/\m<=n/\∀ j,j<m->¬ p j:=by
 intro n
 induction n using Nat.strongRecOn with
 | ind n ih=>
  intro hn
  by_cases h:∃ j,j<n/\p j
  ·obtain⟨j,hj,hp⟩:=h
   obtain⟨m,h1,h2,h3⟩:=ih j hj hp
   exact⟨m,h1,by omega,h3⟩
  ·exact⟨n,hn,Nat.le_refl _,fun j hj hp=>h ⟨j,hj,hp⟩⟩
theorem q3M{α:Type} [DecidableEq α]:∀ {l m:List α},l.Nodup->(∀ x∈l,x∈m)->l.length<=m.length
 | [],_,_,_=>Nat.zero_le _
 | x::l,m,hn,hs=>by
  have h1:=List.nodup_cons.1 hn
  have hx:x∈m:=hs x (.head _)
  have h2:=q3M (l:=l) (m:=m.erase x) h1.2 fun y hy=>(List.mem_erase_of_ne (by rintro rfl;exact h1.1 hy)).2 (hs y (.tail _ hy))
  rw[List.length_erase_of_mem hx]at h2
  have:0<m.length:=List.length_pos_of_mem hx
  rw[List.length_cons];omega
theorem Tab.room{N:Nat}{t:List Int}{ids:Int->Prop}{home:Int->Nat}{L:List Int}(h:Tab N t ids home)(hL:∀ x,ids x->x∈L)(hl:L.length<N):∃ e,e<N/\qm t e=0:=by
 refine Classical.byContradiction fun hno=>?_
 have hne:∀ e,e<N->qm t e≠0:=fun e he h0=>hno ⟨e,he,h0⟩
 have:=q3M (l:=(List.range N).map (qm t)) (m:=L) (List.pairwise_map.2 (List.nodup_range.imp_of_mem fun ha hb hab heq=>hab (h.inj _ _ (List.mem_range.1 ha) (List.mem_range.1 hb) (hne _ (List.mem_range.1 ha)) heq)))
  (fun x hx=>by obtain⟨i,hi,rfl⟩:=List.mem_map.1 hx;exact hL _ (h.mem i (List.mem_range.1 hi) (hne i (List.mem_range.1 hi))))
 rw[List.length_map,List.length_range]at this
 omega
end Go.Fx.Ch
namespace Go.Fx.Ch
open Go.Fx.Tryz
set_option linter.all false
section
variable {K V:Type} [DecidableEq K]
def keys(m:List (K × V)):List K:=m.map (·.1)
theorem q7l{m:List (K × V)}{k:K}:k∈keys m↔∃ v,lk m k=some v:=by
 unfold keys
 constructor
 ·intro h
  cases hl:lk m k with
  | some v=>exact⟨v,rfl⟩
  | none=>
   obtain⟨p,hp,rfl⟩:=List.mem_map.1 h
   exact absurd rfl (q1e.1 hl p hp)
 ·rintro⟨v,hv⟩
  obtain⟨a,b,rfl,_⟩:=q8H hv
  simp
theorem qFy(m:List (K × V))(f:K->V->V)(k:K):lk (m.map fun p=>(p.1,f p.1 p.2)) k=(lk m k).map (f k):=by
 induction m with
 | nil=>rfl
 | cons p m ih=>
  unfold lk at *
  simp only[List.map_cons,List.find?_cons]
  by_cases h:p.1=k
  ·subst h;simp
  ·have:(p.1==k)=false:=by simpa using h
   rw[this];exact ih
theorem qq2(a b:List (K × V))(k:K):lk (a++b) k=(lk a k).or (lk b k):=by
 unfold lk
 rw[List.find?_append]
 cases h:a.find? fun p=>p.1==k<;>simp
theorem qme{m:List (K × V)}{k:K}{v u:V}(h:lk m k=some u):pt m k v=m.map fun p=>if p.1=k then(p.1,v)else p:=by unfold pt;rw[h]
theorem qmd(m:List (K × V))(k:K)(v:V)(x:K):lk (pt m k v) x=if x=k then some v else lk m x:=by
 cases h:lk m k with
 | none=>
  rw[q0w h,qq2]
  by_cases hx:x=k
  ·subst hx;rw[h];simp[lk]
  ·rw[if_neg hx]
   have:lk [(k,v)] x=none:=by unfold lk;simp[List.find?_cons,Ne.symm hx]
   rw[this];cases lk m x<;>rfl
 | some u=>
  rw[qme h]
  have h1:(m.map fun p=>if p.1=k then(p.1,v)else p)=m.map fun p=>(p.1,(fun a b=>if a=k then v else b) p.1 p.2):=List.map_congr_left fun p _=>by
   by_cases hp:p.1=k<;>simp[hp]
  rw[h1,qFy m (fun a b=>if a=k then v else b) x]
  by_cases hx:x=k
  ·subst hx;rw[h];simp
  ·simp only[if_neg hx];cases lk m x<;>rfl
theorem qrs(m:List (K × V))(k x:K):lk (dl m k) x=if x=k then none else lk m x:=by
 induction m with
 | nil=>unfold dl lk;simp
 | cons p m ih=>
  unfold dl at *
  rw[List.filter_cons]
  by_cases hp:p.1=k
  ·rw[if_neg (by simp[hp]),ih]
   by_cases hx:x=k
   ·rw[if_pos hx,if_pos hx]
   ·rw[if_neg hx,if_neg hx]
    unfold lk
    rw[List.find?_cons]
    have:(p.1==x)=false:=by simpa [hp]using Ne.symm hx
    rw[this]
  ·rw[if_pos (by simp[hp])]
   unfold lk at *
   rw[List.find?_cons,List.find?_cons]
   by_cases hx:p.1=x
   ·have:(p.1==x)=true:=by simpa using hx
    rw[this]
    rw[if_neg (by rw[<-hx];exact hp)]
   ·have:(p.1==x)=false:=by simpa using hx
    rw[this]
    exact ih
theorem qo9{m:List (K × V)}{k:K}(v:V)(h:k∈keys m):keys (pt m k v)=keys m:=by
 obtain⟨u,hu⟩:=q7l.1 h
 rw[qme hu]
 unfold keys
 rw[List.map_map]
 exact List.map_congr_left fun p _=>by simp only[Function.comp_apply];split<;>rfl
theorem JL{m:List (K × V)}{k:K}(v:V)(h:k ∉ keys m):keys (pt m k v)=keys m++[k]:=by
 have:lk m k=none:=by
  cases hl:lk m k with
  | none=>rfl
  | some u=>exact absurd (q7l.2 ⟨u,hl⟩) h
 rw[q0w this]
 unfold keys
 rw[List.map_append];rfl
theorem q0N(m:List (K × V))(k:K):keys (dl m k)=(keys m).filter fun x=>x≠k:=by
 unfold keys dl
 rw[List.filter_map];rfl
theorem qH(m:List (K × V)):(keys m).length=m.length:=List.length_map _
end
theorem Jo(m:List (Int × TR))(k:Int)(t:TR)(x:Int):qj (pt m k t) x=if x=k then t else qj m x:=by
 unfold qj;rw[qmd];split<;>rfl
theorem QH(m:List (Int × TR)){k x:Int}(h:x≠k):qj (dl m k) x=qj m x:=by
 unfold qj;rw[qrs,if_neg h]
theorem QQ(m:List (Int × TR))(p:Int × Int)(c x:Int):qj (ze m p c) x=if x=p.1 then { qj m x with code:=ju (qj m x).code p.2 c }else qj m x:=by
 unfold ze;rw[Jo];split
 ·rename_i h;rw[h]
 ·rfl
theorem jT{m:List (Int × TR)}{p:Int × Int}(c:Int)(h:p.1∈keys m):keys (ze m p c)=keys m:=qo9 _ h
theorem qdq(bs:List Int)(slot c:Int):(ju bs slot c).length<=bs.length:=by
 unfold ju
 split
 ·exact Nat.zero_le _
 ·rename_i l hl
  split
  ·rename_i ha
   obtain⟨e,he,hs⟩:=List.any_eq_true.1 ha
   obtain⟨al,i,p,n,h1,_,h3,h4,h5,rfl⟩:=q1o hl he
   have hn:=jg h4 h3
   have:slot=((p.2+n:Nat):Int)-4:=by simp at hs;omega
   unfold zI le4
   simp only[List.length_append,List.length_take,List.length_cons,List.length_nil,List.length_drop]
   omega
  ·exact Nat.zero_le _
def Z9(k:Nat)(items:List (Int × TR))(id:Int):Nat:=(zB k (qj items id).at_).toNat
theorem ZC{k:Nat}(h4:4<=k)(h16:k<=16)(a:Int):0<=zB k a/\zB k a<2 ^ k:=by
 unfold zB
 have h0:0<=(a / 4*2654435761) % 4294967296:=Int.emod_nonneg _ (by decide)
 have h1:(a / 4*2654435761) % 4294967296<4294967296:=Int.emod_lt_of_pos _ (by decide)
 have hp:(0:Int)<2 ^ (32-k):=Int.pow_pos (by decide)
 refine⟨Int.ediv_nonneg h0 om,Int.ediv_lt_of_lt_mul hp ?_⟩
 have:(2:Int) ^ k*2 ^ (32-k)=4294967296:=by rw[<-Int.pow_add,show k+(32-k)=32 by omega];decide
 omega
theorem q1s{k:Nat}(h4:4<=k)(h16:k<=16)(items:List (Int × TR))(id:Int):Z9 k items id<2 ^ k:=by
 have:=ZC h4 h16 (qj items id).at_
 have h2:((2:Int) ^ k)=((2 ^ k:Nat):Int):=by rw[Int.natCast_pow];rfl
 unfold Z9;omega
theorem qu3{k:Nat}(h4:4<=k)(h16:k<=16)(items:List (Int × TR))(id:Int):zB k (qj items id).at_=(Z9 k items id:Int):=by
 have:=ZC h4 h16 (qj items id).at_
 unfold Z9;omega
theorem qc4{k:Nat}(h4:4<=k):2 ^ k / 4*3<2 ^ k/\0<2 ^ k / 4*3:=by
 have:(2:Nat) ^ k=4*2 ^ (k-2):=by rw[show(4:Nat)=2 ^ 2 by rfl,<-Nat.pow_add,show 2+(k-2)=k by omega]
 have h2:0<(2:Nat) ^ (k-2):=Nat.pow_pos (by decide)
 rw[this];omega
structure qU (s:qc):Prop where
 k4:4<=s.k
 k16:s.k<=16
 nd:(keys s.items).Nodup
 pos:∀ x∈keys s.items,0<x/\x<=s.given
 ats:∀ x∈keys s.items,∀ y∈keys s.items,(qj s.items x).at_=(qj s.items y).at_->x=y
 atw:∀ x∈keys s.items,jq (qj s.items x).at_
 tab:Tab (2 ^ s.k) s.table (fun x=>x∈keys s.items) (Z9 s.k s.items)
 lim:s.items.length<=yQ s
 rows:s.rows.flatten.Perm (keys s.items)
 cur:s.cur<s.rows.length
 rl:s.rows.length<1000000
 ev:0<=s.ev
 dr:0<=s.dr
 sum:s.items.length+s.ev+s.dr<=s.given
 given:s.given<=2147483647
 len:s.len<=1048576
 fill:∀ r∈s.rows,qB s.items r<=s.len
theorem qU.room{s:qc}(h:qU s):∃ e,e<2 ^ s.k/\qm s.table e=0:=by
 refine h.tab.room (L:=keys s.items) (fun x hx=>hx) ?_
 have:=h.lim
 have:=(qc4 h.k4).1
 rw[qH];unfold yQ at *;omega
theorem q2H{a b:List (Int × TR)}{l:List Int}(h:∀ x∈l,(qj a x).code.length<=(qj b x).code.length):qB a l<=qB b l:=by
 unfold qB
 induction l with
 | nil=>simp
 | cons x l ih=>
  have:=ih fun y hy=>h y (.tail _ hy)
  have:=h x (.head _)
  simp only[List.map_cons,List.sum_cons];omega
theorem q2L{a:List (Int × TR)}{l:List Int}(p:Int->Bool):qB a (l.filter p)<=qB a l:=by
 unfold qB
 induction l with
 | nil=>simp
 | cons x l ih=>
  rw[List.filter_cons]
  split
  ·simp only[List.map_cons,List.sum_cons];omega
  ·simp only[List.map_cons,List.sum_cons];omega
structure Jc (a b:List (Int × TR)):Prop where
 keys:keys a=keys b
 at_:∀ x,(qj a x).at_=(qj b x).at_
 sp:∀ x,(qj a x).sp=(qj b x).sp
 code:∀ x,(qj a x).code.length<=(qj b x).code.length
theorem Jc.refl(a:List (Int × TR)):Jc a a:=⟨rfl,fun _=>rfl,fun _=>rfl,fun _=>Nat.le_refl _⟩
theorem Jc.trans{a b c:List (Int × TR)}(h:Jc a b)(g:Jc b c):Jc a c:=
 ⟨h.keys.trans g.keys,fun x=>(h.at_ x).trans (g.at_ x),fun x=>(h.sp x).trans (g.sp x),fun x=>Nat.le_trans (h.code x) (g.code x)⟩
theorem Jc.patch{m:List (Int × TR)}{p:Int × Int}(c:Int)(h:p.1∈Ch.keys m):Jc (ze m p c) m:=by
 refine⟨jT c h,fun x=>?_,fun x=>?_,fun x=>?_⟩<;>rw[QQ]<;>split
 ·rfl
 ·rfl
 ·rfl
 ·rfl
 ·exact qdq _ _ _
 ·exact Nat.le_refl _
theorem Yt(id:Int):∀ (l:List (Int × Int)) (s:qc),(∀ p∈l,p.1∈keys s.items)->Jc (qP id l s).items s.items/\(qP id l s).table=s.table/\(qP id l s).rows=s.rows
 | [],s,_=>⟨.refl _,rfl,rfl⟩
 | p::l,s,h=>by
  have h1:=Jc.patch 0 (h p (.head _))
  have h2:=Yt id l { s with items:=ze s.items p 0,hold:=zb s.hold p id } fun q hq=>by
   show q.1∈keys (ze s.items p 0)
   rw[h1.keys];exact h q (.tail _ hq)
  exact⟨h2.1.trans h1,h2.2.1,h2.2.2⟩
theorem jS(id:Int):∀ (l:List EX) (s:qc),(qM id l s).items=s.items/\(qM id l s).table=s.table/\(qM id l s).rows=s.rows
 | [],s=>⟨rfl,rfl,rfl⟩
 | x::l,s=>by
  unfold qM
  have h:=jS id l (if x.chain=0 then s else { s with hold:=zb s.hold (id,x.slot) x.chain })
  split
  ·rename_i hc;rw[if_pos hc]at h;exact h
  ·rename_i hc;rw[if_neg hc]at h;exact h
structure qLC (s s':qc) (id:Int):Prop where
 keys:keys s'.items=(keys s.items).filter fun x=>x≠id
 at_:∀ x,x≠id->(qj s'.items x).at_=(qj s.items x).at_
 sp:∀ x,x≠id->(qj s'.items x).sp=(qj s.items x).sp
 code:∀ x,x≠id->(qj s'.items x).code.length<=(qj s.items x).code.length
 rows:s'.rows=s.rows.map fun r=>r.filter fun n=>n≠id
theorem Jd{s:qc}{id:Int}{order:List (Int × Int)}(ho:∀ p∈order,p.1∈keys s.items):qLC s (forget1 order s id) id:=by
 obtain⟨a1,a2,a3⟩:=Yt id order s ho
 obtain⟨b1,b2,b3⟩:=jS id (qC (qP id order s).items id) (qP id order s)
 unfold forget1
 dsimp only
 refine⟨?_,fun x hx=>?_,fun x hx=>?_,fun x hx=>?_,?_⟩
 ·show Ch.keys (dl (qM id _ _).items id)=_
  rw[q0N,b1,a1.keys]
 ·show(qj (dl (qM id _ _).items id) x).at_=_
  rw[QH _ hx,b1];exact a1.at_ x
 ·show(qj (dl (qM id _ _).items id) x).sp=_
  rw[QH _ hx,b1];exact a1.sp x
 ·show(qj (dl (qM id _ _).items id) x).code.length<=_
  rw[QH _ hx,b1];exact a1.code x
 ·show(qM id _ _).rows.map _=_
  rw[b3,a3]
theorem q5a(order:List (Int × Int))(s:qc)(id:Int):(forget1 order s id).len=s.len/\(forget1 order s id).k=s.k/\(forget1 order s id).cur=s.cur/\(forget1 order s id).given=s.given/\(forget1 order s id).ev=s.ev/\(forget1 order s id).dr=s.dr/\(forget1 order s id).rows.length=s.rows.length:=by
 have hf:∀ (l:List (Int × Int)) (s:qc),(qP id l s).len=s.len/\(qP id l s).k=s.k/\(qP id l s).cur=s.cur/\(qP id l s).given=s.given/\(qP id l s).ev=s.ev/\(qP id l s).dr=s.dr/\(qP id l s).rows.length=s.rows.length:=by
  intro l
  induction l with
  | nil=>exact fun s=>⟨rfl,rfl,rfl,rfl,rfl,rfl,rfl⟩
  | cons p l ih=>exact fun s=>ih _
 have hd:∀ (l:List EX) (s:qc),(qM id l s).len=s.len/\(qM id l s).k=s.k/\(qM id l s).cur=s.cur/\(qM id l s).given=s.given/\(qM id l s).ev=s.ev/\(qM id l s).dr=s.dr/\(qM id l s).rows.length=s.rows.length:=by
  intro l
  induction l with
  | nil=>exact fun s=>⟨rfl,rfl,rfl,rfl,rfl,rfl,rfl⟩
  | cons p l ih=>
   intro s
   unfold qM
   split
   ·exact ih _
   ·exact ih _
 obtain⟨a1,a2,a3,a4,a5,a6,a7⟩:=hf order s
 obtain⟨b1,b2,b3,b4,b5,b6,b7⟩:=hd (qC (qP id order s).items id) (qP id order s)
 refine⟨b1.trans a1,b2.trans a2,b3.trans a3,b4.trans a4,b5.trans a5,b6.trans a6,?_⟩
 show(List.map _ (qM id _ _).rows).length=_
 rw[List.length_map,b7,a7]
theorem Zj{l:List (List Int)}(p:Int->Bool):(l.map fun r=>r.filter p).flatten=l.flatten.filter p:=by
 induction l with
 | nil=>rfl
 | cons r l ih=>simp only[List.map_cons,List.flatten_cons,List.filter_append,ih]
theorem qU.forget1{s:qc}{id:Int}{order:List (Int × Int)}(h:qU s)(hid:id∈keys s.items)(ho:∀ p∈order,p.1∈keys s.items):qU (forget1 order s id)/\(Ch.forget1 order s id).items.length+1=s.items.length:=by
 have L:=Jd (id:=id) ho
 obtain⟨c1,c2,c3,c4,c5,c6,c7⟩:=q5a order s id
 have hlen:(Ch.forget1 order s id).items.length+1=s.items.length:=by
  rw[<-qH,<-qH s.items,L.keys]
  have:=h.nd
  have h1:(keys s.items).filter (fun x=>x≠id)=(keys s.items).erase id:=by rw[List.Nodup.erase_eq_filter this];exact List.filter_congr fun x _=>by by_cases hx:x=id<;>simp[hx]
  rw[h1,List.length_erase_of_mem hid]
  have:=List.length_pos_of_mem hid
  omega
 have hk:∀ x,x∈keys (Ch.forget1 order s id).items↔x∈keys s.items/\x≠id:=fun x=>by rw[L.keys];simp
 have htab:(Ch.forget1 order s id).table=zG s id/\True:=⟨by
  obtain⟨a1,a2,a3⟩:=Yt id order s ho
  obtain⟨b1,b2,b3⟩:=jS id (qC (qP id order s).items id) (qP id order s)
  have hkk:(qM id (qC (qP id order s).items id) (qP id order s)).k=s.k:=c2
  show zG (qM id _ _) id=_
  unfold zG
  rw[b1,b2,a2,hkk,a1.at_]
  have hg:∀ (f n:Nat) (o:Option Nat) (t:List Int),yq (qP id order s).items s.k id (zB s.k (qj s.items id).at_).toNat f n o t=yq s.items s.k id (zB s.k (qj s.items id).at_).toNat f n o t:=by
   intro f
   induction f with
   | zero=>intro n o t;cases o<;>rfl
   | succ f ih=>
    intro n o t
    cases o with
    | none=>unfold yq;rw[ih,ih]
    | some hh=>unfold yq;rw[a1.at_,ih,ih]
  exact hg _ _ _ _,trivial⟩
 refine⟨⟨by rw[c2];exact h.k4,by rw[c2];exact h.k16,?_,?_,?_,?_,?_,?_,?_,by rw[c3,c7];exact h.cur,by rw[c7];exact h.rl,by rw[c5];exact h.ev,by rw[c6];exact h.dr,?_,by rw[c4];exact h.given,by rw[c1];exact h.len,?_⟩,hlen⟩
 ·rw[L.keys];exact h.nd.filter _
 ·intro x hx;rw[c4];exact h.pos x ((hk x).1 hx).1
 ·intro x hx y hy he
  have hx':=(hk x).1 hx
  have hy':=(hk y).1 hy
  rw[L.at_ x hx'.2,L.at_ y hy'.2]at he
  exact h.ats x hx'.1 y hy'.1 he
 ·intro x hx
  have hx':=(hk x).1 hx
  rw[L.at_ x hx'.2];exact h.atw x hx'.1
 ·rw[htab.1,c2]
  obtain⟨e,he,he0⟩:=h.room
  have:=h.tab.remove (items:=s.items) (fun x _=>⟨qu3 h.k4 h.k16 _ _,q1s h.k4 h.k16 _ _⟩) hid he he0
  refine Tab.congr this (fun x=>(hk x).symm) fun x hx=>?_
  unfold Z9;rw[L.at_ x hx.2]
 ·have:=h.lim;unfold yQ at *;rw[c2];omega
 ·rw[L.rows,L.keys,Zj]
  exact h.rows.filter _
 ·have:=h.sum;rw[c4,c5,c6];omega
 ·intro r hr
  rw[L.rows]at hr
  obtain⟨r0,hr0,rfl⟩:=List.mem_map.1 hr
  rw[c1]
  refine Int.le_trans ?_ (h.fill r0 hr0)
  refine Int.le_trans (q2H fun x hx=>L.code x ?_) (q2L _)
  have:=(List.mem_filter.1 hx).2
  simpa using this
structure vl (s s':qc) (l:List Int):Prop where
 keys:keys s'.items=(keys s.items).filter fun x=>x ∉ l
 at_:∀ x,x ∉ l->(qj s'.items x).at_=(qj s.items x).at_
 sp:∀ x,x ∉ l->(qj s'.items x).sp=(qj s.items x).sp
 rows:s'.rows=s.rows.map fun r=>r.filter fun n=>n ∉ l
theorem vl.nil(s:qc):vl s s []:=⟨(List.filter_eq_self.2 fun x _=>by simp).symm,fun _ _=>rfl,fun _ _=>rfl,by
 rw[List.map_congr_left (g:=id) fun r _=>by simp];simp⟩
theorem vl.mem{s s':qc}{l:List Int}(h:vl s s' l){x:Int}:x∈Ch.keys s'.items↔x∈Ch.keys s.items/\x ∉ l:=by rw[h.keys];simp
theorem vl.cons{s s1 s':qc}{id:Int}{l:List Int}(h:qLC s s1 id)(g:vl s1 s' l):vl s s' (id::l):=by
 refine⟨?_,fun x hx=>?_,fun x hx=>?_,?_⟩
 ·rw[g.keys,h.keys,List.filter_filter]
  exact List.filter_congr fun x _=>by by_cases h1:x=id<;>by_cases h2:x∈l<;>simp[h1,h2]
 ·rw[List.mem_cons,not_or]at hx
  exact(g.at_ x hx.2).trans (h.at_ x hx.1)
 ·rw[List.mem_cons,not_or]at hx
  exact(g.sp x hx.2).trans (h.sp x hx.1)
 ·rw[g.rows,h.rows,List.map_map]
  refine List.map_congr_left fun r _=>?_
  simp only[Function.comp_apply]
  rw[List.filter_filter]
  exact List.filter_congr fun x _=>by by_cases h1:x=id<;>by_cases h2:x∈l<;>simp[h1,h2]
theorem vl.append{s s1 s':qc}{a b:List Int}(h:vl s s1 a)(g:vl s1 s' b):vl s s' (a++b):=by
 refine⟨?_,fun x hx=>?_,fun x hx=>?_,?_⟩
 ·rw[g.keys,h.keys,List.filter_filter]
  exact List.filter_congr fun x _=>by by_cases h1:x∈a<;>by_cases h2:x∈b<;>simp[h1,h2]
 ·rw[List.mem_append,not_or]at hx
  exact(g.at_ x hx.2).trans (h.at_ x hx.1)
 ·rw[List.mem_append,not_or]at hx
  exact(g.sp x hx.2).trans (h.sp x hx.1)
 ·rw[g.rows,h.rows,List.map_map]
  refine List.map_congr_left fun r _=>?_
  simp only[Function.comp_apply]
  rw[List.filter_filter]
  exact List.filter_congr fun x _=>by by_cases h1:x∈a<;>by_cases h2:x∈b<;>simp[h1,h2]
theorem vl.len{s s':qc}{l:List Int}(h:vl s s' l)(hn:(Ch.keys s.items).Nodup)(hl:l.Nodup)(hs:∀ x∈l,x∈Ch.keys s.items):s'.items.length+l.length=s.items.length:=by
 rw[<-qH s'.items,<-qH s.items,h.keys]
 have h1:=(List.filter_append_perm (fun x=>decide (x ∉ l)) (Ch.keys s.items)).length_eq
 rw[List.length_append]at h1
 have h2:(((Ch.keys s.items).filter fun x=>!decide (x ∉ l)).Perm l):=by
  refine(List.perm_ext_iff_of_nodup (hn.filter _) hl).2 fun x=>?_
  rw[List.mem_filter]
  constructor
  ·rintro⟨_,h⟩;simpa using h
  ·intro h;exact⟨hs x h,by simpa using h⟩
 rw[<-h1,h2.length_eq]
structure JP (Q:qc->Prop):Prop where
 places:∀ s id,qU s->Q s->∀ p∈(lk s.hold id).getD [],p.1∈keys s.items
 forget:∀ s id order,qU s->Q s->id∈keys s.items->order.Perm ((lk s.hold id).getD [])->Q (forget1 order s id)
 cur:∀ s c,Q s->Q { s with cur:=c }
 ev:∀ s e,Q s->Q { s with ev:=e }
variable {Q:qc->Prop}
theorem zn.keep(hQ:JP Q){s s':qc}{l:List Int}(h:zn s l s'):qU s->Q s->l.Nodup->(∀ x∈l,x∈keys s.items)->qU s'/\Q s'/\vl s s' l:=by
 induction h with
 | nil s=>exact fun hb hq _ _=>⟨hb,hq,.nil s⟩
 | @cons s s' id l order ho _ ih=>
  intro hb hq hn hs
  have hn:=List.nodup_cons.1 hn
  have hid:=hs id (.head _)
  have hp:∀ p∈order,p.1∈keys s.items:=fun p hp=>hQ.places s id hb hq p (ho.mem_iff.1 hp)
  have hL:=Jd (id:=id) hp
  obtain⟨a,b,c⟩:=ih (hb.forget1 hid hp).1 (hQ.forget s id order hb hq hid ho) hn.2 fun x hx=>by
   rw[hL.keys]
   exact List.mem_filter.2 ⟨hs x (.tail _ hx),by simp;rintro rfl;exact hn.1 hx⟩
  exact⟨a,b,.cons hL c⟩
theorem qU.row{s:qc}(h:qU s){r:List Int}(hr:r∈s.rows):r.Nodup/\∀ x∈r,x∈keys s.items:=by
 have hn:s.rows.flatten.Nodup:=h.rows.nodup_iff.2 h.nd
 refine⟨?_,fun x hx=>h.rows.mem_iff.1 (List.mem_flatten.2 ⟨r,hr,hx⟩)⟩
 exact(List.pairwise_flatten.1 hn).1 r hr
theorem zQ(l:List Int):(zJ l).Perm l:=List.mergeSort_perm l _
theorem qC1{s:qc}(h:qU s):(zL s).Nodup/\(∀ x∈zL s,x∈keys s.items)/\s.rows[s.cur]?=some (s.rows[s.cur]'h.cur)/\(zL s).Perm (s.rows[s.cur]'h.cur):=by
 have e:s.rows[s.cur]?=some (s.rows[s.cur]'h.cur):=List.getElem?_eq_getElem h.cur
 have hp:(zL s).Perm (s.rows[s.cur]'h.cur):=by unfold zL;rw[e];exact zQ _
 obtain⟨h1,h2⟩:=h.row (List.getElem_mem h.cur)
 exact⟨hp.nodup_iff.2 h1,fun x hx=>h2 x (hp.mem_iff.1 hx),e,hp⟩
theorem qU.setCur{s:qc}(h:qU s){c:Nat}(hc:c<s.rows.length):qU { s with cur:=c }:=
 ⟨h.k4,h.k16,h.nd,h.pos,h.ats,h.atw,h.tab,h.lim,h.rows,hc,h.rl,h.ev,h.dr,h.sum,h.given,h.len,h.fill⟩
theorem qU.next{s:qc}(h:qU s):qU (qx s):=h.setCur (Nat.mod_lt _ (by have:=h.cur;omega))
theorem qU.setEv{s:qc}(h:qU s){e:Int}(h0:0<=e)(hs:s.items.length+e+s.dr<=s.given):qU { s with ev:=e }:=
 ⟨h.k4,h.k16,h.nd,h.pos,h.ats,h.atw,h.tab,h.lim,h.rows,h.cur,h.rl,h0,h.dr,hs,h.given,h.len,h.fill⟩
theorem qU.setDr{s:qc}(h:qU s){e:Int}(h0:0<=e)(hs:s.items.length+s.ev+e<=s.given):qU { s with dr:=e }:=
 ⟨h.k4,h.k16,h.nd,h.pos,h.ats,h.atw,h.tab,h.lim,h.rows,h.cur,h.rl,h.ev,h0,hs,h.given,h.len,h.fill⟩
theorem qU.few{s:qc}(h:qU s):s.items.length<60000:=by
 have h1:=h.lim
 have h2:(2:Nat) ^ s.k<=2 ^ 16:=Nat.pow_le_pow_right (by decide) h.k16
 unfold yQ at h1
 omega
theorem qU.rowLen{s:qc}(h:qU s){r:List Int}(hr:r∈s.rows):r.length<=s.items.length:=by
 obtain⟨h1,h2⟩:=h.row hr
 have:=q3M h1 h2
 rw[qH]at this;exact this
theorem qU.fit{s:qc}(h:qU s):Fit s:=by
 have hf:=h.few
 refine⟨fun r hr=>by have:=h.rowLen hr;omega,h.ev,?_,by omega,fun x hx=>?_⟩
 ·have:=h.sum;have:=h.given;have:=h.dr;omega
 ·obtain⟨i,hi,rfl⟩:=List.mem_iff_getElem.1 hx
  have hs:qm s.table i=s.table[i]:=by unfold qm;rw[List.getElem?_eq_getElem hi];rfl
  by_cases h0:s.table[i]=0
  ·rw[h0];exact Vk
  ·have:=h.pos _ (by have:=h.tab.mem i (by rw[<-h.tab.len];exact hi) (by rw[hs];exact h0);rw[hs]at this;exact this)
   have:=h.given
   exact⟨by omega,by omega⟩
theorem qxv{s:qc}(h:qU s)(hr:∀ r∈s.rows,r=[]):s.items=[]:=by
 have h1:s.rows.flatten=[]:=List.flatten_eq_nil_iff.2 hr
 have h2:=h.rows.length_eq
 rw[h1,qH]at h2
 exact List.length_eq_zero_iff.1 h2.symm
theorem zn.round(hQ:JP Q){s s2:qc}(hb:qU s)(hq:Q s)(h:zn (qx s) (zL (qx s)) s2) :
  qU { s2 with ev:=s2.ev+(zL (qx s)).length }/\Q { s2 with ev:=s2.ev+(zL (qx s)).length }/\vl s s2 (zL (qx s))/\s2.items.length+(zL (qx s)).length=s.items.length/\
  s2.rows[(s.cur+1) % s.rows.length]?=some []:=by
 have hn:=hb.next
 obtain⟨r1,r2,r3,r4⟩:=qC1 hn
 obtain⟨a,b,c⟩:=h.keep hQ hn (hQ.cur s _ hq) r1 r2
 have hl:=c.len hn.nd r1 r2
 have hc:=h.conf
 have hl':s2.items.length+(zL (qx s)).length=s.items.length:=hl
 refine⟨a.setEv ?_ ?_,hQ.ev _ _ b,⟨c.keys,c.at_,c.sp,c.rows⟩,hl',?_⟩
 ·have:=a.ev;omega
 ·have h1:=hb.sum
  have e1:s2.ev=s.ev:=hc.2.2.2.2.1
  have e2:s2.dr=s.dr:=hc.2.2.2.2.2.1
  have e3:s2.given=s.given:=hc.2.2.2.1
  rw[e1,e2,e3];omega
 ·have e:s2.rows=s.rows.map fun r=>r.filter fun n=>n ∉ zL (qx s):=c.rows
  have r3':s.rows[(s.cur+1) % s.rows.length]?=some ((qx s).rows[(qx s).cur]'hn.cur):=r3
  rw[e,List.getElem?_map,r3',Option.map_some]
  congr 1
  refine List.filter_eq_nil_iff.2 fun x hx=>?_
  have:=r4.mem_iff.2 hx
  simp[this]
theorem EvR.of(hQ:JP Q){n:Nat}:∀ (m g:Nat) (s:qc),qU s->Q s->(n:Int)<=s.len->m<=s.rows.length->(∀ i,m<=i->i<s.rows.length->s.rows[(s.cur+1+i) % s.rows.length]?=some [])->g+s.items.length<1000000->EvR n m g s
 | 0,g,s,hb,hq,hn,_,he,hg=>by
  refine⟨hb.fit,by omega,?_⟩
  have hcur:=hb.cur
  have hr:∀ r∈s.rows,r=[]:=fun r hr=>by
   obtain⟨j,hj,rfl⟩:=List.mem_iff_getElem.1 hr
   have hR:s.rows.length≠0:=by omega
   have hc:(s.cur+1) % s.rows.length<s.rows.length:=Nat.mod_lt _ om
   have h1:=he (D s.rows.length ((s.cur+1) % s.rows.length) j) (Nat.zero_le _) (q9i hc hj)
   have h2:(s.cur+1+D s.rows.length ((s.cur+1) % s.rows.length) j) % s.rows.length=j:=by
    rw[<-Nat.mod_add_mod];exact qhI hc hj
   rw[h2,List.getElem?_eq_getElem hj]at h1
   exact Option.some.inj h1
  have hi:=qxv hb hr
  have hf:zu s s.cur=0:=by
   unfold zu
   rw[List.getElem?_eq_getElem hcur,hr _ (List.getElem_mem hcur)];rfl
  unfold jp
  rw[hf,hi]
  have:=(qc4 hb.k4).2
  simp only[List.length_nil,Bool.or_eq_false_iff,decide_eq_false_iff_not]
  unfold yQ
  exact⟨by omega,by omega⟩
 | m+1,g,s,hb,hq,hn,hm,he,hg=>by
  refine⟨hb.fit,by omega,fun _ s2 hF=>?_⟩
  obtain⟨a,b,c,d,e⟩:=hF.round hQ hb hq
  have hc:=hF.conf
  have hR:s2.rows.length=s.rows.length:=hc.2.2.2.2.2.2
  have hcu:s2.cur=(s.cur+1) % s.rows.length:=hc.2.2.1
  refine EvR.of hQ m _ _ a b ?_ ?_ ?_ ?_
  ·show(n:Int)<=s2.len
   rw[hc.1];exact hn
  ·show m<=s2.rows.length
   omega
  ·intro i h1 h2
   show s2.rows[(s2.cur+1+i) % s2.rows.length]?=some []
   have h2':i<s.rows.length:=by rw[<-hR];exact h2
   rw[hR,hcu]
   have hmod:((s.cur+1) % s.rows.length+1+i) % s.rows.length=(s.cur+1+(i+1)) % s.rows.length:=by
    rw[Nat.add_assoc,Nat.mod_add_mod,Nat.add_comm 1 i]
   rw[hmod]
   by_cases hi:i+1<s.rows.length
   ·have h3:=he (i+1) om hi
    rw[c.rows,List.getElem?_map,h3];rfl
   ·have:i+1=s.rows.length:=by omega
    rw[this,Nat.add_mod_right]
    exact e
  ·show g+_+s2.items.length<_
   omega
theorem qU.evR(hQ:JP Q){n:Nat}{s:qc}(hb:qU s)(hq:Q s)(hn:(n:Int)<=s.len):EvR n s.rows.length 0 s:=
 EvR.of hQ _ 0 s hb hq hn (Nat.le_refl _) (fun i h1 h2=>by omega) (by have:=hb.few;omega)
theorem yg.keep(hQ:JP Q){n:Nat}{s s':qc}{gone:List Int}(h:yg n s gone s'):qU s->Q s->qU s'/\Q s'/\vl s s' gone/\jp s' n=false/\s'.items.length+gone.length=s.items.length/\s'.ev=s.ev+gone.length:=by
 induction h with
 | done hf=>exact fun hb hq=>⟨hb,hq,.nil _,hf,by simp,by simp⟩
 | @step s s2 s' gone hf hF _ ih=>
  intro hb hq
  obtain⟨a,b,c,d,e⟩:=hF.round hQ hb hq
  obtain⟨a',b',c',d',e',f'⟩:=ih a b
  have c2:vl { s2 with ev:=s2.ev+(zL (qx s)).length } s' gone:=c'
  have e2:s'.items.length+gone.length=s2.items.length:=e'
  have f2:s'.ev=s2.ev+(zL (qx s)).length+gone.length:=f'
  have hc:s2.ev=s.ev:=hF.conf.2.2.2.2.1
  refine⟨a',b',vl.append c ⟨c2.keys,c2.at_,c2.sp,c2.rows⟩,d',?_,?_⟩
  ·rw[List.length_append];omega
  ·rw[List.length_append,f2,hc];omega
theorem q3V{a b:List (Int × TR)}{l:List Int}(h:∀ x∈l,qj a x=qj b x):qB a l=qB b l:=by
 unfold qB
 rw[List.map_congr_left fun x hx=>by rw[h x hx]]
theorem q3F{l:List (List Int)}{i:Nat}(hi:i<l.length)(x:Int):(l.modify i fun r=>r++[x]).flatten.Perm (l.flatten++[x]):=by
 induction l generalizing i with
 | nil=>simp at hi
 | cons r l ih=>
  cases i with
  | zero=>
   simp only[List.modify_zero_cons,List.flatten_cons,List.append_assoc]
   exact List.Perm.append_left r (List.perm_append_comm)
  | succ i=>
   simp only[List.modify_succ_cons,List.flatten_cons,List.append_assoc]
   exact List.Perm.append_left r (ih (by simpa using hi))
theorem q3l(s:qc)(t:TR):(zP s t).items=pt s.items (s.given+1) t:=rfl
theorem qU.add{s:qc}{t:TR}(h:qU s)(hf:jp s t.code.length=false)(ha:jq t.at_)(hd:∀ x∈keys s.items,(qj s.items x).at_≠t.at_)(hg:s.given<2147483647) :
  qU (zP s t)/\keys (zP s t).items=keys s.items++[s.given+1]/\(∀ x∈keys s.items,qj (zP s t).items x=qj s.items x)/\qj (zP s t).items (s.given+1)=t/\s.given+1 ∉ keys s.items:=by
 have hnew:s.given+1 ∉ keys s.items:=fun hh=>by have:=(h.pos _ hh).2;omega
 have hk:keys (zP s t).items=keys s.items++[s.given+1]:=JL _ hnew
 have hne:∀ x∈keys s.items,x≠s.given+1:=fun x hx hh=>hnew (hh▸hx)
 have hold:∀ x∈keys s.items,qj (zP s t).items x=qj s.items x:=fun x hx=>by
  rw[q3l,Jo,if_neg (hne x hx)]
 have hnw:qj (zP s t).items (s.given+1)=t:=by rw[q3l,Jo,if_pos rfl]
 have hmem:∀ x,x∈keys (zP s t).items↔x∈keys s.items\/x=s.given+1:=fun x=>by rw[hk];simp
 have hg0:0<=s.given:=by have:=h.sum;have:=h.ev;have:=h.dr;omega
 unfold jp at hf
 simp only[Bool.or_eq_false_iff,decide_eq_false_iff_not]at hf
 refine⟨⟨h.k4,h.k16,?_,?_,?_,?_,?_,?_,?_,?_,?_,h.ev,h.dr,?_,?_,h.len,?_⟩,hk,hold,hnw,hnew⟩
 ·rw[hk]
  exact List.nodup_append.2 ⟨h.nd,by simp,fun a ha b hb=>by rw[List.mem_singleton.1 hb];exact hne a ha⟩
 ·intro x hx
  show 0<x/\x<=s.given+1
  rcases(hmem x).1 hx with hx | rfl
  ·have:=h.pos x hx;omega
  ·omega
 ·intro x hx y hy he
  rcases(hmem x).1 hx with hx | rfl<;>rcases(hmem y).1 hy with hy | rfl
  ·rw[hold x hx,hold y hy]at he;exact h.ats x hx y hy he
  ·rw[hold x hx,hnw]at he;exact absurd he (hd x hx)
  ·rw[hold y hy,hnw]at he;exact absurd he.symm (hd y hy)
  ·rfl
 ·intro x hx
  rcases(hmem x).1 hx with hx | rfl
  ·rw[hold x hx];exact h.atw x hx
  ·rw[hnw];exact ha
 ·obtain⟨e,he,he0⟩:=h.room
  have h0:Tab (2 ^ s.k) s.table (fun x=>x∈keys s.items) (Z9 s.k (zP s t).items):=h.tab.congr (fun _=>Iff.rfl) fun x hx=>by unfold Z9;rw[hold x hx]
  have:=h0.insert (id:=s.given+1) hnew om (q1s h.k4 h.k16 _ _) he he0
  exact this.congr (fun x=>(hmem x).symm) fun x _=>rfl
 ·show(zP s t).items.length<=yQ s
  rw[<-qH,hk,List.length_append,qH]
  simp only[List.length_cons,List.length_nil]
  omega
 ·rw[hk]
  exact(q3F h.cur _).trans (h.rows.append_right _)
 ·show s.cur<(s.rows.modify s.cur _).length
  rw[List.length_modify];exact h.cur
 ·show(s.rows.modify s.cur _).length<_
  rw[List.length_modify];exact h.rl
 ·show((zP s t).items.length:Int)+s.ev+s.dr<=s.given+1
  have:=h.sum
  rw[<-qH,hk,List.length_append,qH]
  simp only[List.length_cons,List.length_nil]
  omega
 ·show s.given+1<=_
  omega
 ·intro r hr
  obtain⟨i,hi,hri⟩:=List.mem_iff_getElem?.1 hr |>.imp fun i hi=>(⟨by
   have:=(List.getElem?_eq_some_iff.1 hi).1
   have e:(zP s t).rows.length=s.rows.length:=List.length_modify _ _ _
   omega,hi⟩:i<s.rows.length/\(zP s t).rows[i]?=some r)
  have e:(zP s t).rows[i]?=if s.cur=i then some (s.rows[i]++[s.given+1])else some s.rows[i]:=by
   show(s.rows.modify s.cur _)[i]?=_
   rw[List.getElem?_modify,List.getElem?_eq_getElem hi]
   split<;>rfl
  rw[e]at hri
  have hrow:∀ x∈s.rows[i],qj (zP s t).items x=qj s.items x:=fun x hx=>hold x ((h.row (List.getElem_mem hi)).2 x hx)
  have h1:qB (zP s t).items s.rows[i]=qB s.items s.rows[i]:=q3V hrow
  have h2:=h.fill _ (List.getElem_mem hi)
  show qB _ r<=s.len
  split at hri
  ·rename_i hci
   cases hri
   subst hci
   have h3:zu s s.cur=qB s.items s.rows[s.cur]:=by unfold zu qB;rw[List.getElem?_eq_getElem hi];rfl
   have h4:qB (zP s t).items (s.rows[s.cur]++[s.given+1])=qB (zP s t).items s.rows[s.cur]+t.code.length:=by
    unfold qB
    rw[List.map_append,List.sum_append]
    simp[hnw]
   rw[h4,h1,<-h3]
   omega
  ·cases hri
   rw[h1];exact h2
theorem qU.look_some{s:qc}(h:qU s){a x:Int}(hx:x∈keys s.items)(ha:(qj s.items x).at_=a) :
  ∃ i,i<2 ^ s.k/\qm s.table i=x/\(∀ m,m<D (2 ^ s.k) (zB s.k a).toNat i->qm s.table (((zB s.k a).toNat+m) % 2 ^ s.k)≠0)/\zO s a=(x,D (2 ^ s.k) (zB s.k a).toNat i+1):=by
 obtain⟨e,he,he0⟩:=h.room
 have hh:Z9 s.k s.items x=(zB s.k a).toNat:=by unfold Z9;rw[ha]
 exact h.tab.look_some hx (by rw[<-hh];exact q1s h.k4 h.k16 _ _) hh ha (fun y hy hya=>h.ats y hy x hx (hya.trans ha.symm)) he he0
theorem qU.look_none{s:qc}(h:qU s){a:Int}(ha:∀ x∈keys s.items,(qj s.items x).at_≠a) :
  ∃ r,r<2 ^ s.k/\qm s.table (((zB s.k a).toNat+r) % 2 ^ s.k)=0/\(∀ m,m<r->qm s.table (((zB s.k a).toNat+m) % 2 ^ s.k)≠0)/\zO s a=(0,r+1):=by
 obtain⟨e,he,he0⟩:=h.room
 have hf:(zB s.k a).toNat<2 ^ s.k:=by
  have:=ZC h.k4 h.k16 a
  have h2:((2:Int) ^ s.k)=((2 ^ s.k:Nat):Int):=by rw[Int.natCast_pow];rfl
  omega
 obtain⟨r,hr,hr1,hr2⟩:=qs6 (p:=fun m=>qm s.table (((zB s.k a).toNat+m) % 2 ^ s.k)=0) (D (2 ^ s.k) (zB s.k a).toNat e) (by show qm _ _=0;rw[qhI hf he];exact he0)
 have hlt:=q9i hf he
 exact⟨r,by omega,hr,hr2,h.tab.look_none hf ha om hr hr2⟩
theorem qU.look_iff{s:qc}(h:qU s)(a:Int):(zO s a).1≠0↔∃ x∈keys s.items,(qj s.items x).at_=a:=by
 constructor
 ·intro h0
  refine Classical.byContradiction fun hno=>h0 ?_
  obtain⟨r,_,_,_,e⟩:=h.look_none (a:=a) fun x hx hxa=>hno ⟨x,hx,hxa⟩
  rw[e]
 ·rintro⟨x,hx,hxa⟩
  obtain⟨i,_,_,_,e⟩:=h.look_some hx hxa
  rw[e]
  have:=(h.pos x hx).1
  show x≠0
  omega
end Go.Fx.Ch
namespace Go.Fx.Ch
open Go.Fx.Tryz
set_option linter.all false
set_option maxRecDepth 100000
theorem qU.new{n k:Nat}{len:Int}(h1:1<=n)(hn:n<1000000)(h4:4<=k)(h16:k<=16)(hl0:0<=len)(hl:len<=1048576):qU (vM n len k):=by
 have hk:∀ x,¬ x∈keys (vM n len k).items:=fun x hx=>by cases hx
 have hf:(vM n len k).rows.flatten=[]:=List.flatten_eq_nil_iff.2 fun r hr=>(List.mem_replicate.1 hr).2
 refine⟨h4,h16,List.nodup_nil,fun x hx=>absurd hx (hk x),fun x hx=>absurd hx (hk x),fun x hx=>absurd hx (hk x),(Tab.empty (2 ^ k) fun _=>0).congr (fun x=>⟨fun h=>h.elim,fun h=>absurd h (hk x)⟩) fun x h=>h.elim,Nat.zero_le _,?_,?_,?_,Int.le_refl _,Int.le_refl _,?_,?_,hl,fun r hr=>?_⟩
 ·rw[hf];exact List.Perm.nil
 ·show 0<(List.replicate n ([]:List Int)).length
  rw[List.length_replicate];omega
 ·show(List.replicate n ([]:List Int)).length<_
  rw[List.length_replicate];omega
 ·show((0:Nat):Int)+0+0<=0
  omega
 ·show(0:Int)<=_
  omega
 ·rw[(List.mem_replicate.1 hr).2]
  exact hl0
end Go.Fx.Ch
namespace Go.Fx.Tryz
set_option maxRecDepth 100000
open Go Go.Fx Go.Proofs
end Go.Fx.Tryz
namespace Go.Fx.Ch
open Go.Fx.Tryz
end Go.Fx.Ch
namespace Go.Fx.Tryz
open Go Go.Fx Go.Fx.Ch
open Go.Proofs
set_option linter.all false
set_option maxRecDepth 20000
variable {w0 w:World} {H X N:qF} {K:KT} {s u:qc} {L L1 L2:qR} {q q1 q2:LB}
theorem vj.one{xs:List Value}{a:Addr}{n c:Nat}(h:vj w 1 (.slice (some a) n c) n xs){i:Nat}(hi:i<n):w.cell? (a.add (i*1))=xs[i]?:=by
 rcases h.2 with⟨h1,_⟩ | ⟨a',c',h1,h2⟩
 ·cases h1
 ·cases h1
  rw[Nat.mul_one];exact h2 i om
section
variable {all:List Int} {stay:List Bool} {k n10 ac sl sc t:Nat} {aa sa:Option Addr} {at_:Int}
end
end Go.Fx.Tryz
namespace Go.Fx.Tryz
open Go Go.Fx Go.Fx.Ch
open Go.Proofs
set_option linter.all false
set_option maxRecDepth 20000
variable {w0 w:World} {H X N:qF} {K:KT} {s u:qc} {L L1 L2:qR} {q q1 q2:LB}
section
variable {all:List Int} {stay:List Bool} {k n10 ac sl sc t:Nat} {aa sa:Option Addr} {at_:Int}
end
theorem qxM{k:Nat}(h4:4<=k)(h16:k<=16):IntKind.wrap .i64 ((IntKind.wrap .i64 (((2 ^ k:Nat):Int).tdiv 4))*3)=((2 ^ k / 4*3:Nat):Int):=by
 rcases jE h4 h16 with rfl | rfl | rfl | rfl | rfl | rfl | rfl | rfl | rfl | rfl | rfl | rfl | rfl<;>decide
end Go.Fx.Tryz
namespace Go.Proofs.YtepbaneageipfaaGreatDoor
open Go
set_option maxRecDepth 100000
theorem qO6{a b:Bool}(h:a=true)(g:b=true):(a&&b)=true:=by rw[h,g];rfl
end Go.Proofs.YtepbaneageipfaaGreatDoor
namespace Go.Fx.Tryz
open Go Go.Fx Go.Fx.Ch
open Go.Proofs
open Go.ChangeShapes Go.WideShapes Go.ChangeAt Go.RowKit
set_option linter.all false
set_option maxRecDepth 100000
variable {H:Type} {enc:TypeId × Value->H} {W:World}
theorem q5z{n:Int}(h:(Lit.int .u32 n).wf=true):0<=n/\n<4294967296:=by
 simp[Lit.wf,IntKind.min,IntKind.max,IntKind.signed,IntKind.bits]at h
 omega
theorem qEN{n:Int}(h:(Lit.int .u8 n).wf=true):0<=n/\n<256:=by
 simp[Lit.wf,IntKind.min,IntKind.max,IntKind.signed,IntKind.bits]at h
 omega
theorem q0C:P.cellsOf 24=1:=kr
end Go.Fx.Tryz
namespace Go.Proofs.YtepbaneageipfaaGreatDoor
open Go Go.Fx Go.Fx.Tryz Go.Fx.Ch
open Go.ChangeShapes Go.WideShapes Go.ChangeAt Go.RowKit
set_option linter.all false
set_option maxRecDepth 100000
end Go.Proofs.YtepbaneageipfaaGreatDoor
namespace Go.Fx.Ch
open Go.Fx.Tryz
set_option linter.all false
set_option maxRecDepth 100000
structure Ag (b b':List Int) (n:Nat):Prop where
 l1:n<=b.length
 l2:n<=b'.length
 eq:∀ i,i<n->b[i]?=b'[i]?
theorem qui{b b':List Int}{n k:Nat}{s:Rd}(h:Ag b b' n)(h1:(rd b s k).2.2=false)(h2:(rd b s k).2.1<=n):rd b' s k=rd b s k:=by
 obtain⟨_,h3⟩:=ZQ h1
 rw[h3]at h2
 have:=h.l1
 have:=h.l2
 unfold rd
 rw[if_neg om,if_neg om]
 have e:(b'.drop s.1).take k=(b.drop s.1).take k:=by
  apply List.ext_getElem?
  intro i
  rw[List.getElem?_take,List.getElem?_take]
  split
  ·rw[List.getElem?_drop,List.getElem?_drop]
   exact(h.eq _ om).symm
  ·rfl
 rw[e]
def qV(f:List Int->HI × Rd->HI × Rd):Prop:=∀ (b b':List Int) (n:Nat) (s:HI × Rd),Ag b b' n->(f b s).2.2=false->(f b s).2.1<=n->f b' s=f b s/\s.2.2=false/\s.2.1<=(f b s).2.1
theorem qV.id:qV fun _ s=>s:=fun _ _ _ _ _ h _=>⟨rfl,h,Nat.le_refl _⟩
theorem qV.read(g:HI->Int->HI)(k:Nat):qV fun b s=>(g s.1 (rd b s.2 k).1,(rd b s.2 k).2):=fun b b' n s ha h1 h2=>by
 have h1:(rd b s.2 k).2.2=false:=h1
 have h2:(rd b s.2 k).2.1<=n:=h2
 refine⟨?_,(ZQ h1).1,q7R⟩
 show(g s.1 (rd b' s.2 k).1,(rd b' s.2 k).2)=_
 rw[qui ha h1 h2]
theorem qV.comp{f g:List Int->HI × Rd->HI × Rd}(hf:qV f)(hg:qV g):qV fun b s=>g b (f b s):=fun b b' n s ha h1 h2=>by
 obtain⟨g1,g2,g3⟩:=hg b b' n (f b s) ha h1 h2
 obtain⟨f1,f2,f3⟩:=hf b b' n s ha g2 (Nat.le_trans g3 h2)
 refine⟨?_,f2,Nat.le_trans f3 g3⟩
 show g b' (f b' s)=_
 rw[f1,g1]
theorem qV.decS(fs i:Nat):qV fun b s=>Ch.decS fs b i s:=by
 unfold Ch.decS
 by_cases h:has fs (q9j i)=true
 ·simp only[if_pos h]
  exact qV.read (fun x v=>q3Z x i v) _
 ·simp only[if_neg h]
  exact qV.id
theorem qV.decI(fs:Nat):∀ i,qV fun b s=>Ch.decI fs b i s
 | 0=>qV.id
 | i+1=>(qV.comp (f:=fun b s=>Ch.decI fs b i s) (g:=fun b s=>Ch.decS fs b i s) (qV.decI fs i) (qV.decS fs i):qV fun b s=>Ch.decS fs b i (Ch.decI fs b i s))
theorem qV.decA(fs:Nat):qV fun b s=>Ch.decA fs b s:=by
 unfold Ch.decA
 by_cases h:has fs 256=true
 ·simp only[if_pos h]
  exact qV.read (fun x v=>{ x with i:=v }) _
 ·simp only[if_neg h]
  exact qV.id
theorem qV.decC(fs:Nat):qV fun b s=>Ch.decC fs b s:=by
 unfold Ch.decC
 by_cases h:has fs 512=true
 ·simp only[if_pos h]
  exact qV.read (fun x v=>{ x with chain:=v }) _
 ·simp only[if_neg h]
  exact qV.id
theorem qV.decV1:∀ i,qV fun b s=>Ch.decV1 b i s
 | 0=>qV.id
 | i+1=>(qV.comp (f:=fun b s=>Ch.decV1 b i s) (g:=fun b s=>(q34 s.1 i (rd b s.2 4).1,(rd b s.2 4).2)) (qV.decV1 i) (qV.read (fun x v=>q34 x i v) 4):qV fun b s=>(q34 (Ch.decV1 b i s).1 i (rd b (Ch.decV1 b i s).2 4).1,(rd b (Ch.decV1 b i s).2 4).2))
theorem qV.decV(fs:Nat):qV fun b s=>Ch.decV fs b s:=by
 unfold Ch.decV
 by_cases h:has fs 1024=true
 ·simp only[if_pos h]
  exact qV.decV1 4
 ·simp only[if_neg h]
  exact qV.id
theorem qV.head(fs:Nat):qV fun b s=>Ch.decA fs b (Ch.decI fs b 8 s):=qV.comp (qV.decI fs 8) (qV.decA fs)
theorem qV.all(fs:Nat):qV fun b s=>Ch.decV fs b (Ch.decC fs b (Ch.decA fs b (Ch.decI fs b 8 s))):=qV.comp (qV.comp (qV.head fs) (qV.decC fs)) (qV.decV fs)
theorem YR{b:List Int}{x:HI}{n:Nat}(h:decode b=some (x,n)):(rd b (0,false) 1).2=(1,false)/\1<=(rd b (0,false) 1).1/\(rd b (0,false) 1).1<46/\check x=true/\
  decV (zh (rd b (0,false) 1).1).1 b (decC (zh (rd b (0,false) 1).1).1 b (decA (zh (rd b (0,false) 1).1).1 b (decI (zh (rd b (0,false) 1).1).1 b 8 ({ op:=(rd b (0,false) 1).1 },(rd b (0,false) 1).2))))=(x,n,false):=by
 unfold decode at h
 dsimp only at h
 split at h
 ·cases h
 ·rename_i h1
  split at h
  ·cases h
  ·rename_i h2
   simp only[Option.some.injEq,Prod.mk.injEq]at h
   have h1a:=fun hh=>h1 (.inl hh)
   have h1b:(rd b (0,false) 1).2.2=false:=Bool.eq_false_iff.2 fun hh=>h1 (.inr hh)
   have h3:=Classical.not_not.1 h1a
   have hf:=Bool.eq_false_iff.2 fun hh=>h2 (.inl hh)
   have hc:¬ check _=false:=fun hh=>h2 (.inr hh)
   rw[h.1]at hc
   refine⟨Prod.ext (ZQ h1b).2 h1b,h3.1,h3.2,by simpa using hc,?_⟩
   exact Prod.ext h.1 (Prod.ext h.2 hf)
theorem q4e{b:List Int}{x:HI}{n:Nat}(h1:(rd b (0,false) 1).2=(1,false))(h2:1<=(rd b (0,false) 1).1)(h3:(rd b (0,false) 1).1<46)(h4:check x=true)
  (h5:decV (zh (rd b (0,false) 1).1).1 b (decC (zh (rd b (0,false) 1).1).1 b (decA (zh (rd b (0,false) 1).1).1 b (decI (zh (rd b (0,false) 1).1).1 b 8 ({ op:=(rd b (0,false) 1).1 },(rd b (0,false) 1).2))))=(x,n,false)):decode b=some (x,n):=by
 unfold decode
 dsimp only
 rw[h5,if_neg,if_neg]
 ·simp[h4]
 ·rw[h1];simp;omega
theorem qqj{b b':List Int}{x:HI}{n:Nat}(h:decode b=some (x,n))(ha:Ag b b' n):decode b'=some (x,n):=by
 obtain⟨h1,h2,h3,h4,h5⟩:=YR h
 have hl:=vh h
 have ho:rd b' (0,false) 1=rd b (0,false) 1:=qui ha (by rw[h1]) (by rw[h1];exact hl.1)
 refine q4e (by rw[ho];exact h1) (by rw[ho];exact h2) (by rw[ho];exact h3) h4 ?_
 rw[ho]
 have:=(qV.all (zh (rd b (0,false) 1).1).1 b b' n ({ op:=(rd b (0,false) 1).1 },(rd b (0,false) 1).2) ha (congrArg (fun p=>p.2.2) h5) (Nat.le_of_eq (congrArg (fun p=>p.2.1) h5))).1
 exact this.trans h5
theorem qeO{fs:Nat}{x:HI}(c:Int)(h:has fs 512=true):(Yy fs { x with chain:=c }=={ x with chain:=c })=(Yy fs x==x):=by
 have e:Yy fs { x with chain:=c }={ Yy fs x with chain:=c }:=by
  unfold Yy vP
  simp only[h,pick,if_true]
 have hc:(Yy fs x).chain=x.chain:=by
  unfold Yy
  simp only[h,pick,if_true]
 rw[e]
 generalize Yy fs x=y at *
 rw[Bool.eq_iff_iff,beq_iff_eq,beq_iff_eq]
 constructor
 ·intro hh
  cases x;cases y
  simp only[HI.mk.injEq]at hh hc ⊢
  simp_all
 ·intro hh
  rw[hh]
theorem qa9{x:HI}(c:Int)(hx:x.op=39\/x.op=40):check { x with chain:=c }=check x:=by
 have hv:yN { x with chain:=c }=yN x:=by
  have h512:has (zh x.op).1 512=true:=by rcases hx with hx | hx<;>rw[hx]<;>decide
  have hr:(zh x.op).2=17:=by rcases hx with hx | hx<;>rw[hx]<;>decide
  unfold yN
  have:=qeO (x:=x) c h512
  simp only[this,hr]
  rfl
 have h1:jr { x with chain:=c }=jr x:=by unfold jr;rw[hv];rfl
 unfold check
 rw[hv]
 have h2:yU { x with chain:=c }=yU x:=rfl
 have h3:Ye { x with chain:=c }=Ye x:=by unfold Ye;rw[h1];rfl
 rw[h1,h2,h3]
theorem q6o{b b':List Int}{x:HI}{n:Nat}(h:decode b=some (x,n))(hx:x.op=39\/x.op=40)(ha:Ag b b' (n-4))(hn:n<=b'.length):decode b'=some ({ x with chain:=le ((b'.drop (n-4)).take 4) },n):=by
 have h4':=jg h hx
 obtain⟨h1,h2,h3,h4,h5⟩:=YR h
 have hop:x.op=(rd b (0,false) 1).1:=by
  have:=congrArg (fun p=>p.1.op) h5
  simp only at this
  rw[qnx,qmp,qm7,q0o]at this
  exact this.symm
 have h512:has (zh (rd b (0,false) 1).1).1 512=true:=by rw[<-hop];rcases hx with hx | hx<;>rw[hx]<;>decide
 have h1024:¬ has (zh (rd b (0,false) 1).1).1 1024=true:=by rw[<-hop];rcases hx with hx | hx<;>rw[hx]<;>decide
 have hV:∀ b s,decV (zh (rd b' (0,false) 1).1).1 b s=s\/True:=fun _ _=>.inr trivial
 generalize hfs:(zh (rd b (0,false) 1).1).1=fs at *
 generalize hs0:(({ op:=(rd b (0,false) 1).1 },(rd b (0,false) 1).2):HI × Rd)=s0 at *
 generalize hsA:decA fs b (decI fs b 8 s0)=sA at *
 have hC:∀ d,decV fs d (decC fs d sA)=({ sA.1 with chain:=(rd d sA.2 4).1 },(rd d sA.2 4).2):=fun d=>by
  unfold decV decC
  rw[if_neg h1024,if_pos h512]
 rw[hC]at h5
 have h6:(rd b sA.2 4).2=(n,false):=congrArg (·.2) h5
 obtain⟨h7,h8⟩:=ZQ (show(rd b sA.2 4).2.2=false by rw[h6])
 rw[h6]at h8
 have h8:n=sA.2.1+4:=h8
 have hloc:=qV.head fs b b' (n-4) s0 ha (by show(decA fs b (decI fs b 8 s0)).2.2=false;rw[hsA];exact h7) (by show(decA fs b (decI fs b 8 s0)).2.1<=n-4;rw[hsA];omega)
 have hA':decA fs b' (decI fs b' 8 s0)=sA:=hloc.1.trans hsA
 have hs01:s0.2.1=1:=by rw[<-hs0];show(rd b (0,false) 1).2.1=1;rw[h1]
 have hup:s0.2.1<=sA.2.1:=by
  have:=hloc.2.2
  have e:(decA fs b (decI fs b 8 s0)).2.1=sA.2.1:=by rw[hsA]
  exact Nat.le_trans this (Nat.le_of_eq e)
 have ho:rd b' (0,false) 1=rd b (0,false) 1:=qui ha (by rw[h1]) (by rw[h1];show 1<=n-4;omega)
 have hrd:rd b' sA.2 4=(le ((b'.drop (n-4)).take 4),(n,false)):=by
  unfold rd
  rw[if_neg om,h7]
  have:n-4=sA.2.1:=by omega
  rw[this,h8]
 refine q4e (by rw[ho];exact h1) (by rw[ho];exact h2) (by rw[ho];exact h3) ((qa9 _ hx).trans h4) ?_
 rw[ho,hfs,hs0,hA',hC,hrd]
 have hx1:({ sA.1 with chain:=(rd b sA.2 4).1 }:HI)=x:=congrArg (·.1) h5
 rw[<-hx1]
def yD(bs:List Int):Nat->List (HI × Nat)->Nat->Prop
 | a,[],b=>a=b
 | a,p::r,b=>p.2=a/\∃ n,decode (bs.drop a)=some (p.1,n)/\a+n<=bs.length/\yD bs (a+n) r b
theorem yD.whole{bs:List Int}:∀ {a:Nat} {l:List (HI × Nat)},Run bs a l↔yD bs a l bs.length
 | _,[]=>Iff.rfl
 | a,p::r=>by
  constructor
  ·rintro⟨h1,n,h2,h3,h4⟩
   exact⟨h1,n,h2,h3,yD.whole.1 h4⟩
  ·rintro⟨h1,n,h2,h3,h4⟩
   exact⟨h1,n,h2,h3,yD.whole.2 h4⟩
theorem yD.append{bs:List Int}:∀ {a:Nat} {l m:List (HI × Nat)} {c:Nat},yD bs a (l++m) c↔∃ b,yD bs a l b/\yD bs b m c
 | a,[],m,c=>⟨fun h=>⟨a,rfl,h⟩,fun⟨b,h1,h2⟩=>by have h1:a=b:=h1;rw[h1];exact h2⟩
 | a,p::l,m,c=>by
  constructor
  ·rintro⟨h1,n,h2,h3,h4⟩
   obtain⟨b,h5,h6⟩:=yD.append.1 h4
   exact⟨b,⟨h1,n,h2,h3,h5⟩,h6⟩
  ·rintro⟨b,⟨h1,n,h2,h3,h5⟩,h6⟩
   exact⟨h1,n,h2,h3,yD.append.2 ⟨b,h5,h6⟩⟩
theorem yD.le{bs:List Int}:∀ {a:Nat} {l:List (HI × Nat)} {b:Nat},yD bs a l b->a<=b
 | _,[],_,h=>Nat.le_of_eq h
 | a,p::l,b,⟨_,n,_,_,h4⟩=>by have:=yD.le h4;omega
theorem yD.congr{bs bs':List Int}(hl:bs.length=bs'.length):∀ {a:Nat} {l:List (HI × Nat)} {b:Nat},yD bs a l b->(∀ i,a<=i->i<b->bs[i]?=bs'[i]?)->yD bs' a l b
 | _,[],_,h,_=>h
 | a,p::l,b,⟨h1,n,h2,h3,h4⟩,he=>by
  have hle:=yD.le h4
  refine⟨h1,n,qqj h2 ⟨?_,?_,fun i hi=>?_⟩,by omega,yD.congr hl h4 fun i h5 h6=>he i om h6⟩
  ·rw[List.length_drop];omega
  ·rw[List.length_drop];omega
  ·rw[List.getElem?_drop,List.getElem?_drop];exact he _ om om
def q23:Bool->List (HI × Nat)->Prop
 | b,[]=>b=true
 | b,p::r=>b=false/\q23 (Yh p.1) r
theorem Yj(out:List (HI × Nat))(x:HI)(a:Nat):zK (out++[(x,a)])=Yh x:=by
 unfold zK
 rw[List.getLast?_append];rfl
theorem q4a{bs:List Int}:∀ (f a:Nat) (out l:List (HI × Nat)),QA bs f a out=some l->a<=bs.length->∃ r,l=out++r/\Run bs a r/\q23 (zK out) r
 | 0,_,_,_,h,_=>by cases h
 | f+1,a,out,l,h,ha=>by
  unfold QA at h
  split at h
  ·rename_i hlt
   split at h
   ·cases h
   ·rename_i x n hd
    split at h
    ·cases h
    ·rename_i hne
     have hl:=vh hd
     rw[List.length_drop]at hl
     obtain⟨r,rfl,hr,hf⟩:=q4a f (a+n) _ l h om
     rw[Yj]at hf
     exact⟨(x,a)::r,by simp,⟨rfl,n,hd,by omega,hr⟩,by simpa using hne,hf⟩
  ·rename_i hlt
   split at h
   ·rename_i he
    cases h;exact⟨[],by simp,by show a=bs.length;omega,he⟩
   ·cases h
theorem qmG{bs:List Int}:∀ (f a:Nat) (out r:List (HI × Nat)),Run bs a r->q23 (zK out) r->bs.length-a<f->a<=bs.length->QA bs f a out=some (out++r)
 | 0,_,_,_,_,_,h,_=>by omega
 | f+1,a,out,[],hr,hf,h,ha=>by
  have hr:a=bs.length:=hr
  have hf:zK out=true:=hf
  unfold QA
  rw[if_neg om,if_pos hf,List.append_nil]
 | f+1,a,out,p::r,⟨h1,n,h2,h3,h4⟩,hf,h,ha=>by
  have hl:=vh h2
  have hf:zK out=false/\q23 (Yh p.1) r:=hf
  unfold QA
  rw[if_pos om,h2]
  dsimp only
  rw[if_neg (by rw[hf.1];decide)]
  rw[qmG f (a+n) (out++[(p.1,a)]) r h4 (by rw[Yj];exact hf.2) om h3,List.append_assoc,<-h1]
  rfl
theorem Jj{bs:List Int}{l:List (HI × Nat)}(h:jk bs=some l):Run bs 0 l/\q23 false l/\bs.length<=65536:=by
 have h65:=q1M h
 unfold jk at h
 rw[if_neg om]at h
 obtain⟨r,hr,h1,h2⟩:=q4a _ _ _ _ h (Nat.zero_le _)
 rw[List.nil_append]at hr
 subst hr
 exact⟨h1,h2,h65⟩
theorem qCE{bs:List Int}{l:List (HI × Nat)}(h1:Run bs 0 l)(h2:q23 false l)(h3:bs.length<=65536):jk bs=some l:=by
 unfold jk
 rw[if_neg om,qmG _ 0 [] l h1 h2 om (Nat.zero_le _)];rfl
theorem q23.congr{p p':HI × Nat}(hp:p.1.op=p'.1.op):∀ {b:Bool} {l1 l2:List (HI × Nat)},q23 b (l1++p::l2)->q23 b (l1++p'::l2)
 | b,[],l2,h=>⟨h.1,by have e:Yh p'.1=Yh p.1:=by(unfold Yh;rw[hp])
                      rw[e];exact h.2⟩
 | b,q::l1,l2,h=>⟨h.1,q23.congr hp h.2⟩
theorem Jw{bs:List Int}{slot:Nat}(c:Int)(h:slot+4<=bs.length):(zI bs slot c).length=bs.length:=by
 unfold zI le4
 simp only[List.length_append,List.length_take,List.length_cons,List.length_nil,List.length_drop]
 omega
theorem qal{bs:List Int}{slot:Nat}(c:Int)(h:slot+4<=bs.length){i:Nat}(hi:i<slot):(zI bs slot c)[i]?=bs[i]?:=by
 unfold zI
 rw[List.append_assoc,List.getElem?_append_left (by rw[List.length_take];omega),List.getElem?_take,if_pos hi]
theorem qu9{bs:List Int}{slot:Nat}(c:Int)(h:slot+4<=bs.length){i:Nat}(hi:slot+4<=i):(zI bs slot c)[i]?=bs[i]?:=by
 unfold zI
 have hl:(bs.take slot++le4 c).length=slot+4:=by
  unfold le4
  simp only[List.length_append,List.length_take,List.length_cons,List.length_nil]
  omega
 rw[List.getElem?_append_right om,hl,List.getElem?_drop]
 congr 1
 omega
theorem qwK{bs:List Int}{slot:Nat}(c:Int)(h:slot+4<=bs.length):((zI bs slot c).drop slot).take 4=le4 c:=by
 unfold zI
 have hl:(bs.take slot).length=slot:=by rw[List.length_take];omega
 rw[List.append_assoc,List.drop_left' hl]
 exact List.take_left' rfl
theorem qIJ{c:Int}(h:jq c):le (le4 c)=c:=by
 obtain⟨h0,h1⟩:=h
 unfold le4
 simp only[le]
 omega
theorem qds{bs:List Int}{l1 l2:List (HI × Nat)}{p:HI × Nat}{n:Nat}{c:Int}(hc:jq c)(h:jk bs=some (l1++p::l2))(hp:p.1.op=39\/p.1.op=40)(hd:decode (bs.drop p.2)=some (p.1,n))(hn:p.2+n<=bs.length) :
  jk (zI bs (p.2+n-4) c)=some (l1++({ p.1 with chain:=c },p.2)::l2):=by
 obtain⟨h1,h2,h3⟩:=Jj h
 have h4:=jg hd hp
 have hs:p.2+n-4+4<=bs.length:=by omega
 have hl:=Jw c hs
 obtain⟨b,r1,r2⟩:=yD.append.1 (yD.whole.1 h1)
 obtain⟨e1,m,e2,e3,e4⟩:=r2
 subst e1
 have hmn:m=n:=by rw[hd]at e2;injection e2 with e2;injection e2 with _ e2;exact e2.symm
 subst hmn
 refine qCE (yD.whole.2 (yD.append.2 ⟨p.2,r1.congr hl.symm fun i _ hi=>(qal c hs om).symm,rfl,m,?_,by omega,?_⟩)) (q23.congr (p:=p) (p':=({ p.1 with chain:=c },p.2)) rfl h2) om
 ·have:=q6o (b':=(zI bs (p.2+m-4) c).drop p.2) hd hp ⟨by rw[List.length_drop];omega,by rw[List.length_drop];omega,fun i hi=>by
   rw[List.getElem?_drop,List.getElem?_drop]
   exact(qal c hs om).symm⟩ (by rw[List.length_drop];omega)
  rw[List.drop_drop]at this
  have e:p.2+(m-4)=p.2+m-4:=by omega
  rw[e,qwK c hs,qIJ hc]at this
  exact this
 ·rw[hl]
  exact e4.congr hl.symm fun i hi _=>(qu9 c hs om).symm
theorem Run.mono{bs:List Int}:∀ {a:Nat} {l:List (HI × Nat)},Run bs a l->(∀ p∈l,a<=p.2)/\l.Pairwise fun p q=>p.2<q.2
 | _,[],_=>⟨by simp,List.Pairwise.nil⟩
 | a,p::r,⟨h1,n,h2,h3,h4⟩=>by
  obtain⟨i1,i2⟩:=Run.mono h4
  have:=vh h2
  refine⟨fun q hq=>?_,List.Pairwise.cons (fun q hq=>by have:=i1 q hq;omega) i2⟩
  rcases List.mem_cons.1 hq with rfl | hq
  ·omega
  ·have:=i1 q hq;omega
theorem Run.ends{bs:List Int}{l:List (HI × Nat)}(h:Run bs 0 l){i j:Nat}{p q:HI × Nat}(hij:i<j)(hi:l[i]?=some p)(hj:l[j]?=some q):jy bs.length l i<jy bs.length l j:=by
 have hp:=(h.mono).2
 obtain⟨m,d1,d2,d3⟩:=h.at hj
 have hm:=vh d1
 have hjl:=(List.getElem?_eq_some_iff.1 hj).1
 have h1:l[i+1]?=some (l[i+1]'om):=List.getElem?_eq_getElem _
 have h2:(l[i+1]'om).2<=q.2:=by
  by_cases e:i+1=j
  ·subst e
   rw[h1]at hj
   injection hj with hj
   rw[hj];exact Nat.le_refl _
  ·have:=List.pairwise_iff_getElem.1 hp (i+1) j om hjl om
   rw[List.getElem?_eq_getElem hjl]at hj
   injection hj with hj
   rw[hj]at this
   omega
 have e1:jy bs.length l i=((l[i+1]'om).2:Int):=by unfold jy;rw[h1]
 rw[e1,d2]
 omega
theorem q9b{α β:Type}{f g:α->Option β}:∀ {l:List α},(∀ x∈l,f x=g x)->l.filterMap f=l.filterMap g
 | [],_=>rfl
 | x::l,h=>by
  rw[List.filterMap_cons,List.filterMap_cons,h x (.head _),q9b fun y hy=>h y (.tail _ hy)]
theorem qaj{bs:List Int}{l:List EX}{e:EX}{c:Int}(hc:jq c)(h:zf bs=some l)(he:e∈l):zf (zI bs e.slot.toNat c)=some (l.map fun x=>if x.slot=e.slot then { x with chain:=c }else x):=by
 obtain⟨al,i,p,n,h1,h2,h3,h4,h5,rfl⟩:=q1o h he
 have hn4:=jg h4 h3
 have hil:=(List.getElem?_eq_some_iff.1 h2).1
 have hsp:al=al.take i++p::al.drop (i+1):=by
  rw[List.getElem?_eq_getElem hil]at h2
  injection h2 with h2
  rw[<-h2]
  simp
 have hli:(al.take i).length=i:=by rw[List.length_take];omega
 have hpat:=qds (l1:=al.take i) (l2:=al.drop (i+1)) (p:=p) (n:=n) hc (by rw[<-hsp];exact h1) h3 h4 h5
 have hslot:(((p.2+n:Nat):Int)-4).toNat=p.2+n-4:=by omega
 obtain⟨hrun,_,_⟩:=Jj h1
 unfold zf at h ⊢
 rw[h1]at h
 dsimp only
 rw[hslot,hpat,Jw c om]
 simp only[Option.map_some,Option.some.injEq]at h ⊢
 subst h
 generalize hal':al.take i++({ p.1 with chain:=c },p.2)::al.drop (i+1)=al'
 have hlen:al'.length=al.length:=by
  rw[<-hal']
  simp only[List.length_append,List.length_take,List.length_cons,List.length_drop]
  omega
 have hat:∀ j,al'[j]?=if j=i then some ({ p.1 with chain:=c },p.2)else al[j]?:=fun j=>by
  rw[<-hal']
  rcases Nat.lt_trichotomy j i with hj | hj | hj
  ·rw[List.getElem?_append_left om,List.getElem?_take,if_pos hj,if_neg om]
  ·subst hj
   rw[List.getElem?_append_right om,hli,Nat.sub_self,if_pos rfl];rfl
  ·rw[List.getElem?_append_right om,hli,if_neg om]
   obtain⟨d,rfl⟩:∃ d,j=i+1+d:=⟨j-(i+1),by omega⟩
   have:i+1+d-i=d+1:=by omega
   rw[this,List.getElem?_cons_succ,List.getElem?_drop]
 have hend:∀ j,jy bs.length al' j=jy bs.length al j:=fun j=>by
  unfold jy
  rw[hat]
  by_cases hj:j+1=i
  ·rw[if_pos hj,hj,h2]
  ·rw[if_neg hj]
 unfold Ju
 rw[hlen,List.map_filterMap]
 refine q9b fun j hj=>?_
 have hj:=List.mem_range.1 hj
 unfold vg
 rw[hat,hend]
 by_cases hji:j=i
 ·subst hji
  rw[if_pos rfl,h2]
  dsimp only
  have hop:¬ ((p.1.op != 39&&p.1.op != 40)=true):=by rcases h3 with h3 | h3<;>rw[h3]<;>decide
  rw[if_neg hop]
  obtain⟨m,d1,d2,_⟩:=hrun.at h2
  have hmn:m=n:=by rw[h4]at d1;injection d1 with d1;injection d1 with _ d1;exact d1.symm
  subst hmn
  rw[if_neg hop]
  simp[d2]
 ·rw[if_neg hji]
  cases hq:al[j]? with
  | none=>rfl
  | some q=>
   dsimp only
   split
   ·rfl
   ·have hne:jy bs.length al j≠((p.2+n:Nat):Int):=by
     obtain⟨m,d1,d2,_⟩:=hrun.at h2
     have hmn:m=n:=by rw[h4]at d1;injection d1 with d1;injection d1 with _ d1;exact d1.symm
     subst hmn
     rw[<-d2]
     rcases Nat.lt_or_gt_of_ne hji with hlt | hgt
     ·have:=hrun.ends hlt hq h2;omega
     ·have:=hrun.ends hgt h2 hq;omega
    simp only[Option.map_some]
    rw[if_neg om]
theorem q7U{bs:List Int}{l:List EX}(h:zf bs=some l):(l.map fun e=>e.slot).Nodup:=by
 unfold zf at h
 cases h1:jk bs with
 | none=>rw[h1]at h;cases h
 | some al=>
  rw[h1]at h
  simp only[Option.map_some,Option.some.injEq]at h
  subst h
  obtain⟨hrun,_,_⟩:=Jj h1
  refine List.pairwise_map.2 ?_
  unfold Ju
  refine List.pairwise_filterMap.2 (List.pairwise_lt_range.imp fun {i j} hij e he e' he'=>?_)
  have key:∀ {i:Nat} {e:EX},vg bs.length al i=some e->∃ p,al[i]?=some p/\e.slot=jy bs.length al i-4:=fun {i e} he=>by
   unfold vg at he
   split at he
   ·cases he
   ·rename_i p hp
    split at he
    ·cases he
    ·cases he;exact⟨p,hp,rfl⟩
  obtain⟨p,hp,e1⟩:=key he
  obtain⟨q,hq,e2⟩:=key he'
  have:=hrun.ends hij hp hq
  omega
abbrev Zv(h:List (Int × List (Int × Int)))(c:Int):List (Int × Int):=(lk h c).getD []
structure y8 (h:List (Int × List (Int × Int))):Prop where
 nd:(keys h).Nodup
 each:∀ c l,lk h c=some l->l≠[]/\l.Nodup
theorem y8.nil:y8 []:=⟨List.nodup_nil,fun c l h=>by cases h⟩
theorem y8.nodup{h:List (Int × List (Int × Int))}(hh:y8 h)(c:Int):(Zv h c).Nodup:=by
 unfold Zv
 cases hl:lk h c with
 | none=>exact List.nodup_nil
 | some l=>exact(hh.each c l hl).2
theorem q3T{V:Type}{m:List (Int × V)}{k:Int}{v:V}(h:(keys m).Nodup):(keys (pt m k v)).Nodup:=by
 by_cases hk:k∈keys m
 ·rw[qo9 v hk];exact h
 ·rw[JL v hk]
  exact List.nodup_append.2 ⟨h,by simp,fun a ha b hb=>by rw[List.mem_singleton.1 hb];rintro rfl;exact hk ha⟩
theorem y8.dl{h:List (Int × List (Int × Int))}(hh:y8 h)(c:Int):y8 (dl h c):=by
 refine⟨by rw[q0N];exact hh.nd.filter _,fun c' l hl=>?_⟩
 rw[qrs]at hl
 split at hl
 ·cases hl
 ·exact hh.each c' l hl
theorem y8.pt{h:List (Int × List (Int × Int))}(hh:y8 h){c:Int}{v:List (Int × Int)}(h1:v≠[])(h2:v.Nodup):y8 (pt h c v):=by
 refine⟨q3T hh.nd,fun c' l hl=>?_⟩
 rw[qmd]at hl
 split at hl
 ·cases hl;exact⟨h1,h2⟩
 ·exact hh.each c' l hl
theorem y8.release{h:List (Int × List (Int × Int))}(hh:y8 h)(p:Int × Int)(c:Int):y8 (zb h p c):=by
 unfold zb
 split
 ·exact hh.dl c
 ·rename_i hne
  exact hh.pt hne ((hh.nodup c).filter _)
theorem y8.hold{h:List (Int × List (Int × Int))}(hh:y8 h)(p:Int × Int)(c:Int):y8 (q0a h p c):=by
 unfold q0a
 split
 ·exact hh
 ·split
  ·rename_i hm
   exact hh.pt (List.ne_nil_of_mem hm) (hh.nodup c)
  ·rename_i hm
   exact hh.pt (by simp) (List.nodup_append.2 ⟨hh.nodup c,by simp,fun a ha b hb=>by rw[List.mem_singleton.1 hb];rintro rfl;exact hm ha⟩)
theorem vp(h:List (Int × List (Int × Int)))(p:Int × Int)(c c':Int)(q:Int × Int):q∈Zv (zb h p c) c'↔q∈Zv h c'/\¬ (c'=c/\q=p):=by
 unfold zb Zv
 split
 ·rename_i he
  rw[qrs]
  by_cases hc:c'=c
  ·subst hc
   rw[if_pos rfl]
   have:=List.filter_eq_nil_iff.1 he q
   constructor
   ·intro hh;cases hh
   ·rintro⟨h1,h2⟩
    have:=this h1
    simp at this
    exact absurd ⟨rfl,this⟩ h2
  ·rw[if_neg hc]
   exact⟨fun hh=>⟨hh,fun h2=>hc h2.1⟩,fun hh=>hh.1⟩
 ·rw[qmd]
  by_cases hc:c'=c
  ·subst hc
   rw[if_pos rfl]
   show q∈List.filter _ _↔_
   rw[List.mem_filter]
   simp
  ·rw[if_neg hc]
   exact⟨fun hh=>⟨hh,fun h2=>hc h2.1⟩,fun hh=>hh.1⟩
theorem qwl(h:List (Int × List (Int × Int)))(p:Int × Int){c:Int}(hc0:c≠0)(c':Int)(q:Int × Int):q∈Zv (q0a h p c) c'↔q∈Zv h c'\/(c'=c/\q=p):=by
 unfold q0a Zv
 rw[if_neg hc0,qmd]
 by_cases hc:c'=c
 ·subst hc
  rw[if_pos rfl]
  show q∈(if _ then _ else _)↔_
  split
  ·rename_i hm
   constructor
   ·exact Or.inl
   ·rintro(hh | ⟨_,rfl⟩)
    ·exact hh
    ·exact hm
  ·rw[List.mem_append,List.mem_singleton]
   simp
 ·rw[if_neg hc]
  constructor
  ·exact Or.inl
  ·rintro(hh | ⟨h1,_⟩)
   ·exact hh
   ·exact absurd h1 hc
structure qQ (s:qc):Prop where
 dec:∀ id∈keys s.items,∃ l,zf (qj s.items id).code=some l
 up:∀ id∈keys s.items,∀ e∈qC s.items id,e.chain≠0->e.chain∈keys s.items/\(qj s.items e.chain).at_=e.to/\vA e=true
 held:∀ c p,p∈Zv s.hold c↔c≠0/\p.1∈keys s.items/\∃ e∈qC s.items p.1,e.slot=p.2/\e.chain=c
 ok:y8 s.hold
theorem vV{items:List (Int × TR)}{id:Int}{l:List EX}(h:zf (qj items id).code=some l):qC items id=l:=by unfold qC;rw[h];rfl
theorem q5A{items:List (Int × TR)}{p:Int × Int}{c:Int}(hc:jq c){l:List EX}(hl:zf (qj items p.1).code=some l){e:EX}(he:e∈qC items p.1)(hs:e.slot=p.2)(x:Int) :
  zf (qj (ze items p c) x).code=if x=p.1 then some ((qC items p.1).map fun y=>if y.slot=p.2 then { y with chain:=c }else y)else zf (qj items x).code:=by
 rw[QQ]
 split
 ·rename_i hx
  subst hx
  have hel:e∈l:=by rw[vV hl]at he;exact he
  have hany:(l.any fun y=>y.slot==p.2)=true:=List.any_eq_true.2 ⟨e,hel,by simpa using hs⟩
  show zf (ju (qj items p.1).code p.2 c)=_
  unfold ju
  rw[hl]
  dsimp only
  rw[if_pos hany,<-hs,qaj hc hl hel,vV hl]
 ·rfl
theorem Qj{items:List (Int × TR)}{id:Int}{l:List EX}(hl:zf (qj items id).code=some l){e f:EX}(he:e∈qC items id)(hf:f∈qC items id)(hs:e.slot=f.slot):e=f:=by
 rw[vV hl]at he hf
 have hn:=q7U hl
 obtain⟨i,hi,rfl⟩:=List.mem_iff_getElem.1 he
 obtain⟨j,hj,rfl⟩:=List.mem_iff_getElem.1 hf
 have hi':i<(l.map fun e=>e.slot).length:=by rw[List.length_map];exact hi
 have hj':j<(l.map fun e=>e.slot).length:=by rw[List.length_map];exact hj
 have:(l.map fun e=>e.slot)[i]=(l.map fun e=>e.slot)[j]:=by rw[List.getElem_map,List.getElem_map];exact hs
 have:=(List.getElem_inj hn).1 this
 subst this;rfl
theorem qQ.step{s:qc}(h:qQ s){p:Int × Int}{c:Int}(hc:jq c){e:EX}(hp:p.1∈keys s.items)(he:e∈qC s.items p.1)(hs:e.slot=p.2)(hto:c≠0->c∈keys s.items/\(qj s.items c).at_=e.to/\vA e=true)
  {hold':List (Int × List (Int × Int))} (hok:y8 hold') (hh:∀ c' q,q∈Zv hold' c'↔if q=p then c'=c/\c≠0 else q∈Zv s.hold c') :
  qQ { s with items:=ze s.items p c,hold:=hold' }:=by
 obtain⟨l,hl⟩:=h.dec p.1 hp
 have hk:keys (ze s.items p c)=keys s.items:=jT c hp
 have hat:∀ x,(qj (ze s.items p c) x).at_=(qj s.items x).at_:=(Jc.patch c hp).at_
 have hx:=q5A hc hl he hs
 have hex:∀ x,qC (ze s.items p c) x=if x=p.1 then(qC s.items p.1).map fun y=>if y.slot=p.2 then { y with chain:=c }else y else qC s.items x:=fun x=>by
  unfold qC
  rw[hx x]
  split
  ·rfl
  ·rfl
 refine⟨fun id hid=>?_,fun id hid f hf hf0=>?_,fun c' q=>?_,hok⟩
 ·have hid:id∈keys s.items:=by rw[<-hk];exact hid
  show ∃ l,zf (qj (ze s.items p c) id).code=some l
  rw[hx id]
  split
  ·exact⟨_,rfl⟩
  ·exact h.dec id hid
 ·have hid:id∈keys s.items:=by rw[<-hk];exact hid
  have hf:f∈qC (ze s.items p c) id:=hf
  show f.chain∈keys (ze s.items p c)/\(qj (ze s.items p c) f.chain).at_=f.to/\_
  rw[hk,hat]
  rw[hex id]at hf
  split at hf
  ·rename_i hi
   obtain⟨g,hg,rfl⟩:=List.mem_map.1 hf
   by_cases hgs:g.slot=p.2
   ·have hge:g=e:=Qj hl hg he (hgs.trans hs.symm)
    subst hge
    rw[if_pos hgs]at hf0 ⊢
    exact hto hf0
   ·rw[if_neg hgs]at hf0 ⊢
    exact h.up p.1 hp g hg hf0
  ·exact h.up id hid f hf hf0
 ·show q∈Zv hold' c'↔c'≠0/\q.1∈keys (ze s.items p c)/\∃ f∈qC (ze s.items p c) q.1,f.slot=q.2/\f.chain=c'
  rw[hh,hk,hex]
  by_cases hqp:q=p
  ·subst hqp
   rw[if_pos rfl,if_pos rfl]
   constructor
   ·rintro⟨rfl,h0⟩
    exact⟨h0,hp,{ e with chain:=c' },List.mem_map.2 ⟨e,he,by rw[if_pos hs]⟩,hs,rfl⟩
   ·rintro⟨h0,_,f,hf,hf1,hf2⟩
    obtain⟨g,hg,rfl⟩:=List.mem_map.1 hf
    by_cases hgs:g.slot=q.2
    ·rw[if_pos hgs]at hf2
     exact⟨hf2.symm,by rw[show c=c' from hf2];exact h0⟩
    ·rw[if_neg hgs]at hf1;exact absurd hf1 hgs
  ·rw[if_neg hqp,h.held]
   split
   ·rename_i hq1
    constructor
    ·rintro⟨h0,h1,f,hf,hf1,hf2⟩
     rw[hq1]at hf
     have hne:f.slot≠p.2:=fun hh=>hqp (Prod.ext hq1 (hf1.symm.trans hh))
     exact⟨h0,h1,f,List.mem_map.2 ⟨f,hf,by rw[if_neg hne]⟩,hf1,hf2⟩
    ·rintro⟨h0,h1,f,hf,hf1,hf2⟩
     obtain⟨g,hg,rfl⟩:=List.mem_map.1 hf
     have hgs:g.slot≠p.2:=fun hh=>by
      rw[if_pos hh]at hf1
      exact hqp (Prod.ext hq1 (hf1.symm.trans hh))
     rw[if_neg hgs]at hf1 hf2
     exact⟨h0,h1,g,by rw[hq1];exact hg,hf1,hf2⟩
   ·exact Iff.rfl
theorem qQ.one{s:qc}(h:qQ s){c c':Int}{p:Int × Int}(h1:p∈Zv s.hold c)(h2:p∈Zv s.hold c'):c=c':=by
 obtain⟨_,hp,e,he,hs,hc⟩:=(h.held c p).1 h1
 obtain⟨_,_,f,hf,ht,hd⟩:=(h.held c' p).1 h2
 obtain⟨l,hl⟩:=h.dec p.1 hp
 have:=Qj hl he hf (hs.trans ht.symm)
 rw[<-hc,<-hd,this]
theorem qQ.free1{s:qc}(h:qQ s){p:Int × Int}{id:Int}(hp:p∈Zv s.hold id):qQ { s with items:=ze s.items p 0,hold:=zb s.hold p id }:=by
 obtain⟨h0,h1,e,he,hs,hc⟩:=(h.held id p).1 hp
 refine h.step (c:=0) Vk h1 he hs (fun hh=>absurd rfl hh) (h.ok.release p id) fun c' q=>?_
 rw[vp]
 by_cases hqp:q=p
 ·subst hqp
  rw[if_pos rfl]
  constructor
  ·rintro⟨h2,h3⟩
   exact absurd ⟨h.one h2 hp,rfl⟩ h3
  ·rintro⟨_,hh⟩;exact absurd rfl hh
 ·rw[if_neg hqp]
  exact⟨fun hh=>hh.1,fun hh=>⟨hh,fun hx=>hqp hx.2⟩⟩
theorem qQ.free{id:Int}:∀ {order:List (Int × Int)} {s:qc},qQ s->order.Nodup->(∀ p∈order,p∈Zv s.hold id)->qQ (qP id order s)/\∀ c q,q∈Zv (qP id order s).hold c↔q∈Zv s.hold c/\¬ (c=id/\q∈order)
 | [],s,h,_,_=>⟨h,fun c q=>⟨fun hh=>⟨hh,fun hx=>by cases hx.2⟩,fun hh=>hh.1⟩⟩
 | p::order,s,h,hn,ho=>by
  have hn:=List.nodup_cons.1 hn
  have h1:=h.free1 (ho p (.head _))
  obtain⟨a,b⟩:=qQ.free (id:=id) (order:=order) h1 hn.2 fun q hq=>by
   show q∈Zv (zb s.hold p id) id
   rw[vp]
   exact⟨ho q (.tail _ hq),fun hx=>hn.1 (hx.2▸hq)⟩
  refine⟨a,fun c q=>?_⟩
  refine(b c q).trans ?_
  show q∈Zv (zb s.hold p id) c/\_↔_
  rw[vp,List.mem_cons]
  constructor
  ·rintro⟨⟨h2,h3⟩,h4⟩
   exact⟨h2,fun hx=>hx.2.elim (fun e=>h3 ⟨hx.1,e⟩) fun e=>h4 ⟨hx.1,e⟩⟩
  ·rintro⟨h2,h3⟩
   exact⟨⟨h2,fun hx=>h3 ⟨hx.1,.inl hx.2⟩⟩,fun hx=>h3 ⟨hx.1,.inr hx.2⟩⟩
theorem YA{id:Int}:∀ {l:List EX} {s:qc},y8 s.hold->y8 (qM id l s).hold/\∀ c q,q∈Zv (qM id l s).hold c↔q∈Zv s.hold c/\¬ ∃ x∈l,x.chain≠0/\c=x.chain/\q=(id,x.slot)
 | [],s,h=>⟨h,fun c q=>⟨fun hh=>⟨hh,fun⟨x,hx,_⟩=>by cases hx⟩,fun hh=>hh.1⟩⟩
 | x::l,s,h=>by
  unfold qM
  split
  ·rename_i hx0
   obtain⟨a,b⟩:=YA (id:=id) (l:=l) (s:=s) h
   refine⟨a,fun c q=>(b c q).trans ?_⟩
   constructor
   ·rintro⟨h1,h2⟩
    refine⟨h1,fun⟨y,hy,hy0,hy1⟩=>?_⟩
    rcases List.mem_cons.1 hy with rfl | hy
    ·exact hy0 hx0
    ·exact h2 ⟨y,hy,hy0,hy1⟩
   ·rintro⟨h1,h2⟩
    exact⟨h1,fun⟨y,hy,hy0⟩=>h2 ⟨y,.tail _ hy,hy0⟩⟩
  ·rename_i hx0
   obtain⟨a,b⟩:=YA (id:=id) (l:=l) (s:={ s with hold:=zb s.hold (id,x.slot) x.chain }) (h.release _ _)
   refine⟨a,fun c q=>(b c q).trans ?_⟩
   show q∈Zv (zb s.hold (id,x.slot) x.chain) c/\_↔_
   rw[vp]
   constructor
   ·rintro⟨⟨h1,h3⟩,h2⟩
    refine⟨h1,fun⟨y,hy,hy0,hy1⟩=>?_⟩
    rcases List.mem_cons.1 hy with rfl | hy
    ·exact h3 hy1
    ·exact h2 ⟨y,hy,hy0,hy1⟩
   ·rintro⟨h1,h2⟩
    exact⟨⟨h1,fun hx=>h2 ⟨x,.head _,hx0,hx⟩⟩,fun⟨y,hy,hy0⟩=>h2 ⟨y,.tail _ hy,hy0⟩⟩
theorem qQ.forget1{s:qc}(h:qQ s){id:Int}{order:List (Int × Int)}(ho:order.Perm (Zv s.hold id)):qQ (Ch.forget1 order s id):=by
 obtain⟨f1,f2⟩:=h.free (id:=id) (ho.nodup_iff.2 (h.ok.nodup id)) fun p hp=>ho.mem_iff.1 hp
 obtain⟨a1,a2,a3⟩:=jS id (qC (qP id order s).items id) (qP id order s)
 obtain⟨d1,d2⟩:=YA (id:=id) (l:=qC (qP id order s).items id) f1.ok
 unfold Ch.forget1
 dsimp only
 generalize hs1:qP id order s=s1 at *
 have hfree:∀ q,q ∉ Zv s1.hold id:=fun q hq=>by
  have:=(f2 id q).1 hq
  exact this.2 ⟨rfl,ho.mem_iff.2 this.1⟩
 have hitem:∀ x,x≠id->qj (dl (qM id (qC s1.items id) s1).items id) x=qj s1.items x:=fun x hx=>by rw[QH _ hx,a1]
 have hkey:∀ x,x∈keys (dl (qM id (qC s1.items id) s1).items id)↔x∈keys s1.items/\x≠id:=fun x=>by rw[q0N,a1];simp
 have hex:∀ x,x≠id->qC (dl (qM id (qC s1.items id) s1).items id) x=qC s1.items x:=fun x hx=>congrArg (fun t:TR=>(zf t.code).getD []) (hitem x hx)
 refine⟨fun x hx=>?_,fun x hx e he h0=>?_,fun c p=>?_,d1⟩
 ·have hx:=(hkey x).1 hx
  show ∃ l,zf (qj (dl _ id) x).code=some l
  rw[hitem x hx.2]
  exact f1.dec x hx.1
 ·have hx:=(hkey x).1 hx
  have he:e∈qC (dl (qM id (qC s1.items id) s1).items id) x:=he
  rw[hex x hx.2]at he
  obtain⟨g1,g2,g3⟩:=f1.up x hx.1 e he h0
  have hne:e.chain≠id:=fun hh=>hfree (x,e.slot) ((f1.held id (x,e.slot)).2 ⟨by rw[<-hh];exact h0,hx.1,e,he,rfl,hh⟩)
  refine⟨(hkey _).2 ⟨g1,hne⟩,?_,g3⟩
  show(qj (dl _ id) e.chain).at_=_
  rw[hitem _ hne];exact g2
 ·show p∈Zv (qM id (qC s1.items id) s1).hold c↔c≠0/\p.1∈keys (dl (qM id (qC s1.items id) s1).items id)/\_
  rw[d2,f1.held,hkey]
  constructor
  ·rintro⟨⟨g0,g1,e,he,hs,hc⟩,hno⟩
   have hne:p.1≠id:=fun hh=>by
    rw[hh]at he
    exact hno ⟨e,he,by rw[hc];exact g0,hc.symm,Prod.ext hh hs.symm⟩
   refine⟨g0,⟨g1,hne⟩,e,?_,hs,hc⟩
   show e∈qC (dl _ id) p.1
   rw[hex _ hne];exact he
  ·rintro⟨g0,⟨g1,hne⟩,e,he,hs,hc⟩
   have he:e∈qC (dl (qM id (qC s1.items id) s1).items id) p.1:=he
   rw[hex _ hne]at he
   exact⟨⟨g0,g1,e,he,hs,hc⟩,fun⟨x,_,_,_,hx⟩=>hne (by rw[hx])⟩
theorem QZ:JP qQ:=
 ⟨fun s id _ hq p hp=>((hq.held id p).1 hp).2.1,fun s id order _ hq _ ho=>hq.forget1 ho,fun s c hq=>⟨hq.dec,hq.up,hq.held,hq.ok⟩,fun s e hq=>⟨hq.dec,hq.up,hq.held,hq.ok⟩⟩
theorem qQ.setDr{s:qc}(h:qQ s)(e:Int):qQ { s with dr:=e }:=⟨h.dec,h.up,h.held,h.ok⟩
theorem qQ.new(n:Nat)(len:Int)(k:Nat):qQ (vM n len k):=by
 refine⟨fun id hid=>(by cases hid),fun id hid=>(by cases hid),fun c p=>?_,y8.nil⟩
 constructor
 ·intro hh;cases hh
 ·rintro⟨_,h1,_⟩;cases h1
theorem qQ.add{s:qc}{t:TR}(h:qQ s){l:List EX}(hl:zf t.code=some l)(h0:∀ e∈l,e.chain=0)(hk:keys (zP s t).items=keys s.items++[s.given+1])(ho:∀ x∈keys s.items,qj (zP s t).items x=qj s.items x)(hn:qj (zP s t).items (s.given+1)=t)(hnew:s.given+1 ∉ keys s.items):qQ (zP s t):=by
 have hmem:∀ x,x∈keys (zP s t).items↔x∈keys s.items\/x=s.given+1:=fun x=>by rw[hk];simp
 have hex:∀ x∈keys s.items,qC (zP s t).items x=qC s.items x:=fun x hx=>by unfold qC;rw[ho x hx]
 have hexn:qC (zP s t).items (s.given+1)=l:=by unfold qC;rw[hn,hl];rfl
 refine⟨fun x hx=>?_,fun x hx e he he0=>?_,fun c p=>?_,h.ok⟩
 ·rcases(hmem x).1 hx with hx | rfl
  ·rw[ho x hx];exact h.dec x hx
  ·rw[hn];exact⟨l,hl⟩
 ·rcases(hmem x).1 hx with hx | rfl
  ·rw[hex x hx]at he
   obtain⟨g1,g2,g3⟩:=h.up x hx e he he0
   exact⟨(hmem _).2 (.inl g1),by rw[ho _ g1];exact g2,g3⟩
  ·rw[hexn]at he
   exact absurd (h0 e he) he0
 ·show p∈Zv s.hold c↔_
  rw[h.held]
  constructor
  ·rintro⟨g0,g1,e,he,hs⟩
   exact⟨g0,(hmem _).2 (.inl g1),e,by rw[hex _ g1];exact he,hs⟩
  ·rintro⟨g0,g1,e,he,hs⟩
   rcases(hmem _).1 g1 with g1 | g1
   ·exact⟨g0,g1,e,by rw[<-hex _ g1];exact he,hs⟩
   ·rw[g1,hexn]at he
    exact absurd (hs.2.symm.trans (h0 e he)) g0
theorem qU.akin{s:qc}(h:qU s){items:List (Int × TR)}(ha:Jc items s.items)(hold:List (Int × List (Int × Int))):qU { s with items:=items,hold:=hold }:=by
 have hlen:items.length=s.items.length:=by rw[<-qH,<-qH s.items,ha.keys]
 refine⟨h.k4,h.k16,?_,?_,?_,?_,?_,?_,?_,h.cur,h.rl,h.ev,h.dr,?_,h.given,h.len,?_⟩
 ·show(keys items).Nodup
  rw[ha.keys];exact h.nd
 ·show ∀ x∈keys items,_
  rw[ha.keys];exact h.pos
 ·show ∀ x∈keys items,∀ y∈keys items,(qj items x).at_=(qj items y).at_->x=y
  rw[ha.keys]
  intro x hx y hy he
  rw[ha.at_,ha.at_]at he
  exact h.ats x hx y hy he
 ·show ∀ x∈keys items,jq (qj items x).at_
  rw[ha.keys]
  intro x hx
  rw[ha.at_];exact h.atw x hx
 ·show Tab (2 ^ s.k) s.table (fun x=>x∈keys items) (Z9 s.k items)
  rw[ha.keys]
  exact h.tab.congr (fun _=>Iff.rfl) fun x _=>by unfold Z9;rw[ha.at_]
 ·show items.length<=_
  rw[hlen];exact h.lim
 ·show s.rows.flatten.Perm (keys items)
  rw[ha.keys];exact h.rows
 ·show(items.length:Int)+s.ev+s.dr<=s.given
  rw[hlen];exact h.sum
 ·intro r hr
  show qB items r<=s.len
  exact Int.le_trans (q2H fun x _=>ha.code x) (h.fill r hr)
theorem qU.look_is{s:qc}(h:qU s){a:Int}(h0:(zO s a).1≠0):(zO s a).1∈keys s.items/\(qj s.items (zO s a).1).at_=a:=by
 obtain⟨x,hx,ha⟩:=(h.look_iff a).1 h0
 obtain⟨i,_,_,_,e⟩:=h.look_some hx ha
 rw[e]
 exact⟨hx,ha⟩
theorem QI{s:qc}{id slot:Int}(h:¬ (zA s id slot).2≠0):id∈keys s.items/\(zA s id slot).1∈qC s.items id/\(zA s id slot).1.slot=slot:=by
 unfold zA at h ⊢
 split at h
 ·exact absurd (by simp) h
 ·rename_i t ht
  split at h
  ·exact absurd (by simp) h
  ·rename_i e he
   exact⟨q7l.2 ⟨t,ht⟩,List.mem_of_find?_eq_some he,by simpa using List.find?_some he⟩
theorem qce{s:qc}(hb:qU s)(hc:qQ s)(id slot:Int):qU (zH s id slot).1/\qQ (zH s id slot).1:=by
 unfold zH
 split
 ·exact⟨hb,hc⟩
 ·rename_i h0
  obtain⟨h1,h2,h3⟩:=QI h0
  split
  ·exact⟨hb,hc⟩
  ·rename_i hno
   have hn1:=fun hh=>hno (.inl hh)
   have hn2:vA (zA s id slot).1=true:=by
    cases hcf:vA (zA s id slot).1 with
    | true=>rfl
    | false=>exact absurd (.inr hcf) hno
   obtain⟨g1,g2⟩:=hb.look_is hn1
   have hw:jq (zO s (zA s id slot).1.to).1:=by
    have:=hb.pos _ g1
    have:=hb.given
    exact⟨by omega,by omega⟩
   refine⟨hb.akin (Jc.patch _ h1) _,?_⟩
   refine hc.step (p:=(id,slot)) hw h1 h2 h3 (fun _=>⟨g1,g2,hn2⟩) (hc.ok.hold _ _) fun c' q=>?_
   rw[qwl _ _ hn1]
   by_cases hqp:q=(id,slot)
   ·subst hqp
    rw[if_pos rfl]
    constructor
    ·rintro(hh | ⟨hh,_⟩)
     ·obtain⟨k0,k1,f,kf,ks,kc⟩:=(hc.held _ _).1 hh
      obtain⟨l,hl⟩:=hc.dec id h1
      have:f=(zA s id slot).1:=Qj hl kf h2 (ks.trans h3.symm)
      subst this
      obtain⟨m1,m2,_⟩:=hc.up id h1 _ h2 (by rw[kc];exact k0)
      rw[kc]at m1 m2
      exact⟨hb.ats _ m1 _ g1 (m2.trans g2.symm),hn1⟩
     ·exact⟨hh,hn1⟩
    ·rintro⟨hh,_⟩;exact .inr ⟨hh,rfl⟩
   ·rw[if_neg hqp]
    constructor
    ·rintro(hh | ⟨_,hh⟩)
     ·exact hh
     ·exact absurd hh hqp
    ·exact Or.inl
theorem q3Y{s:qc}(hb:qU s)(hc:qQ s)(id slot:Int):qU (zp s id slot).1/\qQ (zp s id slot).1:=by
 unfold zp
 split
 ·exact⟨hb,hc⟩
 ·rename_i h0
  obtain⟨h1,h2,h3⟩:=QI h0
  refine⟨hb.akin (Jc.patch _ h1) _,?_⟩
  refine hc.step (p:=(id,slot)) Vk h1 h2 h3 (fun hh=>absurd rfl hh) (hc.ok.release _ _) fun c' q=>?_
  rw[vp]
  by_cases hqp:q=(id,slot)
  ·subst hqp
   rw[if_pos rfl]
   constructor
   ·rintro⟨hh,hno⟩
    obtain⟨k0,k1,f,kf,ks,kc⟩:=(hc.held _ _).1 hh
    obtain⟨l,hl⟩:=hc.dec id h1
    have:f=(zA s id slot).1:=Qj hl kf h2 (ks.trans h3.symm)
    subst this
    exact absurd ⟨kc.symm,rfl⟩ hno
   ·rintro⟨_,hh⟩;exact absurd rfl hh
  ·rw[if_neg hqp]
   exact⟨fun hh=>hh.1,fun hh=>⟨hh,fun hx=>hqp hx.2⟩⟩
def yF(R:Int->TR->Prop):Prop:=∀ (x:Int) (t:TR) (l:List EX) (e:EX) (c:Int),R x t->jq c->zf t.code=some l->e∈l->R x { t with code:=zI t.code e.slot.toNat c }
def VT(R:Int->TR->Prop)(s:qc):Prop:=∀ x∈keys s.items,R x (qj s.items x)
variable {R:Int->TR->Prop}
theorem VT.patch(hR:yF R){s:qc}(hc:qQ s)(h:VT R s){p:Int × Int}{c:Int}(hw:jq c)(hp:p.1∈keys s.items){e:EX}(he:e∈qC s.items p.1)(hs:e.slot=p.2)(hold:List (Int × List (Int × Int))):VT R { s with items:=ze s.items p c,hold:=hold }:=by
 intro x hx
 have hx:x∈keys (ze s.items p c):=hx
 rw[jT c hp]at hx
 show R x (qj (ze s.items p c) x)
 rw[QQ]
 split
 ·rename_i hxp
  subst hxp
  obtain⟨l,hl⟩:=hc.dec p.1 hp
  have hel:e∈l:=by rw[vV hl]at he;exact he
  have hany:(l.any fun y=>y.slot==p.2)=true:=List.any_eq_true.2 ⟨e,hel,by simpa using hs⟩
  have e1:ju (qj s.items p.1).code p.2 c=zI (qj s.items p.1).code e.slot.toNat c:=by
   unfold ju
   rw[hl]
   dsimp only
   rw[if_pos hany,hs]
  rw[e1]
  exact hR p.1 _ l e c (h p.1 hp) hw hl hel
 ·exact h x hx
theorem VT.free(hR:yF R){id:Int}:∀ {order:List (Int × Int)} {s:qc},qQ s->VT R s->order.Nodup->(∀ p∈order,p∈Zv s.hold id)->VT R (qP id order s)
 | [],s,_,h,_,_=>h
 | p::order,s,hc,h,hn,ho=>by
  have hn:=List.nodup_cons.1 hn
  obtain⟨h0,h1,e,he,hs,_⟩:=(hc.held id p).1 (ho p (.head _))
  refine VT.free hR (id:=id) (order:=order) (hc.free1 (ho p (.head _))) (VT.patch hR hc h Vk h1 he hs _) hn.2 fun q hq=>?_
  show q∈Zv (zb s.hold p id) id
  rw[vp]
  exact⟨ho q (.tail _ hq),fun hx=>hn.1 (hx.2▸hq)⟩
theorem VT.forget1(hR:yF R){s:qc}(hc:qQ s)(h:VT R s){id:Int}{order:List (Int × Int)}(ho:order.Perm (Zv s.hold id)):VT R (Ch.forget1 order s id):=by
 have hf:=VT.free hR (id:=id) hc h (ho.nodup_iff.2 (hc.ok.nodup id)) fun p hp=>ho.mem_iff.1 hp
 obtain⟨a1,_,_⟩:=jS id (qC (qP id order s).items id) (qP id order s)
 unfold Ch.forget1
 dsimp only
 intro x hx
 have hx:x∈keys (dl (qM id (qC (qP id order s).items id) (qP id order s)).items id):=hx
 rw[q0N,a1]at hx
 obtain⟨hx,hne⟩:=List.mem_filter.1 hx
 have hne:x≠id:=by simpa using hne
 show R x (qj (dl _ id) x)
 rw[QH _ hne,a1]
 exact hf x hx
structure QR (R:Int->TR->Prop) (s:qc):Prop where
 ch:qQ s
 all:VT R s
theorem q15(hR:yF R):JP (QR R):=
 ⟨fun s id hb hq p hp=>QZ.places s id hb hq.ch p hp,fun s id order hb hq hid ho=>⟨hq.ch.forget1 ho,hq.all.forget1 hR hq.ch ho⟩,fun s c hq=>⟨QZ.cur s c hq.ch,hq.all⟩,fun s e hq=>⟨QZ.ev s e hq.ch,hq.all⟩⟩
theorem QR.setDr{s:qc}(h:QR R s)(e:Int):QR R { s with dr:=e }:=⟨h.ch.setDr e,h.all⟩
theorem qhM(hR:yF R){s:qc}(hb:qU s)(h:QR R s)(id slot:Int):qU (zH s id slot).1/\QR R (zH s id slot).1:=by
 obtain⟨h1,h2⟩:=qce hb h.ch id slot
 refine⟨h1,h2,?_⟩
 unfold zH
 split
 ·exact h.all
 ·rename_i h0
  obtain⟨g1,g2,g3⟩:=QI h0
  split
  ·exact h.all
  ·rename_i hno
   have hn1:=fun hh=>hno (.inl hh)
   obtain⟨k1,_⟩:=hb.look_is hn1
   have:=hb.pos _ k1
   have:=hb.given
   exact h.all.patch hR h.ch (p:=(id,slot)) ⟨by omega,by omega⟩ g1 g2 g3 _
theorem q7u(hR:yF R){s:qc}(hb:qU s)(h:QR R s)(id slot:Int):qU (zp s id slot).1/\QR R (zp s id slot).1:=by
 obtain⟨h1,h2⟩:=q3Y hb h.ch id slot
 refine⟨h1,h2,?_⟩
 unfold zp
 split
 ·exact h.all
 ·rename_i h0
  obtain⟨g1,g2,g3⟩:=QI h0
  exact h.all.patch hR h.ch (p:=(id,slot)) Vk g1 g2 g3 _
theorem q4S{s:qc}{t:TR}(h:yu s t=0):(∃ l,zf t.code=some l/\∀ e∈l,e.chain=0)/\zZ t.sp=true/\(zO s t.at_).1=0/\(t.code.length:Int)<=s.len/\s.given≠2147483647:=by
 unfold yu at h
 cases hx:zf t.code with
 | none=>rw[hx]at h;cases h
 | some l=>
  rw[hx]at h
  dsimp only at h
  by_cases h1:zZ t.sp=false\/(l.any fun e=>e.chain != 0)=true
  ·rw[if_pos h1]at h;cases h
  ·rw[if_neg h1]at h
   by_cases h2:(zO s t.at_).1≠0
   ·rw[if_pos h2]at h;cases h
   ·rw[if_neg h2]at h
    by_cases h3:(t.code.length:Int) > s.len\/s.given=2147483647
    ·rw[if_pos h3]at h;cases h
    ·have ha:zZ t.sp=true:=by
      cases hs:zZ t.sp with
      | true=>rfl
      | false=>exact absurd (.inl hs) h1
     refine⟨⟨l,rfl,fun e he=>Classical.byContradiction fun hne=>h1 (.inr (List.any_eq_true.2 ⟨e,he,by simpa using hne⟩))⟩,ha,Classical.not_not.1 h2,?_,fun hh=>h3 (.inr hh)⟩
     have:=fun hh=>h3 (.inl hh)
     omega
structure q0R (R:Int->TR->Prop) (s:qc) (t:TR) (gone:List Int) (s1:qc):Prop where
 base1:qU s1
 q1:QR R s1
 left:vl s s1 gone
 full:jp s1 t.code.length=false
 cnt:s1.items.length+gone.length=s.items.length
 ev:s1.ev=s.ev+gone.length
 giv:s1.given=s.given
 base:qU (zP s1 t)
 ch:qQ (zP s1 t)
 keys:keys (zP s1 t).items=keys s1.items++[s1.given+1]
 old:∀ x∈Ch.keys s1.items,qj (zP s1 t).items x=qj s1.items x
 new:qj (zP s1 t).items (s1.given+1)=t
 fresh:s1.given+1 ∉ Ch.keys s1.items
theorem quU(hR:yF R){s s1:qc}{t:TR}{gone:List Int}(hb:qU s)(hq:QR R s)(ha:jq t.at_)(h0:yu s t=0)(hE:yg t.code.length s gone s1):q0R R s t gone s1:=by
 obtain⟨⟨l,hl,hl0⟩,hsp,hlk,hlen,hgv⟩:=q4S h0
 obtain⟨b1,q1,L,hf,hc,hev⟩:=hE.keep (q15 hR) hb hq
 have hcf:=hE.conf
 have hgiv:=hb.given
 have hfr:∀ x∈keys s1.items,(qj s1.items x).at_≠t.at_:=fun x hx he=>by
  obtain⟨hx1,hx2⟩:=L.mem.1 hx
  rw[L.at_ x hx2]at he
  exact(hb.look_iff t.at_).2 ⟨x,hx1,he⟩ hlk
 obtain⟨c1,c2,c3,c4,c5⟩:=b1.add hf ha hfr (by rw[hcf.2.2.1];omega)
 exact⟨b1,q1,L,hf,hc,hev,hcf.2.2.1,c1,q1.ch.add hl hl0 c2 c3 c4 c5,c2,c3,c4,c5⟩
theorem q0R.all{s s1:qc}{t:TR}{gone:List Int}(h:q0R R s t gone s1)(ht:R (s1.given+1) t):QR R (zP s1 t):=by
 refine⟨h.ch,fun x hx=>?_⟩
 rw[h.keys]at hx
 rcases List.mem_append.1 hx with hx | hx
 ·rw[h.old x hx];exact h.q1.all x hx
 ·rw[List.mem_singleton.1 hx,h.new];exact ht
theorem qps(hR:yF R){s s':qc}{l:List Int}(hb:qU s)(hq:QR R s)(hF:zn s l s')(hn:l.Nodup)(hs:∀ x∈l,x∈keys s.items) :
  qU { s' with dr:=s'.dr+l.length }/\QR R { s' with dr:=s'.dr+l.length }/\vl s s' l/\s'.items.length+l.length=s.items.length/\s'.given=s.given/\s'.dr=s.dr/\s'.ev=s.ev:=by
 obtain⟨a,b,c⟩:=hF.keep (q15 hR) hb hq hn hs
 have hl:=c.len hb.nd hn hs
 have hcf:=hF.conf
 refine⟨a.setDr ?_ ?_,b.setDr _,c,hl,hcf.2.2.2.1,hcf.2.2.2.2.2.1,hcf.2.2.2.2.1⟩
 ·have:=a.dr;omega
 ·have h1:=hb.sum
  rw[hcf.2.2.2.1,hcf.2.2.2.2.1,hcf.2.2.2.2.2.1];omega
theorem yF.len(m:Nat):yF fun _ t=>t.code.length<=m:=fun x t l e c h hw hl he=>by
 have hs:=vZ hl he
 show(zI t.code e.slot.toNat c).length<=m
 rw[Jw c om]
 exact h
end Go.Fx.Ch
namespace Go.Fx.Tryz
set_option maxRecDepth 100000
open Go Go.Fx Go.Proofs
def Jl:=ql Tryz.f24
def qMd:=Tryz.f24.results.toList
abbrev jZ K:=qr P qMd K
def f24 a b c d w K:=CS P Jl none [4] [4] (jZ K) (qz 23 [(VS a b c),(VI d)]) w
def qwo a b c d w K:=SC Jl 1 [4] [4] (jZ K) 23 [(0,VS a b c),(1,VI d)] w
abbrev qHi K:=kq Jl 1 [4] [4] (jZ K)
def qtc a b c d w K:=SC Jl 3 [4] [4] (jZ K) 23 [(4,VB false),(0,VS a b c),(1,VI d)] w
abbrev qwM K:=kq Jl 3 [4] [4] (jZ K)
abbrev qGR K:=kq Jl 6 [0,4] [4] (qwM K)
def qvA a b c d w K:=SG Jl 7 [4] [4] (jZ K) 23 [(0,VS a b c),(4,VB d)] w
abbrev q3b K:=kq Jl 7 [4] [4] (jZ K)
abbrev qHo K:=kq Jl 14 [] [4] (q3b K)
def qtN a b c d e w K:=SC Jl 29 [] [4] (q3b K) 23 [(5,VI a),(0,VS b c d),(4,VB e)] w
abbrev qe0 K:=qo 0 (q3b K)
def qz9 K Y4 e w:=zt (fun e w=>CS P (cA Jl 116) none [5,0,4] [4] (qv [5,0,4] Y4 (qe0 K)) e w) e w
abbrev V9 K Y4:=qv [5,0,4] Y4 (qe0 K)
def qkN a b c d f w K Y4:=SG Jl 116 [5,0,4] [4] (V9 K Y4) 23 [(5,VI a),(0,VS b c d),(4,VB f)] w
abbrev qwr K Y4:=kq Jl 116 [5,0,4] [4] (V9 K Y4)
abbrev qIs K Y4:=kq Jl 232 [0,5,4] [4] (qwr K Y4)
def qvo a b c d f w K Y4:=SG Jl 233 [5,0,4] [4] (V9 K Y4) 23 [(0,VS a b c),(5,VI d),(4,VB f)] w
abbrev qwg K Y4:=kq Jl 233 [5,0,4] [4] (V9 K Y4)
abbrev qof K Y4:=qo 1 (qwg K Y4)
abbrev qD4 K Y4:=kq Jl 932 [0,4,5] [4,0,5] (qof K Y4)
def qvf a b c d f w K Y4:=SG Jl 467 [5,0,4] [4] (V9 K Y4) 23 [(0,VS a b c),(4,VB d),(5,VI f)] w
theorem qpc:qvf a c d e f w K Y4=(Y4 (qi.mk 23 [(5,(Value.int .i64 (IntKind.wrap .i64 (f+1)))),(0,(Value.slice a c d)),(4,(Value.bool e))] []) w):=qE kr
theorem qpO:qvo d e f c g w K Y4=(qh d (fun j=>0<=c/\c<(e:Nat)/\qS 3 ((j.add (Int.toNat c*9)).add 1) w (fun k=>q9 P 36 [(Value.agg k)] w (fun l h=>∃ i:Bool,l=(.bool i)/\qp (!i) (K (Value.bool false) h) (qvf d e f g c h K Y4))))):=qE (qI [0,4,5] (qwg K Y4) (Q9 1 [4,0,5] (qof K Y4) (qI [22,0,5,4] (qD4 K Y4) kr)))
def qt9 w K:=SG Jl 15 [4] [4] (jZ K) 23 [] w
abbrev qzQ K:=kq Jl 15 [4] [4] (jZ K)
theorem qpk:qt9 w K=(K (Value.bool true) w):=qE (qI [4] (qzQ K) kr)
theorem qen:qkN c e d f g w K Y4=(qp (decide (c<((d:Nat):Int))) (qvo e d f c g w K Y4) (qt9 w K)):=qE (qI [0,5,4] (qwr K Y4) (qI [13,0,5,4] (qIs K Y4) kr))
theorem qoX:qtN a c d e f w K=(qN (qz9 K) (qi.mk 23 [(5,(Value.int .i64 a)),(0,(Value.slice c d e)),(4,(Value.bool f))] []) w):=Eq.trans (b:=CS P (cA Jl 29) none [] [4] (q3b K) (qi.mk 23 [(5,(VI a)),(0,(VS c d e)),(4,(VB f))] []) w) kr (Eq.trans (Ze 0 [4] (qe0 K) kr) ((qT (b:=(cA Jl 116)) (X':=[4]) (H:=[5,0,4]) kr kr kr).trans kr))
theorem qqD:qvA c d e f w K=(qtN 0 c d e f w K):=qE (qI [] (q3b K) (qI [5,0,4] (qHo K) kr))
theorem qqN:qtc d c e f w K=(qp (decide ((((c:Nat):Int):Int) > f)) (K (Value.bool false) w) (qvA d c e false w K)):=Eq.trans (b:=CS P (cA Jl 3) none [4] [4] (jZ K) (qi.mk 23 [(4,(VB false)),(0,(VS d c e)),(1,(VI f))] []) w) kr (Eq.trans (zd [0,4] (qwM K) kr) (Eq.trans (zd [9,0,4] (qGR K) kr) kr))
theorem qoq:qwo c d e f w K=(qtc c d e f w K):=Eq.trans (b:=CS P (cA Jl 1) none [4] [4] (jZ K) (qi.mk 23 [(0,(VS c d e)),(1,(VI f))] []) w) kr (Eq.trans (zd [0,4,1] (qHi K) kr) kr)
theorem qIb:f24 a b c d w K=(qwo a b c d w K):=kr
theorem qIV a b c d w K(h:f24 a b c d w K):q9 P 24 [(Value.slice a b c),(Value.int .i64 d)] w K:=qA Jl Tryz.func24 h
def c26:=ql Tryz.f26
def qNZ:=Tryz.f26.results.toList
abbrev qwy K:=qr P qNZ K
def f26 a w K:=CS P c26 none [2] [2] (qwy K) (qz 21 [(Value.agg a)]) w
def q7c a w K:=SG c26 15 [2] [2] (qwy K) 21 [(2,VB a)] w
theorem qqi:q7c a w K=(K (Value.bool a) w):=kr
theorem qFE:f26 b w K=(qu b 27 w (fun c d=>qS 3 (Addr.mk c 0 none) d (fun h=>q9 P 16 [(Value.agg h)] d (fun i a=>∃ e:Option Addr,∃ f:Int,i=(.tuple #[(Value.pointer e),(Value.int .i64 f)])/\qp (f==1) (qp e.isNone (qS 3 (Addr.mk c 0 none) a (fun j=>q9 P 69 [(Value.agg j)] a (fun k l=>∃ g:Bool,k=(.bool g)/\q7c (!g) l K))) (q7c false a K)) (q7c false a K))))):=kr
theorem qFP a w K(h:f26 a w K):q9 P 26 [(Value.agg a)] w K:=qA c26 Tryz.func26 h
def c32:=ql Tryz.f32
def qNL:=Tryz.f32.results.toList
abbrev Qp K:=qr P qNL K
def f32 a b w K:=CS P c32 none [] [] (Qp K) (qz 39 [(VP a),(Value.agg b)]) w
def quv a b w K:=SC c32 1 [] [] (Qp K) 39 [(0,VP a),(1,Value.agg b)] w
abbrev qGF K:=kq c32 1 [] [] (Qp K)
def qs2 a b c w K:=SC c32 3 [] [] (Qp K) 39 [(3,VQ a),(0,VP b),(1,Value.agg c)] w
abbrev qHV K:=kq c32 3 [] [] (Qp K)
def qs3 a b c d e f w K:=SC c32 7 [] [] (Qp K) 39 [(6,Value.int .u8 a),(5,Value.int .u8 b),(4,VQ c),(3,VQ d),(0,VP e),(1,Value.agg f)] w
abbrev qxc K:=qo 0 (Qp K)
abbrev qFu K:=kq c32 14 [] [] (qxc K)
theorem qqA:qs3 d f g c e h w K=(qp (d==0) (qS 3 (c.add 1) w (fun m=>q9 P 18 [(Value.pointer e),(Value.agg m)] w (fun n o=>∃ p:Int,∃ (q:OA) (r s:Nat),∃ t:Int,n=(.tuple #[(Value.int .u32 p),(Value.slice q r s),(Value.int .i64 t)])/\K (Value.tuple #[]) o))) (qp (d==4) (∃ i:Int,w.cell? (c.add 5)=some (.int .u32 i)/\∃ j:Int,w.cell? (c.add 6)=some (.int .i64 j)/\q9 P 41 [(Value.pointer e),(Value.int .u32 i),(Value.int .i64 j)] w (fun u v=>∃ x:Bool,∃ y:Int,u=(.tuple #[(Value.bool x),(Value.int .i64 y)])/\K (Value.tuple #[]) v)) (qp (d==5) (∃ k:Int,w.cell? (c.add 5)=some (.int .u32 k)/\∃ l:Int,w.cell? (c.add 6)=some (.int .i64 l)/\q9 P 42 [(Value.pointer e),(Value.int .u32 k),(Value.int .i64 l)] w (fun z a0=>∃ b0:Int,z=(.int .i64 b0)/\K (Value.tuple #[]) a0)) (qp (d==6) (qS 2 (c.add 7) w (fun c0=>q9 P 20 [(Value.pointer e),(Value.agg c0)] w (fun d0 e0=>∃ (f0:OA) (g0 h0:Nat),d0=(.slice f0 g0 h0)/\K (Value.tuple #[]) e0))) (qp (d==7) (q9 P 31 [(Value.pointer e)] w (fun i0 j0=>i0=(.tuple #[])/\K (Value.tuple #[]) j0)) (K (Value.tuple #[]) w)))))):=Eq.trans (b:=CS P (cA c32 7) none [] [] (Qp K) (qi.mk 39 [(6,(Value.int .u8 d)),(5,(Value.int .u8 f)),(4,(VP (some g))),(3,(VP (some c))),(0,(VP e)),(1,(Value.agg h))] []) w) kr (Eq.trans (Ze 0 [] (qxc K) kr) (Eq.trans (zd [7,3,0,6] (qFu K) kr) kr))
theorem qpi:qs2 c d e w K=(∃ f:Int,w.cell? c=some (.int .u8 f)/\(10:Int)≠0/\qs3 (f.tmod 10) f c c d e w K):=Eq.trans (b:=CS P (cA c32 3) none [] [] (Qp K) (qi.mk 39 [(3,(VP (some c))),(0,(VP d)),(1,(Value.agg e))] []) w) kr (Eq.trans (zd [3,0,6] (qHV K) kr) kr)
theorem qqZ:quv d c w K=(qu c 67 w (fun e f=>qs2 (Addr.mk e 0 none) d c f K)):=Eq.trans (b:=CS P (cA c32 1) none [] [] (Qp K) (qi.mk 39 [(0,(VP d)),(1,(Value.agg c))] []) w) kr (Eq.trans (zd [3,0] (qGF K) kr) kr)
theorem qFa:f32 a b w K=(quv a b w K):=kr
theorem qGk a b w K(h:f32 a b w K):q9 P 32 [(Value.pointer a),(Value.agg b)] w K:=qA c32 Tryz.func32 h
def Je:=ql Tryz.f25
def qNf:=Tryz.f25.results.toList
abbrev vu K:=qr P qNf K
def f25 a b c d w K:=CS P Je none [4,5] [4,5] (vu K) (qz 33 [(Value.agg a),(VS b c d)]) w
def qry a b c d w K:=SC Je 1 [4,5] [4,5] (vu K) 33 [(0,Value.agg a),(1,VS b c d)] w
abbrev qI0 K:=kq Je 1 [4,5] [4,5] (vu K)
def qx3 a b c d e f w K:=SC Je 3 [4,5] [4,5] (vu K) 33 [(5,VB false),(4,VP a),(2,VQ b),(0,Value.agg c),(1,VS d e f)] w
abbrev qG1 K:=kq Je 3 [4,5] [4,5] (vu K)
def qsQ a b c d e f g h i j k l m n o w K:=SC Je 7 [4,5] [4,5] (vu K) 33 [(7,VI a),(6,VP b),(13,VI c),(12,VP d),(9,(Value.tuple #[(VP e),(VI f)])),(11,(Value.tuple #[(VP g),(VI h)])),(10,Value.agg i),(5,VB false),(4,VP j),(2,VQ k),(0,Value.agg l),(1,VS m n o)] w
abbrev qep K:=kq Je 7 [4,5] [4,5] (vu K)
abbrev qHT K:=kq Je 14 [1,6,4,5] [4,5] (qep K)
def qe3 a b c d f g h w K:=SG Je 29 [1,6,4,5] [4,5] (qep K) 33 [(19,VB a),(1,VS b c d),(6,VP f),(4,VP g),(5,VB h)] w
def quD a b c d f g w K:=SG Je 15 [4,5] [4,5] (vu K) 33 [(1,VS a b c),(6,VP d),(4,VP f),(5,VB g)] w
abbrev q2a K:=kq Je 15 [4,5] [4,5] (vu K)
abbrev qHg K:=kq Je 30 [6] [4,5] (q2a K)
def qrB a b c d e f g w K:=SC Je 61 [6] [4,5] (q2a K) 33 [(8,VI a),(1,VS b c d),(6,VP e),(4,VP f),(5,VB g)] w
abbrev qdE K:=qo 0 (q2a K)
def qCG K Y6 e w:=zt (fun e w=>CS P (cA Je 244) none [8,1,6,4,5] [4,5,6] (qv [8,1,6,4,5] Y6 (qdE K)) e w) e w
abbrev Va K Y6:=qv [8,1,6,4,5] Y6 (qdE K)
def qjw a b c d f g h w K Y6:=SG Je 244 [8,1,6,4,5] [4,5,6] (Va K Y6) 33 [(8,VI a),(1,VS b c d),(6,VP f),(4,VP g),(5,VB h)] w
abbrev qx4 K Y6:=kq Je 244 [8,1,6,4,5] [4,5,6] (Va K Y6)
abbrev qHA K Y6:=kq Je 488 [1,6,4,5,8] [4,5,6] (qx4 K Y6)
def qth a b c d f g h w K Y6:=SG Je 489 [8,1,6,4,5] [4,5,6] (Va K Y6) 33 [(1,VS a b c),(6,VP d),(4,VP f),(5,VB g),(8,VI h)] w
abbrev qnK K Y6:=kq Je 489 [8,1,6,4,5] [4,5,6] (Va K Y6)
abbrev qDH K Y6:=qo 1 (qnK K Y6)
def qxo a b c d f g h w K Y6:=SG Je 979 [8,1,6,4,5] [4,5,6] (Va K Y6) 33 [(1,VS a b c),(6,VP d),(4,VP f),(5,VB g),(8,VI h)] w
theorem qrf:qxo a c d e f g h w K Y6=(Y6 (qi.mk 33 [(8,(Value.int .i64 (IntKind.wrap .i64 (h+1)))),(1,(Value.slice a c d)),(6,(Value.pointer e)),(4,(Value.pointer f)),(5,(Value.bool g))] []) w):=qE kr
theorem qoD:qth d e g f h i c w K Y6=(qh d (fun j=>0<=c/\c<(e:Nat)/\qS 9 (j.add (Int.toNat c*9)) w (fun k=>q9 P 32 [(Value.pointer f),(Value.agg k)] w (fun l m=>l=(.tuple #[])/\qxo d e g f h i c m K Y6)))):=qE (qI [1,6,4,5,8] (qnK K Y6) (Q9 1 [4,5,6,1,8] (qDH K Y6) kr))
def qrT a w K:=SG Je 31 [4,5] [4,5] (vu K) 33 [(6,VP a)] w
abbrev qAb K:=kq Je 31 [4,5] [4,5] (vu K)
theorem qrn:qrT c w K=(K (Value.tuple #[(Value.pointer c),(Value.bool true)]) w):=qE (qI [4,5] (qAb K) kr)
theorem qiu:qjw c f d g e h i w K Y6=(qp (decide (c<((d:Nat):Int))) (qth f d g e h i c w K Y6) (qrT e w K)):=qE (qI [1,6,4,5,8] (qx4 K Y6) (qI [23,1,6,4,5,8] (qHA K Y6) kr))
theorem qoA:qrB a c d e f g h w K=(qN (qCG K) (qi.mk 33 [(8,(Value.int .i64 a)),(1,(Value.slice c d e)),(6,(Value.pointer f)),(4,(Value.pointer g)),(5,(Value.bool h))] []) w):=Eq.trans (b:=CS P (cA Je 61) none [6] [4,5] (q2a K) (qi.mk 33 [(8,(VI a)),(1,(VS c d e)),(6,(VP f)),(4,(VP g)),(5,(VB h))] []) w) kr (Eq.trans (Ze 0 [4,5,6] (qdE K) kr) ((qT (b:=(cA Je 244)) (X':=[4,5,6]) (H:=[8,1,6,4,5]) kr kr kr).trans kr))
theorem qoU:quD c d e f g h w K=(qrB 0 c d e f g h w K):=qE (qI [6] (q2a K) (qI [8,1,6,4,5] (qHg K) kr))
theorem q4K:qe3 a c d e f g h w K=(qp a (K (Value.tuple #[(Value.pointer none),(Value.bool false)]) w) (quD c d e f g h w K)):=qE kr
theorem q4j:qsQ h c i j k l m n o d p q e f g w K=(qp (h != 0) (qe3 true e f g c d false w K) (qe3 c.isNone e f g c d false w K)):=Eq.trans (b:=CS P (cA Je 7) none [4,5] [4,5] (vu K) (qi.mk 33 [(7,(VI h)),(6,(VP c)),(13,(VI i)),(12,(VP j)),(9,(Value.tuple #[(VP k),(VI l)])),(11,(Value.tuple #[(VP m),(VI n)])),(10,(Value.agg o)),(5,(VB false)),(4,(VP d)),(2,(VP (some p))),(0,(Value.agg q)),(1,(VS e f g))] []) w) kr (Eq.trans (zd [1,6,4,5] (qep K) kr) (Eq.trans (zd [19,1,6,4,5] (qHT K) kr) kr))
theorem qop:qx3 f c g h i j w K=(qS 3 c w (fun k=>q9 P 16 [(Value.agg k)] w (fun l m=>∃ d:Option Addr,∃ e:Int,l=(.tuple #[(Value.pointer d),(Value.int .i64 e)])/\qsQ e d e d d e d e k f c g h i j m K))):=Eq.trans (b:=CS P (cA Je 3) none [4,5] [4,5] (vu K) (qi.mk 33 [(5,(VB false)),(4,(VP f)),(2,(VP (some c))),(0,(Value.agg g)),(1,(VS h i j))] []) w) kr (Eq.trans (zd [1,6,4,5,7] (qG1 K) kr) kr)
theorem qpX:qry c d e f w K=(qu c 27 w (fun g h=>qx3 none (Addr.mk g 0 none) c d e f h K)):=Eq.trans (b:=CS P (cA Je 1) none [4,5] [4,5] (vu K) (qi.mk 33 [(0,(Value.agg c)),(1,(VS d e f))] []) w) kr (Eq.trans (zd [1,4,5,2] (qI0 K) kr) kr)
theorem qGe:f25 a b c d w K=(qry a b c d w K):=kr
theorem qGN a b c d w K(h:f25 a b c d w K):q9 P 25 [(Value.agg a),(Value.slice b c d)] w K:=qA Je Tryz.func25 h
end Go.Fx.Tryz
namespace Go.Fx.Tryz
open Go Go.Fx Go.Fx.Ch
open Go.Proofs
set_option linter.all false
set_option maxRecDepth 20000
structure yr where
 kd:Int
 tat:Int
 sa:Option Addr
 sl:Nat
 sc:Nat
 ca:Option Addr
 cl:Nat
 cc:Nat
 at_:Int
 id:Int
 slot:Int
 s1:Int
 s2:Int
 sp:List (Int × Int)
 code:List Int
def yr.cs(a:yr):List Value:=[.int .u8 a.kd,U a.tat,.slice a.sa a.sl a.sc,.slice a.ca a.cl a.cc,U a.at_,U a.id,J a.slot,U a.s1,J a.s2]
def yr.tr(a:yr):TR:=⟨a.tat,a.sp,a.code⟩
def vL(a:yr):Bool:=decide (a.cl<=5000)&&decide (a.sl<=200)
def q40(l:List yr)(m:Nat):Bool:=decide (l.length<=m)&&l.all vL
structure q39 (w0:World) (H:qF) (a:yr):Prop where
 kd:0<=a.kd/\a.kd<256
 tat:jq a.tat
 at_:jq a.at_
 tr:vL a=true->a.sp.length=a.sl/\a.code.length=a.cl/\jP w0 H (.slice a.sa a.sl a.sc) a.sp/\yk w0 H (.slice a.ca a.cl a.cc) a.code
structure Z6 (w0:World) (H:qF) (ov:Value) (l:List yr):Prop where
 row:∀ w',St w0 w' H->vj w' 9 ov l.length (l.map yr.cs).flatten
 each:∀ a∈l,q39 w0 H a
 len:l.length<9223372036854775808
inductive q2X (s:qc) (a:yr):qc->Prop
 | put {gone:List Int} {s1:qc}:a.kd % 10=0->yu s a.tr=0->yg a.tr.code.length s gone s1->q2X s a (zP s1 a.tr)
 | putNo:a.kd % 10=0->yu s a.tr≠0->q2X s a s
 | chain:a.kd % 10=4->q2X s a (zH s a.id a.slot).1
 | unchain:a.kd % 10=5->q2X s a (zp s a.id a.slot).1
 | drop {s':qc}:a.kd % 10=6->zn s (jQ s (a.s1,a.s2)) s'->q2X s a { s' with dr:=s'.dr+(jQ s (a.s1,a.s2)).length }
 | flush {s':qc}:a.kd % 10=7->zn s (vt s) s'->q2X s a { s' with dr:=s'.dr+(vt s).length }
 | other:a.kd % 10≠0->a.kd % 10≠4->a.kd % 10≠5->a.kd % 10≠6->a.kd % 10≠7->q2X s a s
variable {w0 w:World} {H X:qF} {K:KT} {s:qc} {L:qR} {q:LB} {R:Int->TR->Prop}
theorem vj.elem{α:Type}{f:α->List Value}{m:Nat}(hf:∀ x,(f x).length=m){l:List α}{a:Addr}{n c:Nat}(hn:l.length=n)(h:vj w m (.slice (some a) n c) n (l.map f).flatten){i:Nat}(hi:i<l.length){j:Nat}(hj:j<m):w.cell? ((a.add (i*m)).add j)=(f l[i])[j]?:=by
 subst hn
 rcases h.2 with⟨h1,_⟩ | ⟨a',c',h1,h2⟩
 ·cases h1
 ·cases h1
  have hle:i*m+m<=l.length*m:=by rw[<-Nat.succ_mul];exact Nat.mul_le_mul_right _ hi
  rw[vw,h2 _ om]
  have:=congrArg (fun x=>x[j]?) (v8 f m hf l hi)
  simp only[List.getElem?_take,hj,if_true,List.getElem?_drop]at this
  exact this
theorem vj.whole{α:Type}{f:α->List Value}{m:Nat}(hf:∀ x,(f x).length=m){l:List α}{a:Addr}{n c:Nat}(hn:l.length=n)(h:vj w m (.slice (some a) n c) n (l.map f).flatten){i:Nat}(hi:i<l.length){Q:Array Value->Prop}(hQ:Q (f l[i]).toArray):qS m (a.add (i*m)) w Q:=by
 refine⟨_,by rw[List.size_toArray];exact hf _,fun j hj=>?_,hQ⟩
 rw[vj.elem hf hn h hi hj]
 simp
theorem vj.part{α:Type}{f:α->List Value}{m:Nat}(hf:∀ x,(f x).length=m){l:List α}{a:Addr}{n c:Nat}(hn:l.length=n)(h:vj w m (.slice (some a) n c) n (l.map f).flatten){i:Nat}(hi:i<l.length){off k:Nat}(hk:off+k<=m){Q:Array Value->Prop}(hQ:Q (((f l[i]).drop off).take k).toArray):qS k ((a.add (i*m)).add off) w Q:=by
 refine⟨_,?_,fun j hj=>?_,hQ⟩
 ·rw[List.size_toArray,List.length_take,List.length_drop,hf];omega
 ·rw[vw,vj.elem hf hn h hi om]
  simp[hj]
theorem Z6.ptr{aa:Option Addr}{ac:Nat}{l:List yr}(h:Z6 w0 H (.slice aa l.length ac) l){i:Nat}(hi:i<l.length)(hw:St w0 w H):∃ ad,aa=some ad:=by
 rcases(h.row w hw).2 with⟨_,h2⟩ | ⟨a,c,h1,_⟩
 ·omega
 ·injection h1 with h1 _ _;exact⟨a,h1⟩
theorem qGn{aa:Option Addr}{ac m:Nat}{l:List yr}(h:St w0 w (X++H))(hX:qG w0 X)(hl:Z6 w0 H (.slice aa l.length ac) l)(hK:∀ w',St w0 w' (X++H)->K (.bool (q40 l m)) w'):q9 P 24 [.slice aa l.length ac,J m] w K:=by
 refine qIV _ _ _ _ _ _ ?_
 rw[qIb,qoq,qqN,qg]
 refine⟨fun hb=>?_,fun hb=>?_⟩
 ·have hb:=of_decide_eq_true hb
  have e:q40 l m=false:=by unfold q40;rw[decide_eq_false om,Bool.false_and]
  rw[e]at hK;exact hK w h
 have hb:=of_decide_eq_false hb
 have hm:decide (l.length<=m)=true:=decide_eq_true om
 have hlen:=hl.len
 rw[qqD,qoX]
 refine⟨fun n e' w'=>∃ i:Nat,i<=l.length/\n=l.length-i/\e'=qi.mk 23 [(5,J i),(0,.slice aa l.length ac),(4,.bool false)] []/\(l.take i).all vL=true/\St w0 w' (X++H),⟨_,0,by omega,rfl,rfl,rfl,h⟩,?_⟩
 rintro n e' w1 ⟨i,hi,rfl,rfl,hall,hs⟩
 show qkN ..
 rw[qen,qg]
 refine⟨fun hlt=>?_,fun hge=>?_⟩
 ·have hlt:=of_decide_eq_true hlt
  have hi:i<l.length:=by omega
  have hs0:=hs.sub hX
  obtain⟨ad,rfl⟩:=hl.ptr hi hs0
  rw[qpO]
  refine⟨by omega,by omega,?_⟩
  rw[Int.toNat_natCast]
  refine vj.part (f:=yr.cs) (m:=9) (fun _=>rfl) rfl (hl.row w1 hs0) hi om ?_
  refine qCA (a:=U l[i].tat) (sa:=l[i].sa) (sl:=l[i].sl) (sc:=l[i].sc) (ca:=l[i].ca) (cl:=l[i].cl) (cc:=l[i].cc) hs fun w2 h2=>⟨_,rfl,?_⟩
  have htake:(l.take (i+1)).all vL=vL l[i]:=by
   rw[List.take_succ_eq_append_getElem hi,List.all_append,hall,Bool.true_and];simp
  rw[qg]
  refine⟨fun hn=>?_,fun hn=>?_⟩
  ·have hn:vL l[i]=false:=by rw[Bool.not_eq_true']at hn;exact hn
   have e:q40 l m=false:=by
    unfold q40
    rw[List.all_eq_false.2 ⟨l[i],List.getElem_mem hi,by rw[hn];decide⟩,Bool.and_false]
   rw[e]at hK;exact hK w2 h2
  ·have hn:vL l[i]=true:=by rw[Bool.not_eq_false']at hn;exact hn
   rw[qpc]
   refine⟨_,?_,i+1,by omega,rfl,?_,by rw[htake];exact hn,h2⟩
   ·omega
   ·rw[qd om om];rfl
 ·have hge:=of_decide_eq_false hge
  have hin:i=l.length:=by omega
  subst hin
  rw[List.take_length]at hall
  rw[qpk]
  have e:q40 l m=true:=by unfold q40;rw[hm,hall];rfl
  rw[e]at hK;exact hK w1 hs
theorem jP.more{ov:Value}{l:List SP}(h:jP w0 H ov l)(hX:qG w0 X):jP w0 (X++H) ov l:=⟨fun w' h'=>h.row w' (h'.sub hX),h.len⟩
theorem yk.more{ov:Value}{l:List Int}(h:yk w0 H ov l)(hX:qG w0 X):yk w0 (X++H) ov l:=⟨fun w' h'=>h.row w' (h'.sub hX),h.byte,h.len,h.cap⟩
theorem qhy{l:List yr}{m:Nat}(h:q40 l m=true):l.length<=m/\∀ a∈l,vL a=true:=by
 unfold q40 at h
 rw[Bool.and_eq_true]at h
 exact⟨of_decide_eq_true h.1,fun a ha=>List.all_eq_true.1 h.2 a ha⟩
theorem qFp{a:yr}(ha:q39 w0 H a)(hlt:vL a=true)(hR:yF R)(hb:qU s)(hq:QR R s)(hL:L.Ok w0 q s)(hg:zC H)(hX:qG w0 X)(h:St w0 w (L.bl q s++(X++H)))
  (hK:∀ (w':World) (s':qc) (L':qR) (X':qF),q2X s a s'->L'.Ok w0 q s'->qG w0 X'->St w0 w' (L'.bl q s'++(X'++H))->K (.tuple [].toArray) w'):q9 P 32 [.pointer (some ⟨q.cb,0,none⟩),.agg a.cs.toArray] w K:=by
 refine qGk _ _ _ _ ?_
 rw[qFa,qqZ]
 refine h.newC fun n4 w5 hn4 h5=>?_
 have h5:St w0 w5 ((n4,Cs a.cs 67)::(L.bl q s++(X++H))):=h5
 have h6:St w0 w5 (L.bl q s++(((n4,Cs a.cs 67)::X)++H)):=h5.perm (qn fun c=>by simp only[List.map_append,List.map_cons,List.sum_append,List.sum_cons];omega)
 have hX2:qG w0 ((n4,Cs a.cs 67)::X):=fun v hv=>by
  rcases List.mem_cons.1 hv with rfl | hv
  ·exact hn4
  ·exact hX v hv
 have hg2:zC (((n4,Cs a.cs 67)::X)++H):=hg.mono fun u hu=>List.mem_append_right _ hu
 have hkd:=ha.kd
 have e10:a.kd.tmod 10=a.kd % 10:=Int.tmod_eq_emod_of_nonneg hkd.1
 rw[qpi]
 refine⟨a.kd,h5.cell (k:=0) rfl,by decide,?_⟩
 rw[qqA,e10]
 obtain⟨hsl,hcl,hS,hB⟩:=ha.tr hlt
 have hsum:=hb.sum
 have hev:=hb.ev
 have hdr:=hb.dr
 have hgv:=hb.given
 have hfew:=hb.few
 have hput:∀ {w':World} {s':qc} {L':qR} {X':qF},q2X s a s'->L'.Ok w0 q s'->qG w0 X'->St w0 w' (X'++(L'.bl q s'++(((n4,Cs a.cs 67)::X)++H)))->K (.tuple [].toArray) w':=fun {w' s' L' X'} h1 h2 h3 h4=>
  hK w' s' L' (X'++((n4,Cs a.cs 67)::X)) h1 h2 (qG.append h3 hX2) (h4.perm (qn fun c=>by simp only[List.map_append,List.map_cons,List.sum_append,List.sum_cons];omega))
 rw[qg]
 refine⟨fun h0=>?_,fun h0=>?_⟩
 ·have h0:a.kd % 10=0:=by simpa using h0
  refine⟨#[U a.tat,.slice a.sa a.sl a.sc,.slice a.ca a.cl a.cc],rfl,fun i hi=>?_,?_⟩
  ·rw[qa,qa,h5.cell (k:=0) rfl]
   have:i=0\/i=1\/i=2:=by omega
   rcases this with rfl | rfl | rfl<;>rfl
  refine qdg (t:=a.tr) (sv:=.slice a.sa a.sl a.sc) (cv:=.slice a.ca a.cl a.cc) h6 hL hg2 (hS.more hX2) (hB.more hX2) ha.tat om hgv (fun he=>?_) (fun he w' hs'=>?_) (fun he w' L' gone s1 ov N hE hok hSl hN hs'=>?_)
  ·obtain⟨_,_,_,hlen,_⟩:=q4S he
   exact⟨_,hb.evR (q15 hR) hq hlen⟩
  ·exact⟨_,_,_,_,_,rfl,hK w' s L ((n4,Cs a.cs 67)::X) (.putNo h0 he) hL hX2 hs'⟩
  ·obtain⟨oa,oc,e⟩:=hSl.form
   subst e
   exact⟨_,_,_,_,_,rfl,hput (.put h0 he hE) hok hN hs'⟩
 ·have h0:a.kd % 10≠0:=by simpa using h0
  rw[qg]
  refine⟨fun h1=>?_,fun h1=>?_⟩
  ·have h1:a.kd % 10=4:=by simpa using h1
   refine⟨a.id,by rw[qa,h5.cell (k:=0) rfl];rfl,a.slot,by rw[qa,h5.cell (k:=0) rfl];rfl,?_⟩
   exact Vc (id:=a.id) (slot:=a.slot) h6 hL hg2 hb.fit.table fun w' L' hok hs'=>⟨_,_,rfl,hK w' _ L' _ (.chain h1) hok hX2 hs'⟩
  ·have h1:a.kd % 10≠4:=by simpa using h1
   rw[qg]
   refine⟨fun h2=>?_,fun h2=>?_⟩
   ·have h2:a.kd % 10=5:=by simpa using h2
    refine⟨a.id,by rw[qa,h5.cell (k:=0) rfl];rfl,a.slot,by rw[qa,h5.cell (k:=0) rfl];rfl,?_⟩
    exact qfh (id:=a.id) (slot:=a.slot) h6 hL hg2 fun w' L' hok hs'=>⟨_,rfl,hK w' _ L' _ (.unchain h2) hok hX2 hs'⟩
   ·have h2:a.kd % 10≠5:=by simpa using h2
    rw[qg]
    refine⟨fun h3=>?_,fun h3=>?_⟩
    ·have h3:a.kd % 10=6:=by simpa using h3
     refine⟨#[U a.s1,J a.s2],rfl,fun i hi=>?_,?_⟩
     ·rw[qa,qa,h5.cell (k:=0) rfl]
      have:i=0\/i=1:=by omega
      rcases this with rfl | rfl<;>rfl
     refine qlX (r:=(a.s1,a.s2)) h6 hL hg2 om hdr om fun w' L' s' ov N hF hok hSl hN hs'=>?_
     obtain⟨oa,oc,e⟩:=hSl.form
     subst e
     exact⟨_,_,_,rfl,hput (.drop h3 hF) hok hN hs'⟩
    ·have h3:a.kd % 10≠6:=by simpa using h3
     rw[qg]
     refine⟨fun h4=>?_,fun h4=>?_⟩
     ·have h4:a.kd % 10=7:=by simpa using h4
      exact qup h6 hL hg2 om hdr om fun w' L' s' hF hok hs'=>⟨rfl,hK w' _ L' _ (.flush h4 hF) hok hX2 hs'⟩
     ·have h4:a.kd % 10≠7:=by simpa using h4
      exact hK w5 s L _ (.other h0 h1 h2 h3 h4) hL hX2 h6
end Go.Fx.Tryz
namespace Go.Fx.Tryz
open Go Go.Fx Go.Fx.Ch
open Go.Proofs
open Go.ChangeShapes Go.WideShapes Go.ChangeAt Go.RowKit
set_option linter.all false
set_option maxRecDepth 100000
variable {H:Type} {enc:TypeId × Value->H} {W:World}
theorem JG{α:Type} [Inhabited α] {f:α->List Value} {Q:α->Prop} {t e:TypeId} {m:Nat} {base:Nat} {spare:Nat->Bool} {held:Bool} (ht:P.underlying t=some (.slice e)) (hc:P.cellsOf e=m) (hm:∀ a,(f a).length=m) (hpos:0<m)
  (hel:∀ {fuel:Nat} {cs:List Value} {x:DataW H × List MemPlace},DataW.trod enc P W base spare held fuel e cs=some x->∃ a,cs=f a/\Q a) {v:Value} {fuel:Nat} {x:DataW H × List MemPlace} (h:DataW.trod enc P W base spare held fuel t [v]=some x) :
  ∃ l:List α,vj W m v l.length (l.map f).flatten/\(∀ a∈l,Q a)/\l.length<=maxLen/\∃ a n c,v=.slice a n c/\n<=c:=by
 rcases Deep.open_slice ht h with⟨hcs,_⟩ | ⟨a,len,cap,mm,n,D,Pl,hcs,_,hle,hcm,hmm,_,hall⟩
 ·have hv:v=.slice none 0 0:=by simpa using hcs
  exact⟨[],⟨by simp,.inl ⟨hv,rfl⟩⟩,by simp,Nat.zero_le _,none,0,0,hv,Nat.le_refl _⟩
 ·have hv:v=.slice (some a) len cap:=by simpa using hcs
  have hlm:len<=mm:=by rw[hmm];split<;>omega
  obtain⟨E,hE⟩:=Deep.choose_lt (α:=α) (n:=len) (p:=fun i e=>Q e/\∀ j,j<m->W.cell? (a.add (i*m+j))=(f e)[j]?) (fun i hi=>by
   obtain⟨cs',h1,h2⟩:=hall i om
   obtain⟨e,rfl,he⟩:=hel h2
   rw[hc]at h1
   obtain⟨_,_,h3⟩:=World.cells?_some h1
   exact⟨e,he,fun j hj=>by rw[<-h3 j hj,vw]⟩)
  have hlen:((List.range len).map E).length=len:=by simp
  refine⟨(List.range len).map E,⟨?_,.inr ⟨a,cap,by rw[hlen];exact hv,fun i hi=>?_⟩⟩,fun y hy=>?_,by rw[hlen];omega,some a,len,cap,hv,hle⟩
  ·generalize (List.range len).map E=l
   induction l with
   | nil=>simp
   | cons y l ih=>
    simp only[List.map_cons,List.flatten_cons,List.length_append,List.length_cons,ih,hm,Nat.add_mul]
    omega
  ·rw[hlen]at hi
   have hq:i / m<len:=Nat.div_lt_of_lt_mul (by rw[Nat.mul_comm];exact hi)
   have hr:i % m<m:=Nat.mod_lt _ hpos
   have h1:=(hE (i / m) hq).2 (i % m) hr
   have e1:i / m*m+i % m=i:=Nat.div_add_mod' i m
   rw[e1]at h1
   have h2:=congrArg (fun l=>l[i % m]?) (v8 f m hm ((List.range len).map E) (i:=i / m) (by rw[hlen];exact hq))
   simp only[List.getElem?_take,hr,if_true,List.getElem?_drop,e1]at h2
   rw[h1,h2]
   simp
  ·obtain⟨i,hi,rfl⟩:=List.mem_map.1 hy
   exact(hE i (List.mem_range.1 hi)).1
theorem q6M:P.cellsOf 36=2:=kr
theorem qln:P.cellsOf 5=1:=kr
theorem qmN:P.cellsOf 67=9:=kr
theorem qCI:P.cellsOf 41=3:=kr
theorem q6L:P.cellsOf 3=1:=kr
theorem qAO:P.cellsOf 37=1:=kr
theorem qBj:P.cellsOf 38=1:=kr
theorem qDt:P.cellsOf 27=3:=kr
section
variable {base:Nat} {spare:Nat->Bool} {held:Bool} {fuel:Nat} {x:DataW H × List MemPlace}
theorem q4x{cs:List Value}(h:DataW.trod enc P W base spare held fuel 36 cs=some x):∃ r:SP,cs=QK r/\jq r.1:=by
 obtain⟨xs,n,_,_,hl,hlen,hf⟩:=DataW.trod_struct Tryz.underlying36 h
 rw[q6M]at hl
 match cs,hl with
 | [c0,c1],_=>
 have hx:∀ i,i<2->∃ y,xs[i]?=some y:=fun i hi=>⟨xs[i]'(by rw[hlen];exact hi),List.getElem?_eq_getElem _⟩
 obtain⟨y0,e0⟩:=hx 0 om
 obtain⟨y1,e1⟩:=hx 1 om
 obtain⟨k0,g0,_,w0⟩:=DataW.trod_int Tryz.underlying24 ((hf 0 _ rfl).trans e0)
 obtain⟨k1,g1,_⟩:=DataW.trod_int Tryz.underlying3 ((hf 1 _ rfl).trans e1)
 simp[q0C,q6L]at g0 g1
 subst g0 g1
 exact⟨(k0,k1),rfl,q5z w0⟩
theorem qoB{cs:List Value}(h:DataW.trod enc P W base spare held fuel 5 cs=some x):∃ b:Int,cs=[B b]/\(0<=b/\b<256):=by
 obtain⟨k,g,_,w⟩:=DataW.trod_int Tryz.underlying5 h
 exact⟨k,g,qEN w⟩
theorem qru(l:List Int):(l.map fun b=>[B b]).flatten=l.map B:=by
 induction l with
 | nil=>rfl
 | cons b l ih=>simp only[List.map_cons,List.flatten_cons,ih];rfl
structure qJL (W:World) (sv cv:Value) (sp:List SP) (code:List Int):Prop where
 rsp:vj W 2 sv sp.length (sp.map QK).flatten
 rcode:vj W 1 cv code.length (code.map B)
 byte:∀ b∈code,0<=b/\b<256
 cap:∀ a n c,cv=.slice a n c->n<=c
theorem qya{a1 a2 a3:Value}(h:DataW.trod enc P W base spare held fuel 41 [a1,a2,a3]=some x):∃ (at_:Int) (sa ca:Option Addr) (sc cc:Nat) (sp:List SP) (code:List Int),a1=U at_/\a2=.slice sa sp.length sc/\a3=.slice ca code.length cc/\jq at_/\qJL W (.slice sa sp.length sc) (.slice ca code.length cc) sp code:=by
 obtain⟨xs2,m2,_,_,_,hxs2,hf2⟩:=DataW.trod_struct Tryz.underlying41 h
 have hx2:∀ i,i<3->∃ y,xs2[i]?=some y:=fun i hi=>⟨xs2[i]'(by rw[hxs2];exact hi),List.getElem?_eq_getElem _⟩
 obtain⟨z0,q0⟩:=hx2 0 om
 obtain⟨z1,q1⟩:=hx2 1 om
 obtain⟨z2,q2⟩:=hx2 2 om
 have r0:DataW.trod enc P W base spare held m2 24 (([a1,a2,a3].drop 0).take (P.cellsOf 24))=some z0:=(hf2 0 _ rfl).trans q0
 rw[q0C]at r0
 have r1:DataW.trod enc P W base spare held m2 37 (([a1,a2,a3].drop 1).take (P.cellsOf 37))=some z1:=(hf2 1 _ rfl).trans q1
 rw[qAO]at r1
 have r2:DataW.trod enc P W base spare held m2 38 (([a1,a2,a3].drop 2).take (P.cellsOf 38))=some z2:=(hf2 2 _ rfl).trans q2
 rw[qBj]at r2
 have r0:DataW.trod enc P W base spare held m2 24 [a1]=some z0:=r0
 have r1:DataW.trod enc P W base spare held m2 37 [a2]=some z1:=r1
 have r2:DataW.trod enc P W base spare held m2 38 [a3]=some z2:=r2
 obtain⟨k1,g1,_,w1⟩:=DataW.trod_int Tryz.underlying24 r0
 simp only[List.cons.injEq,and_true]at g1
 obtain⟨sp,hsp,_,_,sa,sn,sc,e2,_⟩:=JG (f:=QK) (Q:=fun _=>True) Tryz.underlying37 q6M q60 om (fun h=>by obtain⟨r,h1,_⟩:=q4x h;exact⟨r,h1,trivial⟩) r1
 obtain⟨code,hcode,hb,_,ca,cn,cc,e3,hcc⟩:=JG (f:=fun b:Int=>[B b]) (Q:=fun b=>0<=b/\b<256) Tryz.underlying38 qln (fun _=>rfl) om (fun h=>qoB h) r2
 subst e2;subst e3
 obtain⟨_,_,e⟩:=hsp.form
 injection e with _ e _
 subst e
 obtain⟨_,_,e⟩:=hcode.form
 injection e with _ e _
 subst e
 rw[qru]at hcode
 exact⟨k1,sa,ca,sc,cc,sp,code,g1,rfl,rfl,q5z w1,hsp,hcode,hb,fun a n c e=>by injection e with _ e1 e2;subst e1;subst e2;exact hcc⟩
structure q4g (W:World) (a:yr):Prop where
 kd:0<=a.kd/\a.kd<256
 tat:jq a.tat
 at_:jq a.at_
 s1:jq a.s1
 id:jq a.id
 sl:a.sp.length=a.sl
 cl:a.code.length=a.cl
 tr:qJL W (.slice a.sa a.sl a.sc) (.slice a.ca a.cl a.cc) a.sp a.code
instance:Inhabited yr:=⟨⟨0,0,none,0,0,none,0,0,0,0,0,0,0,[],[]⟩⟩
theorem qsf{cs:List Value}(h:DataW.trod enc P W base spare held fuel 67 cs=some x):∃ a:yr,cs=a.cs/\q4g W a:=by
 obtain⟨xs,m,_,_,hl,hxs,hf⟩:=DataW.trod_struct Tryz.underlying67 h
 rw[qmN]at hl
 match cs,hl with
 | [a0,a1,a2,a3,a4,a5,a6,a7,a8],_=>
 have hx:∀ i,i<6->∃ y,xs[i]?=some y:=fun i hi=>⟨xs[i]'(by rw[hxs];exact hi),List.getElem?_eq_getElem _⟩
 obtain⟨y0,e0⟩:=hx 0 om
 obtain⟨y1,e1⟩:=hx 1 om
 obtain⟨y2,e2⟩:=hx 2 om
 obtain⟨y3,e3⟩:=hx 3 om
 obtain⟨y4,e4⟩:=hx 4 om
 obtain⟨y5,e5⟩:=hx 5 om
 have t0:DataW.trod enc P W base spare held m 5 (([a0,a1,a2,a3,a4,a5,a6,a7,a8].drop 0).take (P.cellsOf 5))=some y0:=(hf 0 _ rfl).trans e0
 rw[qln]at t0
 have t1:DataW.trod enc P W base spare held m 41 (([a0,a1,a2,a3,a4,a5,a6,a7,a8].drop 1).take (P.cellsOf 41))=some y1:=(hf 1 _ rfl).trans e1
 rw[qCI]at t1
 have t2:DataW.trod enc P W base spare held m 24 (([a0,a1,a2,a3,a4,a5,a6,a7,a8].drop 4).take (P.cellsOf 24))=some y2:=(hf 2 _ rfl).trans e2
 rw[q0C]at t2
 have t3:DataW.trod enc P W base spare held m 24 (([a0,a1,a2,a3,a4,a5,a6,a7,a8].drop 5).take (P.cellsOf 24))=some y3:=(hf 3 _ rfl).trans e3
 rw[q0C]at t3
 have t4:DataW.trod enc P W base spare held m 3 (([a0,a1,a2,a3,a4,a5,a6,a7,a8].drop 6).take (P.cellsOf 3))=some y4:=(hf 4 _ rfl).trans e4
 rw[q6L]at t4
 have t5:DataW.trod enc P W base spare held m 36 (([a0,a1,a2,a3,a4,a5,a6,a7,a8].drop 7).take (P.cellsOf 36))=some y5:=(hf 5 _ rfl).trans e5
 rw[q6M]at t5
 have t0:DataW.trod enc P W base spare held m 5 [a0]=some y0:=t0
 have t1:DataW.trod enc P W base spare held m 41 [a1,a2,a3]=some y1:=t1
 have t2:DataW.trod enc P W base spare held m 24 [a4]=some y2:=t2
 have t3:DataW.trod enc P W base spare held m 24 [a5]=some y3:=t3
 have t4:DataW.trod enc P W base spare held m 3 [a6]=some y4:=t4
 have t5:DataW.trod enc P W base spare held m 36 [a7,a8]=some y5:=t5
 obtain⟨k0,g0,_,w0⟩:=DataW.trod_int Tryz.underlying5 t0
 obtain⟨at_,sa,ca,sc,cc,sp,code,b1,b2,b3,b4,b5⟩:=qya t1
 obtain⟨k4,g4,_,w4⟩:=DataW.trod_int Tryz.underlying24 t2
 obtain⟨k5,g5,_,w5⟩:=DataW.trod_int Tryz.underlying24 t3
 obtain⟨k6,g6,_⟩:=DataW.trod_int Tryz.underlying3 t4
 obtain⟨r,g7,w7⟩:=q4x t5
 simp only[List.cons.injEq,and_true,QK]at g0 g4 g5 g6 g7
 refine⟨⟨k0,at_,sa,sp.length,sc,ca,code.length,cc,k4,k5,k6,r.1,r.2,sp,code⟩,?_,⟨qEN w0,b4,q5z w4,w7,q5z w5,rfl,rfl,b5⟩⟩
 unfold yr.cs
 rw[g0,b1,b2,b3,g4,g5,g6,g7.1,g7.2]
theorem yr.cs_len(a:yr):a.cs.length=9:=rfl
end
theorem qoC{base:Nat}{spare:Nat->Bool}{held:Bool}{v:Value}{d:DataW H}{p:List MemPlace}(hv:∃ a len cap,v=.slice a len cap)(h:DataW.Trod enc P W base spare held 50 v d p)(hu:P.underlying 50=some (.slice 67)) :
  ∃ l:List yr,vj W 9 v l.length (l.map yr.cs).flatten/\(∀ a∈l,q4g W a)/\l.length<=maxLen:=by
 obtain⟨fuel,hf⟩:=h
 obtain⟨a0,len0,cap0,rfl⟩:=hv
 obtain⟨l,h1,h2,h3,_⟩:=JG (f:=yr.cs) (Q:=q4g W) hu qmN yr.cs_len om (fun h=>qsf h) hf
 exact⟨l,h1,h2,h3⟩
theorem q4g.ok{X:qF}(hun:∀ w',St W w' X->St W w' []){a:yr}(h:q4g W a):q39 W X a:=by
 refine⟨h.kd,h.tat,h.at_,fun hl=>⟨h.sl,h.cl,⟨fun w' h'=>?_,?_⟩,⟨fun w' h'=>?_,h.tr.byte,?_,fun a n c e=>by have:=h.tr.cap a n c e;exact this⟩⟩⟩
 ·exact vj.old h.tr.rsp (qG.nil W) (hun w' h')
 ·unfold vL at hl
  rw[Bool.and_eq_true]at hl
  have:=of_decide_eq_true hl.2
  rw[h.sl];omega
 ·exact vj.old h.tr.rcode (qG.nil W) (hun w' h')
 ·unfold vL at hl
  rw[Bool.and_eq_true]at hl
  have:=of_decide_eq_true hl.1
  rw[h.cl];omega
theorem qA2{X:qF}(hun:∀ w',St W w' X->St W w' []){v:Value}{l:List yr}(hr:vj W 9 v l.length (l.map yr.cs).flatten)(ha:∀ a∈l,q4g W a)(hl:l.length<=maxLen):Z6 W X v l:=
 ⟨fun w' h'=>vj.old hr (qG.nil W) (hun w' h'),fun a h=>(ha a h).ok hun,(by have h2:maxLen=9223372036854775807:=(by decide);omega)⟩
theorem qqM{base:Nat}{spare:Nat->Bool}{held:Bool}{v:Value}{d:DataW H}{p:List MemPlace}{r:Reach}{b0:Nat}(hval:Value.okWide P W r b0 27 v)(h:DataW.Trod enc P W base spare held 27 v d p):∃ sec len slots:Int,v=.agg #[J sec,J len,J slots]:=by
 obtain⟨cs0,rfl,hsz⟩:=okWide_struct Tryz.underlying27 hval
 obtain⟨fuel,hf⟩:=h
 obtain⟨xs,n,_,_,hl,hlen,hf⟩:=DataW.trod_struct (cs:=cs0.toList) Tryz.underlying27 hf
 rw[qDt]at hl
 match hc:cs0.toList,hl with
 | [c0,c1,c2],_=>
 rw[hc]at hf
 have hx:∀ i,i<3->∃ y,xs[i]?=some y:=fun i hi=>⟨xs[i]'(by rw[hlen];exact hi),List.getElem?_eq_getElem _⟩
 obtain⟨y0,e0⟩:=hx 0 om
 obtain⟨y1,e1⟩:=hx 1 om
 obtain⟨y2,e2⟩:=hx 2 om
 obtain⟨k0,g0,_⟩:=DataW.trod_int Tryz.underlying3 ((hf 0 _ rfl).trans e0)
 obtain⟨k1,g1,_⟩:=DataW.trod_int Tryz.underlying3 ((hf 1 _ rfl).trans e1)
 obtain⟨k2,g2,_⟩:=DataW.trod_int Tryz.underlying3 ((hf 2 _ rfl).trans e2)
 simp[q6L]at g0 g1 g2
 subst g0 g1 g2
 exact⟨k0,k1,k2,by rw[<-Array.toArray_toList (xs:=cs0),hc]⟩
theorem readable50:P.readableRec 50=true:=kr
theorem qE8:50<P.types.size:=of_decide_eq_true kr
theorem readable27:P.readableRec 27=true:=kr
theorem qAS:27<P.types.size:=of_decide_eq_true kr
end Go.Fx.Tryz
namespace Go.Fx.Ch
open Go.Fx.Tryz
set_option linter.all false
set_option maxRecDepth 100000
def yd(s:qc):List Int:=(s.rows.drop (s.cur+1)++s.rows.take (s.cur+1)).flatten
def zk(s:qc):Prop:=(yd s).Pairwise (· < ·)
theorem q03{s s':qc}(p:Int->Bool)(h:s'.rows=s.rows.map fun r=>r.filter p)(hc:s'.cur=s.cur):yd s'=(yd s).filter p:=by
 unfold yd
 rw[h,hc,<-List.map_drop,<-List.map_take,<-List.map_append,Zj]
theorem q4y(s:qc):(yd s).Perm s.rows.flatten:=by
 unfold yd
 rw[List.flatten_append]
 refine(List.perm_append_comm).trans ?_
 rw[<-List.flatten_append,List.take_append_drop]
theorem zk.filter{s s':qc}(h:zk s)(p:Int->Bool)(hr:s'.rows=s.rows.map fun r=>r.filter p)(hc:s'.cur=s.cur):zk s':=by
 unfold zk
 rw[q03 p hr hc]
 exact List.Pairwise.filter _ h
theorem zk.same{s s':qc}(h:zk s)(hr:s'.rows=s.rows)(hc:s'.cur=s.cur):zk s':=by
 unfold zk yd
 rw[hr,hc];exact h
theorem qrh{s:qc}(hc:s.cur<s.rows.length):∃ T,yd s=(s.rows[(qx s).cur]?).getD []++T/\yd (qx s)=T++(s.rows[(qx s).cur]?).getD []:=by
 have hn:(qx s).cur=(s.cur+1) % s.rows.length:=rfl
 by_cases h:s.cur+1<s.rows.length
 ·have hm:(qx s).cur=s.cur+1:=by rw[hn,Nat.mod_eq_of_lt h]
  refine⟨(s.rows.drop (s.cur+2)++s.rows.take (s.cur+1)).flatten,?_,?_⟩
  ·unfold yd
   rw[hm,List.getElem?_eq_getElem h,List.drop_eq_getElem_cons h]
   simp only[List.cons_append,List.flatten_cons,List.flatten_append,Option.getD_some,List.append_assoc]
  ·unfold yd
   rw[hm,List.getElem?_eq_getElem h]
   show(s.rows.drop (s.cur+1+1)++s.rows.take (s.cur+1+1)).flatten=_
   rw[List.take_succ_eq_append_getElem h]
   simp only[List.flatten_append,List.flatten_cons,List.flatten_nil,List.append_nil,Option.getD_some,List.append_assoc]
 ·have he:s.cur+1=s.rows.length:=by omega
  have hm:(qx s).cur=0:=by rw[hn,he,Nat.mod_self]
  have h0:0<s.rows.length:=by omega
  refine⟨(s.rows.drop 1).flatten,?_,?_⟩
  ·unfold yd
   rw[hm,List.getElem?_eq_getElem h0,he,List.drop_length,List.take_length]
   have:=List.drop_eq_getElem_cons h0
   rw[List.drop_zero]at this
   rw[List.nil_append,Option.getD_some,<-List.flatten_cons,<-this]
  ·unfold yd
   rw[hm,List.getElem?_eq_getElem h0]
   show(s.rows.drop (0+1)++s.rows.take (0+1)).flatten=_
   rw[List.take_succ_eq_append_getElem h0]
   simp
theorem q6z{l:List Int}(h:l.Pairwise (· < ·)):zJ l=l:=by
 unfold zJ
 refine List.mergeSort_of_pairwise (h.imp fun hab=>?_)
 simp;omega
theorem qdW{s s2:qc}(hc:s.cur<s.rows.length)(ho:zk s)(hr:s2.rows=s.rows.map fun r=>r.filter fun n=>n ∉ zL (qx s))(hcu:s2.cur=(qx s).cur):yd s=zL (qx s)++yd s2/\zk s2:=by
 obtain⟨T,h1,h2⟩:=qrh hc
 have hp:=ho
 unfold zk at hp
 rw[h1,List.pairwise_append]at hp
 obtain⟨p1,p2,p3⟩:=hp
 have hrow:zL (qx s)=(s.rows[(qx s).cur]?).getD []:=by
  show zJ ((s.rows[(qx s).cur]?).getD [])=_
  exact q6z p1
 have hring:yd s2=T:=by
  have e:=q03 (s:=qx s) (s':=s2) (fun n=>n ∉ zL (qx s)) hr hcu
  rw[e,h2,hrow,List.filter_append]
  have e1:T.filter (fun n=>decide (n ∉ (s.rows[(qx s).cur]?).getD []))=T:=List.filter_eq_self.2 fun x hx=>by
   have:x ∉ (s.rows[(qx s).cur]?).getD []:=fun hm=>by have:=p3 x hm x hx;omega
   exact decide_eq_true this
  have e2:((s.rows[(qx s).cur]?).getD []).filter (fun n=>decide (n ∉ (s.rows[(qx s).cur]?).getD []))=[]:=List.filter_eq_nil_iff.2 fun x hx=>by simp[hx]
  rw[e1,e2,List.append_nil]
 refine⟨by rw[hring,hrow];exact h1,?_⟩
 unfold zk
 rw[hring];exact p2
variable {R:Int->TR->Prop}
theorem yg.ring{Q:qc->Prop}(hQ:JP Q){n:Nat}{s s':qc}{gone:List Int}(h:yg n s gone s'):qU s->Q s->zk s->yd s=gone++yd s'/\zk s'/\∀ r∈s.rows,(∀ x∈r,x∈gone)\/∀ x∈r,x ∉ gone:=by
 induction h with
 | done _=>exact fun _ _ ho=>⟨rfl,ho,fun r _=>.inr fun x _ hx=>by cases hx⟩
 | @step s s2 s' gone hf hF _ ih=>
  intro hb hq ho
  obtain⟨a,b,c,d,e⟩:=hF.round hQ hb hq
  have hcf:=hF.conf
  obtain⟨r1,r2⟩:=qdW hb.cur ho c.rows hcf.2.2.1
  obtain⟨i1,i2,i3⟩:=ih a b (zk.same r2 rfl rfl)
  have hring2:yd { s2 with ev:=s2.ev+(zL (qx s)).length }=yd s2:=rfl
  refine⟨?_,i2,fun r hr=>?_⟩
  ·rw[r1,List.append_assoc,<-i1,hring2]
  ·obtain⟨i,hi,rfl⟩:=List.mem_iff_getElem.1 hr
   have hnx:=hb.next
   by_cases hic:i=(qx s).cur
   ·refine .inl fun x hx=>List.mem_append_left _ ?_
    have:zL (qx s)=zJ s.rows[i]:=by
     unfold zL
     show zJ ((s.rows[(qx s).cur]?).getD [])=_
     rw[<-hic,List.getElem?_eq_getElem hi];rfl
    rw[this]
    exact(zQ _).mem_iff.2 hx
   ·have hdis:∀ x∈s.rows[i],x ∉ zL (qx s):=fun x hx hm=>by
     have hcl:(qx s).cur<s.rows.length:=hnx.cur
     have:zL (qx s)=zJ s.rows[(qx s).cur]:=by
      unfold zL
      show zJ ((s.rows[(qx s).cur]?).getD [])=_
      rw[List.getElem?_eq_getElem hcl];rfl
     rw[this]at hm
     have hm:=(zQ _).mem_iff.1 hm
     have hn:s.rows.flatten.Nodup:=hb.rows.nodup_iff.2 hb.nd
     have hp:=(List.pairwise_flatten.1 hn).2
     rcases Nat.lt_or_gt_of_ne hic with hlt | hgt
     ·exact(List.pairwise_iff_getElem.1 hp i _ hi hcl hlt x hx x hm) rfl
     ·exact(List.pairwise_iff_getElem.1 hp _ i hcl hi hgt x hm x hx) rfl
    have hsame:s.rows[i].filter (fun n=>decide (n ∉ zL (qx s)))=s.rows[i]:=List.filter_eq_self.2 fun x hx=>decide_eq_true (hdis x hx)
    have hm2:s.rows[i]∈s2.rows:=by
     rw[c.rows]
     exact List.mem_map.2 ⟨s.rows[i],hr,hsame⟩
    rcases i3 _ hm2 with hall | hnone
    ·exact .inl fun x hx=>List.mem_append_right _ (hall x hx)
    ·exact .inr fun x hx hm=>(List.mem_append.1 hm).elim (hdis x hx) (hnone x hx)
theorem qtd{s:qc}(hc:s.cur<s.rows.length)(t:TR):yd (zP s t)=yd s++[s.given+1]:=by
 have e:(zP s t).rows=s.rows.modify s.cur fun r=>r++[s.given+1]:=rfl
 have ec:(zP s t).cur=s.cur:=rfl
 unfold yd
 rw[e,ec]
 have h1:(s.rows.modify s.cur fun r=>r++[s.given+1]).drop (s.cur+1)=s.rows.drop (s.cur+1):=by
  apply List.ext_getElem?
  intro i
  have hne:¬ s.cur=s.cur+1+i:=by omega
  rw[List.getElem?_drop,List.getElem?_drop,List.getElem?_modify]
  simp only[hne,if_false]
  cases s.rows[s.cur+1+i]?<;>rfl
 have h2:(s.rows.modify s.cur fun r=>r++[s.given+1]).take (s.cur+1)=s.rows.take s.cur++[s.rows[s.cur]++[s.given+1]]:=by
  have hl:s.cur<(s.rows.modify s.cur fun r=>r++[s.given+1]).length:=by rw[List.length_modify];exact hc
  rw[List.take_succ_eq_append_getElem hl]
  congr 1
  ·apply List.ext_getElem?
   intro i
   rw[List.getElem?_take,List.getElem?_take]
   split
   ·have hne:¬ s.cur=i:=by omega
    rw[List.getElem?_modify]
    simp only[hne,if_false]
    cases s.rows[i]?<;>rfl
   ·rfl
  ·rw[List.getElem_modify,if_pos rfl]
 rw[h1,h2,List.take_succ_eq_append_getElem hc]
 simp only[List.flatten_append,List.flatten_cons,List.flatten_nil,List.append_nil,List.append_assoc]
theorem qU.ring{s:qc}(h:qU s):∀ x∈yd s,0<x/\x<=s.given:=fun x hx=>h.pos x (h.rows.mem_iff.1 ((q4y s).mem_iff.1 hx))
theorem zk.add{s:qc}(hb:qU s)(ho:zk s)(t:TR):zk (zP s t):=by
 unfold zk
 rw[qtd hb.cur]
 exact List.pairwise_append.2 ⟨ho,List.pairwise_singleton _ _,fun x hx y hy=>by
  rw[List.mem_singleton.1 hy]
  have:=(hb.ring x hx).2
  omega⟩
theorem zk.new{n:Nat}{len:Int}{k:Nat}:zk (vM n len k):=by
 have hf:(vM n len k).rows.flatten=[]:=List.flatten_eq_nil_iff.2 fun r hr=>(List.mem_replicate.1 hr).2
 have:yd (vM n len k)=[]:=by
  have:=(q4y (vM n len k)).length_eq
  rw[hf]at this
  exact List.length_eq_zero_iff.1 this
 unfold zk
 rw[this];exact List.Pairwise.nil
theorem qrF{s:qc}(h:qU s):(vt s).Nodup/\∀ x∈vt s,x∈keys s.items:=⟨(zQ _).nodup_iff.2 h.nd,fun x hx=>(zQ _).mem_iff.1 hx⟩
theorem qrv{s:qc}(h:qU s)(r:Int × Int):(jQ s r).Nodup/\∀ x∈jQ s r,x∈keys s.items:=by
 refine⟨(zQ _).nodup_iff.2 (h.nd.filter _),fun x hx=>?_⟩
 exact(List.mem_filter.1 ((zQ _).mem_iff.1 hx)).1
structure PI (R:Int->TR->Prop) (n:Nat) (len:Int) (k m:Nat) (s:qc):Prop where
 base:qU s
 q:QR R s
 ord:zk s
 rl:s.rows.length=n
 len:s.len=len
 k:s.k=k
 giv:s.given<=m
 tot:(s.items.length:Int)+s.ev+s.dr=s.given
theorem PI.new{n k:Nat}{len:Int}(h1:1<=n)(hn:n<=16)(h4:4<=k)(h16:k<=16)(hl0:0<=len)(hl:len<=1048576)(hb:qU (vM n len k)):PI R n len k 0 (vM n len k):=
 ⟨hb,⟨qQ.new n len k,fun x hx=>by cases hx⟩,zk.new,List.length_replicate,rfl,rfl,Int.le_refl _,rfl⟩
theorem q8k{s:qc}(id slot:Int):(zH s id slot).1.items.length=s.items.length/\(zH s id slot).1.ev=s.ev/\(zH s id slot).1.dr=s.dr:=by
 unfold zH
 split
 ·exact⟨rfl,rfl,rfl⟩
 ·rename_i h0
  obtain⟨h1,_,_⟩:=QI h0
  split
  ·exact⟨rfl,rfl,rfl⟩
  ·refine⟨?_,rfl,rfl⟩
   show(ze s.items (id,slot) _).length=_
   rw[<-qH,jT _ h1,qH]
theorem q3W{s:qc}(id slot:Int):(zp s id slot).1.items.length=s.items.length/\(zp s id slot).1.ev=s.ev/\(zp s id slot).1.dr=s.dr:=by
 unfold zp
 split
 ·exact⟨rfl,rfl,rfl⟩
 ·rename_i h0
  obtain⟨h1,_,_⟩:=QI h0
  refine⟨?_,rfl,rfl⟩
  show(ze s.items (id,slot) _).length=_
  rw[<-qH,jT _ h1,qH]
theorem qcA(s:qc)(id slot:Int):(zH s id slot).1.rows=s.rows/\(zH s id slot).1.cur=s.cur/\(zH s id slot).1.len=s.len/\(zH s id slot).1.k=s.k/\(zH s id slot).1.given=s.given:=by
 unfold zH
 split
 ·exact⟨rfl,rfl,rfl,rfl,rfl⟩
 ·split
  ·exact⟨rfl,rfl,rfl,rfl,rfl⟩
  ·exact⟨rfl,rfl,rfl,rfl,rfl⟩
theorem q3U(s:qc)(id slot:Int):(zp s id slot).1.rows=s.rows/\(zp s id slot).1.cur=s.cur/\(zp s id slot).1.len=s.len/\(zp s id slot).1.k=s.k/\(zp s id slot).1.given=s.given:=by
 unfold zp
 split
 ·exact⟨rfl,rfl,rfl,rfl,rfl⟩
 ·exact⟨rfl,rfl,rfl,rfl,rfl⟩
theorem PI.put{n k m:Nat}{len:Int}{s s1:qc}{t:TR}{gone:List Int}(hR:yF R)(h:PI R n len k m s)(ha:jq t.at_)(h0:yu s t=0)(hE:yg t.code.length s gone s1)(ht:R (s1.given+1) t):PI R n len k (m+1) (zP s1 t)/\q0R R s t gone s1/\yd s=gone++yd s1/\∀ r∈s.rows,(∀ x∈r,x∈gone)\/∀ x∈r,x ∉ gone:=by
 have hd:=quU hR h.base h.q ha h0 hE
 have hcf:=hE.conf
 obtain⟨r1,r2,r3⟩:=hE.ring (q15 hR) h.base h.q h.ord
 refine⟨⟨hd.base,hd.all ht,r2.add hd.base1 t,?_,?_,?_,?_,?_⟩,hd,r1,r3⟩
 ·show(s1.rows.modify s1.cur _).length=n
  rw[List.length_modify,hcf.2.2.2.2];exact h.rl
 ·show s1.len=len
  rw[hcf.1];exact h.len
 ·show s1.k=k
  rw[hcf.2.1];exact h.k
 ·show s1.given+1<=_
  have:=h.giv
  rw[hcf.2.2.1];omega
 ·show((zP s1 t).items.length:Int)+s1.ev+s1.dr=s1.given+1
  have h1:=congrArg List.length hd.keys
  rw[qH,List.length_append,qH]at h1
  simp only[List.length_cons,List.length_nil]at h1
  have h2:=hd.cnt
  have h3:=hd.ev
  have h4:=h.tot
  rw[hcf.2.2.1,hcf.2.2.2.1];omega
theorem PI.gone{n k m:Nat}{len:Int}{s s':qc}{l:List Int}(hR:yF R)(h:PI R n len k m s)(hF:zn s l s')(hn:l.Nodup)(hs:∀ x∈l,x∈keys s.items):PI R n len k m { s' with dr:=s'.dr+l.length }:=by
 obtain⟨b1,b2,b3,b4,b5,b6,b7⟩:=qps hR h.base h.q hF hn hs
 have hcf:=hF.conf
 refine⟨b1,b2,zk.filter (s:=s) h.ord (fun x=>x ∉ l) b3.rows hcf.2.2.1,?_,?_,?_,?_,?_⟩
 ·show s'.rows.length=n
  rw[hcf.2.2.2.2.2.2];exact h.rl
 ·show s'.len=len
  rw[hcf.1];exact h.len
 ·show s'.k=k
  rw[hcf.2.1];exact h.k
 ·show s'.given<=m
  rw[hcf.2.2.2.1];exact h.giv
 ·show(s'.items.length:Int)+s'.ev+(s'.dr+l.length)=s'.given
  have:=h.tot
  rw[b5,b6,b7];omega
theorem PI.mono{n k m m':Nat}{len:Int}{s:qc}(h:PI R n len k m s)(hm:m<=m'):PI R n len k m' s:=⟨h.base,h.q,h.ord,h.rl,h.len,h.k,by have:=h.giv;omega,h.tot⟩
theorem PI.act{n k m:Nat}{len:Int}{s s':qc}{a:yr}(hR:yF R)(h:PI R n len k m s)(ha:jq a.tat)(hRt:∀ x,R x a.tr)(hA:q2X s a s'):PI R n len k (m+1) s':=by
 cases hA with
 | put h1 h2 h3=>exact(h.put hR (t:=a.tr) ha h2 h3 (hRt _)).1
 | putNo _ _=>exact h.mono om
 | chain _=>
  obtain⟨b,q⟩:=qhM hR h.base h.q a.id a.slot
  obtain⟨c1,c2,c3,c4,c5⟩:=qcA s a.id a.slot
  obtain⟨d1,d2,d3⟩:=q8k (s:=s) a.id a.slot
  exact⟨b,q,zk.same h.ord c1 c2,by rw[c1];exact h.rl,by rw[c3];exact h.len,by rw[c4];exact h.k,by rw[c5];have:=h.giv;omega,by rw[c5,d1,d2,d3];exact h.tot⟩
 | unchain _=>
  obtain⟨b,q⟩:=q7u hR h.base h.q a.id a.slot
  obtain⟨c1,c2,c3,c4,c5⟩:=q3U s a.id a.slot
  obtain⟨d1,d2,d3⟩:=q3W (s:=s) a.id a.slot
  exact⟨b,q,zk.same h.ord c1 c2,by rw[c1];exact h.rl,by rw[c3];exact h.len,by rw[c4];exact h.k,by rw[c5];have:=h.giv;omega,by rw[c5,d1,d2,d3];exact h.tot⟩
 | drop _ hF=>
  obtain⟨d1,d2⟩:=qrv h.base (a.s1,a.s2)
  exact(h.gone hR hF d1 d2).mono om
 | flush _ hF=>
  obtain⟨d1,d2⟩:=qrF h.base
  exact(h.gone hR hF d1 d2).mono om
 | other=>exact h.mono om
end Go.Fx.Ch
