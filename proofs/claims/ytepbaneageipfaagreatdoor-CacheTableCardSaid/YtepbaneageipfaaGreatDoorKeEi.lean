/- A part of the proof. -/
import Derived.Test.YtepbaneageipfaaGreatDoorKdEi
import Derived.Test.YtepbaneageipfaaGreatDoorKaEi
import Derived.KernelRfl
import Derived.Laws.BytesArg
import Derived.Test.YtepbaneageipfaaGreatDoorRows
import Derived.Deep.Slices
import Derived.ProofKit
import Derived.LaidMore
import Derived.OpenShut
import Derived.JoinedOf
import Derived.Carry
import Derived.Stop.Joined
import Derived.Lay
set_option linter.all false
set_option autoImplicit true
set_option relaxedAutoImplicit true
noncomputable section
namespace Go.Fx.Tryz
open Go Go.Fx Go.Fx.Ch
open Go.Proofs
set_option linter.all false
set_option maxRecDepth 100000
@[irreducible] def q0j:Array Oper:=match cA Qa 60 with
 | .region _ ops _=>ops
 | _=>#[]
def qGy (i : Nat) : Oper := q0j.getD i { dst := none, op := .move (.tmp 0), type := 0, pos := "", after := #[], guard := none }
@[irreducible] def q5m(x18 x19:Int)(a20 a21:Addr):qi:=qi.mk 104 [(2,(Value.int .i64 x18)),(1,(Value.int .i64 x19)),(7,(Value.pointer (some a20))),(3,(Value.pointer (some a21)))] []
def qD(i:Nat)(e:qi)(w:World)(K:YT):Prop:=ZC P none q0j (qGy i) e w K
def Yn(i:Nat)(e:qi)(w:World)(K:YT):Prop:=qp5 P none q0j (q0j.toList.drop i) e w K
theorem q4L:q0j.size=39:=kr
theorem qt{i j:Nat}{e:qi}{w:World}{K:YT}(hj:i+1=j)(hi:i<39)(h:qD i e w fun e w=>Yn j e w K):Yn i e w K:=by
 subst hj
 unfold Yn
 have hl:q0j.toList.drop i=qGy i::q0j.toList.drop (i+1):=by
  have hi2:i<q0j.toList.length:=by rw[Array.length_toList,q4L];exact hi
  rw[List.drop_eq_getElem_cons hi2]
  congr 1
  unfold qGy
  rw[Array.getElem_toList,Array.getD_eq_getD_getElem?,Array.getElem?_eq_getElem (by simpa using hi2)]
  rfl
 rw[hl]
 exact h
theorem quq{e:qi}{w:World}{K:YT}(h:K e w):Yn 39 e w K:=by
 unfold Yn
 have hl:q0j.toList.drop 39=[]:=List.drop_eq_nil_of_le (by rw[Array.length_toList,q4L];exact Nat.le_refl _)
 rw[hl]
 exact h
theorem q9k(wq:World):(Instr.build 117 ([]:List (Nat × Value)).toArray).run P wq=.ok (.agg #[U 0,U 0,U 0,U 0]) wq:=kr
theorem q29(wq:World):(do eqGuard .neq 117 (.tmp 65) (.tmp 66) (.agg #[U 0,U 0,U 0,U 0]) (.agg #[U 0,U 0,U 0,U 0]);binOp .neq 117 (.agg #[U 0,U 0,U 0,U 0]) (.agg #[U 0,U 0,U 0,U 0]):Sem Value).run P wq=.ok (.bool false) wq:=kr
@[irreducible] def Ea1(x18 x19:Int)(a20 a21:Addr):qi:=((q5m x18 x19 a20 a21).put (some 31) (.pointer (some (a20.add 1))))
@[irreducible] def Ea2(x18 x19:Int)(a20 a21:Addr):qi:=((Ea1 x18 x19 a20 a21).put (some 32) (.bool false))
@[irreducible] def Ea3(x18 x19:Int)(a20 a21:Addr):qi:=((Ea2 x18 x19 a20 a21).put (some 33) (.bool true))
@[irreducible] def Ea4(x18 x19:Int)(a20 a21:Addr):qi:=((Ea3 x18 x19 a20 a21).put (some 34) (.bool true))
@[irreducible] def Ea5(x18 x19:Int)(a20 a21:Addr):qi:=(((Ea4 x18 x19 a20 a21).put (some 34) (.bool true)).put (some 35) (.pointer (some (a21.add 2))))
@[irreducible] def Ea6(x18 x19:Int)(a20 a21:Addr):qi:=(((Ea5 x18 x19 a20 a21).put (some 34) (.bool true)).put (some 36) (.int .i64 0))
@[irreducible] def Ea7(x18 x19:Int)(a20 a21:Addr):qi:=(((Ea6 x18 x19 a20 a21).put (some 34) (.bool true)).put (some 37) (.bool false))
@[irreducible] def Ea8(x18 x19:Int)(a20 a21:Addr):qi:=((Ea7 x18 x19 a20 a21).put (some 38) (.bool false))
@[irreducible] def Ea9(x18 x19:Int)(a20 a21:Addr):qi:=((Ea8 x18 x19 a20 a21).put (some 39) (.bool false))
@[irreducible] def qsS(x18 x19:Int)(a20 a21:Addr):qi:=(((Ea9 x18 x19 a20 a21).put (some 39) (.bool false)).put (some 40) (.pointer (some (a20.add 8))))
@[irreducible] def qHf(x18 x19:Int)(a20 a21:Addr):qi:=(((qsS x18 x19 a20 a21).put (some 39) (.bool false)).put (some 41) (.bool true))
@[irreducible] def qKf(x18 x19:Int)(a20 a21:Addr):qi:=(((qHf x18 x19 a20 a21).put (some 39) (.bool false)).put (some 42) (.bool false))
@[irreducible] def qI2(x18 x19:Int)(a20 a21:Addr):qi:=(((qKf x18 x19 a20 a21).put (some 39) (.bool false)).put (some 43) (.bool false))
@[irreducible] def qKz(x18 x19:Int)(a20 a21:Addr):qi:=(((qI2 x18 x19 a20 a21).put (some 43) (.bool false)).put (some 44) undef)
@[irreducible] def qJz(x18 x19:Int)(a20 a21:Addr):qi:=(((qKz x18 x19 a20 a21).put (some 43) (.bool false)).put (some 45) undef)
@[irreducible] def qKu(x18 x19:Int)(a20 a21:Addr):qi:=(((qJz x18 x19 a20 a21).put (some 43) (.bool false)).put (some 46) undef)
@[irreducible] def qJY(x18 x19:Int)(a20 a21:Addr):qi:=(((qKu x18 x19 a20 a21).put (some 39) (.bool false)).put (some 47) (.bool false))
@[irreducible] def qHs(x18 x19:Int)(a20 a21:Addr):qi:=((qJY x18 x19 a20 a21).put (some 48) (.bool false))
@[irreducible] def qIr(x18 x19:Int)(a20 a21:Addr):qi:=((qHs x18 x19 a20 a21).put (some 49) (.bool false))
@[irreducible] def quz(x18 x19:Int)(a20 a21:Addr):qi:=(((qIr x18 x19 a20 a21).put (some 49) (.bool false)).put (some 50) (.pointer (some (a20.add 9))))
@[irreducible] def qJn(x18 x19:Int)(a20 a21:Addr):qi:=(((quz x18 x19 a20 a21).put (some 49) (.bool false)).put (some 51) (.bool false))
@[irreducible] def qIl(x18 x19:Int)(a20 a21:Addr):qi:=(((qJn x18 x19 a20 a21).put (some 49) (.bool false)).put (some 52) (.bool true))
@[irreducible] def qId(x18 x19:Int)(a20 a21:Addr):qi:=(((qIl x18 x19 a20 a21).put (some 49) (.bool false)).put (some 53) (.bool true))
@[irreducible] def qtW(x18 x19:Int)(a20 a21:Addr):qi:=(((qId x18 x19 a20 a21).put (some 53) (.bool true)).put (some 54) (.pointer (some (a21.add 10))))
@[irreducible] def qI0(x18 x19:Int)(a20 a21:Addr):qi:=(((qtW x18 x19 a20 a21).put (some 53) (.bool true)).put (some 55) (.int .u32 0))
@[irreducible] def qGc(x18 x19:Int)(a20 a21:Addr):qi:=(((qI0 x18 x19 a20 a21).put (some 53) (.bool true)).put (some 56) (.bool false))
@[irreducible] def qGd(x18 x19:Int)(a20 a21:Addr):qi:=(((qGc x18 x19 a20 a21).put (some 49) (.bool false)).put (some 57) (.bool false))
@[irreducible] def qGA(x18 x19:Int)(a20 a21:Addr):qi:=((qGd x18 x19 a20 a21).put (some 58) (.bool false))
@[irreducible] def qKC(x18 x19:Int)(a20 a21:Addr):qi:=((qGA x18 x19 a20 a21).put (some 59) (.bool false))
@[irreducible] def qyh(x18 x19:Int)(a20 a21:Addr):qi:=(((qKC x18 x19 a20 a21).put (some 59) (.bool false)).put (some 60) (.pointer (some (a20.add 10))))
@[irreducible] def qIA(x18 x19:Int)(a20 a21:Addr):qi:=(((qyh x18 x19 a20 a21).put (some 59) (.bool false)).put (some 61) (.bool false))
@[irreducible] def qJV(x18 x19:Int)(a20 a21:Addr):qi:=(((qIA x18 x19 a20 a21).put (some 59) (.bool false)).put (some 62) (.bool true))
@[irreducible] def qIh(x18 x19:Int)(a20 a21:Addr):qi:=(((qJV x18 x19 a20 a21).put (some 59) (.bool false)).put (some 63) (.bool true))
@[irreducible] def qw8(x18 x19:Int)(a20 a21:Addr):qi:=(((qIh x18 x19 a20 a21).put (some 63) (.bool true)).put (some 64) (.pointer (some (a21.add 11))))
@[irreducible] def qw9(x18 x19:Int)(a20 a21:Addr):qi:=(((qw8 x18 x19 a20 a21).put (some 63) (.bool true)).put (some 65) (.agg #[U 0,U 0,U 0,U 0]))
@[irreducible] def qvi(x18 x19:Int)(a20 a21:Addr):qi:=(((qw9 x18 x19 a20 a21).put (some 63) (.bool true)).put (some 66) (.agg #[U 0,U 0,U 0,U 0]))
@[irreducible] def qI7(x18 x19:Int)(a20 a21:Addr):qi:=(((qvi x18 x19 a20 a21).put (some 63) (.bool true)).put (some 67) (.bool false))
@[irreducible] def qIU(x18 x19:Int)(a20 a21:Addr):qi:=(((qI7 x18 x19 a20 a21).put (some 59) (.bool false)).put (some 68) (.bool false))
@[irreducible] def qKl(x18 x19:Int)(a20 a21:Addr):qi:=((qIU x18 x19 a20 a21).put (some 69) (.bool false))
theorem ta0(x18 x19:Int)(a20 a21:Addr)(w:World)(K:YT):qD 0 (q5m x18 x19 a20 a21) w K=K (Ea1 x18 x19 a20 a21) w:=kr
theorem ta1(x18 x19:Int)(a20 a21:Addr)(w:World)(K:YT):qD 1 (Ea1 x18 x19 a20 a21) w K=(∃ b:Bool,w.cell? (a20.add 1)=some (.bool b)/\K ((Ea1 x18 x19 a20 a21).put (some 32) (.bool b)) w):=kr
theorem ta2(x18 x19:Int)(a20 a21:Addr)(w:World)(K:YT):qD 2 (Ea2 x18 x19 a20 a21) w K=K (Ea3 x18 x19 a20 a21) w:=kr
theorem ta3(x18 x19:Int)(a20 a21:Addr)(w:World)(K:YT):qD 3 (Ea3 x18 x19 a20 a21) w K=K (Ea4 x18 x19 a20 a21) w:=kr
theorem ta4(x18 x19:Int)(a20 a21:Addr)(w:World)(K:YT):qD 4 (Ea4 x18 x19 a20 a21) w K=K (Ea5 x18 x19 a20 a21) w:=kr
theorem ta5(x18 x19:Int)(a20 a21:Addr)(w:World)(K:YT):qD 5 (Ea5 x18 x19 a20 a21) w K=(∃ x:Int,w.cell? (a21.add 2)=some (.int .i64 x)/\K (((Ea5 x18 x19 a20 a21).put (some 34) (.bool true)).put (some 36) (.int .i64 x)) w):=kr
theorem ta6(x18 x19:Int)(a20 a21:Addr)(w:World)(K:YT):qD 6 (Ea6 x18 x19 a20 a21) w K=K (Ea7 x18 x19 a20 a21) w:=kr
theorem ta7(x18 x19:Int)(a20 a21:Addr)(w:World)(K:YT):qD 7 (Ea7 x18 x19 a20 a21) w K=K (Ea8 x18 x19 a20 a21) w:=kr
theorem ta8(x18 x19:Int)(a20 a21:Addr)(w:World)(K:YT):qD 8 (Ea8 x18 x19 a20 a21) w K=K (Ea9 x18 x19 a20 a21) w:=kr
theorem ta9(x18 x19:Int)(a20 a21:Addr)(w:World)(K:YT):qD 9 (Ea9 x18 x19 a20 a21) w K=K (qsS x18 x19 a20 a21) w:=kr
theorem qPg(x18 x19:Int)(a20 a21:Addr)(w:World)(K:YT):qD 10 (qsS x18 x19 a20 a21) w K=(∃ b:Bool,w.cell? (a20.add 8)=some (.bool b)/\K (((qsS x18 x19 a20 a21).put (some 39) (.bool false)).put (some 41) (.bool b)) w):=kr
theorem qMX(x18 x19:Int)(a20 a21:Addr)(w:World)(K:YT):qD 11 (qHf x18 x19 a20 a21) w K=K (qKf x18 x19 a20 a21) w:=kr
theorem qNI(x18 x19:Int)(a20 a21:Addr)(w:World)(K:YT):qD 12 (qKf x18 x19 a20 a21) w K=K (qI2 x18 x19 a20 a21) w:=kr
theorem qOU(x18 x19:Int)(a20 a21:Addr)(w:World)(K:YT):qD 13 (qI2 x18 x19 a20 a21) w K=K (qKz x18 x19 a20 a21) w:=kr
theorem qN9(x18 x19:Int)(a20 a21:Addr)(w:World)(K:YT):qD 14 (qKz x18 x19 a20 a21) w K=K (qJz x18 x19 a20 a21) w:=kr
theorem qOe(x18 x19:Int)(a20 a21:Addr)(w:World)(K:YT):qD 15 (qJz x18 x19 a20 a21) w K=K (qKu x18 x19 a20 a21) w:=kr
theorem qPa(x18 x19:Int)(a20 a21:Addr)(w:World)(K:YT):qD 16 (qKu x18 x19 a20 a21) w K=K (qJY x18 x19 a20 a21) w:=kr
theorem qNs(x18 x19:Int)(a20 a21:Addr)(w:World)(K:YT):qD 17 (qJY x18 x19 a20 a21) w K=K (qHs x18 x19 a20 a21) w:=kr
theorem qNi(x18 x19:Int)(a20 a21:Addr)(w:World)(K:YT):qD 18 (qHs x18 x19 a20 a21) w K=K (qIr x18 x19 a20 a21) w:=kr
theorem qOK(x18 x19:Int)(a20 a21:Addr)(w:World)(K:YT):qD 19 (qIr x18 x19 a20 a21) w K=K (quz x18 x19 a20 a21) w:=kr
theorem qP4(x18 x19:Int)(a20 a21:Addr)(w:World)(K:YT):qD 20 (quz x18 x19 a20 a21) w K=(∃ b:Bool,w.cell? (a20.add 9)=some (.bool b)/\K (((quz x18 x19 a20 a21).put (some 49) (.bool false)).put (some 51) (.bool b)) w):=kr
theorem qOX(x18 x19:Int)(a20 a21:Addr)(w:World)(K:YT):qD 21 (qJn x18 x19 a20 a21) w K=K (qIl x18 x19 a20 a21) w:=kr
theorem qOF(x18 x19:Int)(a20 a21:Addr)(w:World)(K:YT):qD 22 (qIl x18 x19 a20 a21) w K=K (qId x18 x19 a20 a21) w:=kr
theorem qMY(x18 x19:Int)(a20 a21:Addr)(w:World)(K:YT):qD 23 (qId x18 x19 a20 a21) w K=K (qtW x18 x19 a20 a21) w:=kr
theorem qOC(x18 x19:Int)(a20 a21:Addr)(w:World)(K:YT):qD 24 (qtW x18 x19 a20 a21) w K=(∃ x:Int,w.cell? (a21.add 10)=some (.int .u32 x)/\K (((qtW x18 x19 a20 a21).put (some 53) (.bool true)).put (some 55) (.int .u32 x)) w):=kr
theorem qOH(x18 x19:Int)(a20 a21:Addr)(w:World)(K:YT):qD 25 (qI0 x18 x19 a20 a21) w K=K (qGc x18 x19 a20 a21) w:=kr
theorem qOk(x18 x19:Int)(a20 a21:Addr)(w:World)(K:YT):qD 26 (qGc x18 x19 a20 a21) w K=K (qGd x18 x19 a20 a21) w:=kr
theorem qNn(x18 x19:Int)(a20 a21:Addr)(w:World)(K:YT):qD 27 (qGd x18 x19 a20 a21) w K=K (qGA x18 x19 a20 a21) w:=kr
theorem qO1(x18 x19:Int)(a20 a21:Addr)(w:World)(K:YT):qD 28 (qGA x18 x19 a20 a21) w K=K (qKC x18 x19 a20 a21) w:=kr
theorem qON(x18 x19:Int)(a20 a21:Addr)(w:World)(K:YT):qD 29 (qKC x18 x19 a20 a21) w K=K (qyh x18 x19 a20 a21) w:=kr
theorem qOc(x18 x19:Int)(a20 a21:Addr)(w:World)(K:YT):qD 30 (qyh x18 x19 a20 a21) w K=(∃ b:Bool,w.cell? (a20.add 10)=some (.bool b)/\K (((qyh x18 x19 a20 a21).put (some 59) (.bool false)).put (some 61) (.bool b)) w):=kr
theorem qNU(x18 x19:Int)(a20 a21:Addr)(w:World)(K:YT):qD 31 (qIA x18 x19 a20 a21) w K=K (qJV x18 x19 a20 a21) w:=kr
theorem qOR(x18 x19:Int)(a20 a21:Addr)(w:World)(K:YT):qD 32 (qJV x18 x19 a20 a21) w K=K (qIh x18 x19 a20 a21) w:=kr
theorem qOd(x18 x19:Int)(a20 a21:Addr)(w:World)(K:YT):qD 33 (qIh x18 x19 a20 a21) w K=K (qw8 x18 x19 a20 a21) w:=kr
theorem qOp(x18 x19:Int)(a20 a21:Addr)(w:World)(K:YT):qD 34 (qw8 x18 x19 a20 a21) w K=qU 4 (a21.add 11) w (fun cs=>K (((qw8 x18 x19 a20 a21).put (some 63) (.bool true)).put (some 65) (.agg cs)) w):=kr
theorem qO4(x18 x19:Int)(a20 a21:Addr)(w:World)(K:YT):qD 35 (qw9 x18 x19 a20 a21) w K=(∃ cs:Array Value,(∀ wq,(Instr.build 117 ([]:List (Nat × Value)).toArray).run P wq=.ok (.agg cs) wq)/\K (((qw9 x18 x19 a20 a21).put (some 63) (.bool true)).put (some 66) (.agg cs)) w):=kr
theorem qNa(x18 x19:Int)(a20 a21:Addr)(w:World)(K:YT):qD 36 (qvi x18 x19 a20 a21) w K=(∃ b:Bool,(∀ wq,(do eqGuard .neq 117 (.tmp 65) (.tmp 66) (.agg #[U 0,U 0,U 0,U 0]) (.agg #[U 0,U 0,U 0,U 0]);binOp .neq 117 (.agg #[U 0,U 0,U 0,U 0]) (.agg #[U 0,U 0,U 0,U 0]):Sem Value).run P wq=.ok (.bool b) wq)/\K (((qvi x18 x19 a20 a21).put (some 63) (.bool true)).put (some 67) (.bool b)) w):=kr
theorem qOz(x18 x19:Int)(a20 a21:Addr)(w:World)(K:YT):qD 37 (qI7 x18 x19 a20 a21) w K=K (qIU x18 x19 a20 a21) w:=kr
theorem qNN(x18 x19:Int)(a20 a21:Addr)(w:World)(K:YT):qD 38 (qIU x18 x19 a20 a21) w K=K (qKl x18 x19 a20 a21) w:=kr
theorem qa1(x18 x19:Int)(a20 a21:Addr):(Ea1 x18 x19 a20 a21).put (some 32) (.bool false)=Ea2 x18 x19 a20 a21:=kr
theorem qa5(x18 x19:Int)(a20 a21:Addr):((Ea5 x18 x19 a20 a21).put (some 34) (.bool true)).put (some 36) (.int .i64 0)=Ea6 x18 x19 a20 a21:=kr
theorem qN5(x18 x19:Int)(a20 a21:Addr):((qsS x18 x19 a20 a21).put (some 39) (.bool false)).put (some 41) (.bool true)=qHf x18 x19 a20 a21:=kr
theorem qNc(x18 x19:Int)(a20 a21:Addr):((quz x18 x19 a20 a21).put (some 49) (.bool false)).put (some 51) (.bool false)=qJn x18 x19 a20 a21:=kr
theorem qNd(x18 x19:Int)(a20 a21:Addr):((qtW x18 x19 a20 a21).put (some 53) (.bool true)).put (some 55) (.int .u32 0)=qI0 x18 x19 a20 a21:=kr
theorem qNJ(x18 x19:Int)(a20 a21:Addr):((qyh x18 x19 a20 a21).put (some 59) (.bool false)).put (some 61) (.bool false)=qIA x18 x19 a20 a21:=kr
theorem qOG(x18 x19:Int)(a20 a21:Addr):((qw8 x18 x19 a20 a21).put (some 63) (.bool true)).put (some 65) (.agg #[U 0,U 0,U 0,U 0])=qw9 x18 x19 a20 a21:=kr
theorem qNP(x18 x19:Int)(a20 a21:Addr):((qw9 x18 x19 a20 a21).put (some 63) (.bool true)).put (some 66) (.agg #[U 0,U 0,U 0,U 0])=qvi x18 x19 a20 a21:=kr
theorem qOZ(x18 x19:Int)(a20 a21:Addr):((qvi x18 x19 a20 a21).put (some 63) (.bool true)).put (some 67) (.bool false)=qI7 x18 x19 a20 a21:=kr
theorem qNW(x18 x19:Int)(a20 a21:Addr)(w:World)(K:YT)(c32:w.cell? (a20.add 1)=some (.bool false))(c36:w.cell? (a21.add 2)=some (.int .i64 0))(c41:w.cell? (a20.add 8)=some (.bool true))(c51:w.cell? (a20.add 9)=some (.bool false))(c55:w.cell? (a21.add 10)=some (.int .u32 0))(c61:w.cell? (a20.add 10)=some (.bool false))(cV:∀ K:Array Value->Prop,K #[U 0,U 0,U 0,U 0]->qU 4 (a21.add 11) w K)(hK:K (qKl x18 x19 a20 a21) w):Yn 0 (q5m x18 x19 a20 a21) w K:=by
 refine qt (i:=0) (j:=1) rfl (by decide) ?_
 rw[ta0]
 refine qt (i:=1) (j:=2) rfl (by decide) ?_
 rw[ta1]
 refine⟨false,c32,?_⟩
 rw[qa1]
 refine qt (i:=2) (j:=3) rfl (by decide) ?_
 rw[ta2]
 refine qt (i:=3) (j:=4) rfl (by decide) ?_
 rw[ta3]
 refine qt (i:=4) (j:=5) rfl (by decide) ?_
 rw[ta4]
 refine qt (i:=5) (j:=6) rfl (by decide) ?_
 rw[ta5]
 refine⟨0,c36,?_⟩
 rw[qa5]
 refine qt (i:=6) (j:=7) rfl (by decide) ?_
 rw[ta6]
 refine qt (i:=7) (j:=8) rfl (by decide) ?_
 rw[ta7]
 refine qt (i:=8) (j:=9) rfl (by decide) ?_
 rw[ta8]
 refine qt (i:=9) (j:=10) rfl (by decide) ?_
 rw[ta9]
 refine qt (i:=10) (j:=11) rfl (by decide) ?_
 rw[qPg]
 refine⟨true,c41,?_⟩
 rw[qN5]
 refine qt (i:=11) (j:=12) rfl (by decide) ?_
 rw[qMX]
 refine qt (i:=12) (j:=13) rfl (by decide) ?_
 rw[qNI]
 refine qt (i:=13) (j:=14) rfl (by decide) ?_
 rw[qOU]
 refine qt (i:=14) (j:=15) rfl (by decide) ?_
 rw[qN9]
 refine qt (i:=15) (j:=16) rfl (by decide) ?_
 rw[qOe]
 refine qt (i:=16) (j:=17) rfl (by decide) ?_
 rw[qPa]
 refine qt (i:=17) (j:=18) rfl (by decide) ?_
 rw[qNs]
 refine qt (i:=18) (j:=19) rfl (by decide) ?_
 rw[qNi]
 refine qt (i:=19) (j:=20) rfl (by decide) ?_
 rw[qOK]
 refine qt (i:=20) (j:=21) rfl (by decide) ?_
 rw[qP4]
 refine⟨false,c51,?_⟩
 rw[qNc]
 refine qt (i:=21) (j:=22) rfl (by decide) ?_
 rw[qOX]
 refine qt (i:=22) (j:=23) rfl (by decide) ?_
 rw[qOF]
 refine qt (i:=23) (j:=24) rfl (by decide) ?_
 rw[qMY]
 refine qt (i:=24) (j:=25) rfl (by decide) ?_
 rw[qOC]
 refine⟨0,c55,?_⟩
 rw[qNd]
 refine qt (i:=25) (j:=26) rfl (by decide) ?_
 rw[qOH]
 refine qt (i:=26) (j:=27) rfl (by decide) ?_
 rw[qOk]
 refine qt (i:=27) (j:=28) rfl (by decide) ?_
 rw[qNn]
 refine qt (i:=28) (j:=29) rfl (by decide) ?_
 rw[qO1]
 refine qt (i:=29) (j:=30) rfl (by decide) ?_
 rw[qON]
 refine qt (i:=30) (j:=31) rfl (by decide) ?_
 rw[qOc]
 refine⟨false,c61,?_⟩
 rw[qNJ]
 refine qt (i:=31) (j:=32) rfl (by decide) ?_
 rw[qNU]
 refine qt (i:=32) (j:=33) rfl (by decide) ?_
 rw[qOR]
 refine qt (i:=33) (j:=34) rfl (by decide) ?_
 rw[qOd]
 refine qt (i:=34) (j:=35) rfl (by decide) ?_
 rw[qOp]
 refine cV _ ?_
 rw[qOG]
 refine qt (i:=35) (j:=36) rfl (by decide) ?_
 rw[qO4]
 refine⟨_,q9k,?_⟩
 rw[qNP]
 refine qt (i:=36) (j:=37) rfl (by decide) ?_
 rw[qNa]
 refine⟨false,q29,?_⟩
 rw[qOZ]
 refine qt (i:=37) (j:=38) rfl (by decide) ?_
 rw[qOz]
 refine qt (i:=38) (j:=39) rfl (by decide) ?_
 rw[qNN]
 exact quq hK
theorem qO6(x18 x19:Int)(a20 a21:Addr)(w:World)(K:KT):ZW K .normal (qKl x18 x19 a20 a21) w=q0Y false x18 x19 a20 a21 w K:=kr
@[irreducible] def Eb1(x18 x19:Int)(a20 a21:Addr):qi:=((q5m x18 x19 a20 a21).put (some 31) (.pointer (some (a20.add 1))))
@[irreducible] def Eb2(x18 x19:Int)(a20 a21:Addr):qi:=((Eb1 x18 x19 a20 a21).put (some 32) (.bool false))
@[irreducible] def Eb3(x18 x19:Int)(a20 a21:Addr):qi:=((Eb2 x18 x19 a20 a21).put (some 33) (.bool true))
@[irreducible] def Eb4(x18 x19:Int)(a20 a21:Addr):qi:=((Eb3 x18 x19 a20 a21).put (some 34) (.bool true))
@[irreducible] def Eb5(x18 x19:Int)(a20 a21:Addr):qi:=(((Eb4 x18 x19 a20 a21).put (some 34) (.bool true)).put (some 35) (.pointer (some (a21.add 2))))
@[irreducible] def Eb6(x18 x19:Int)(a20 a21:Addr):qi:=(((Eb5 x18 x19 a20 a21).put (some 34) (.bool true)).put (some 36) (.int .i64 0))
@[irreducible] def Eb7(x18 x19:Int)(a20 a21:Addr):qi:=(((Eb6 x18 x19 a20 a21).put (some 34) (.bool true)).put (some 37) (.bool false))
@[irreducible] def Eb8(x18 x19:Int)(a20 a21:Addr):qi:=((Eb7 x18 x19 a20 a21).put (some 38) (.bool false))
@[irreducible] def Eb9(x18 x19:Int)(a20 a21:Addr):qi:=((Eb8 x18 x19 a20 a21).put (some 39) (.bool false))
@[irreducible] def qy9(x18 x19:Int)(a20 a21:Addr):qi:=(((Eb9 x18 x19 a20 a21).put (some 39) (.bool false)).put (some 40) (.pointer (some (a20.add 8))))
@[irreducible] def qJd(x18 x19:Int)(a20 a21:Addr):qi:=(((qy9 x18 x19 a20 a21).put (some 39) (.bool false)).put (some 41) (.bool true))
@[irreducible] def qGH(x18 x19:Int)(a20 a21:Addr):qi:=(((qJd x18 x19 a20 a21).put (some 39) (.bool false)).put (some 42) (.bool false))
@[irreducible] def qIK(x18 x19:Int)(a20 a21:Addr):qi:=(((qGH x18 x19 a20 a21).put (some 39) (.bool false)).put (some 43) (.bool false))
@[irreducible] def qH1(x18 x19:Int)(a20 a21:Addr):qi:=(((qIK x18 x19 a20 a21).put (some 43) (.bool false)).put (some 44) undef)
@[irreducible] def qH0(x18 x19:Int)(a20 a21:Addr):qi:=(((qH1 x18 x19 a20 a21).put (some 43) (.bool false)).put (some 45) undef)
@[irreducible] def qGS(x18 x19:Int)(a20 a21:Addr):qi:=(((qH0 x18 x19 a20 a21).put (some 43) (.bool false)).put (some 46) undef)
@[irreducible] def qK0(x18 x19:Int)(a20 a21:Addr):qi:=(((qGS x18 x19 a20 a21).put (some 39) (.bool false)).put (some 47) (.bool false))
@[irreducible] def qJq(x18 x19:Int)(a20 a21:Addr):qi:=((qK0 x18 x19 a20 a21).put (some 48) (.bool false))
@[irreducible] def qH9(x18 x19:Int)(a20 a21:Addr):qi:=((qJq x18 x19 a20 a21).put (some 49) (.bool false))
@[irreducible] def quy(x18 x19:Int)(a20 a21:Addr):qi:=(((qH9 x18 x19 a20 a21).put (some 49) (.bool false)).put (some 50) (.pointer (some (a20.add 9))))
@[irreducible] def qG3(x18 x19:Int)(a20 a21:Addr):qi:=(((quy x18 x19 a20 a21).put (some 49) (.bool false)).put (some 51) (.bool true))
@[irreducible] def qI6(x18 x19:Int)(a20 a21:Addr):qi:=(((qG3 x18 x19 a20 a21).put (some 49) (.bool false)).put (some 52) (.bool false))
@[irreducible] def qJ2(x18 x19:Int)(a20 a21:Addr):qi:=(((qI6 x18 x19 a20 a21).put (some 49) (.bool false)).put (some 53) (.bool false))
@[irreducible] def qH6(x18 x19:Int)(a20 a21:Addr):qi:=(((qJ2 x18 x19 a20 a21).put (some 53) (.bool false)).put (some 54) undef)
@[irreducible] def qIM(x18 x19:Int)(a20 a21:Addr):qi:=(((qH6 x18 x19 a20 a21).put (some 53) (.bool false)).put (some 55) undef)
@[irreducible] def qII(x18 x19:Int)(a20 a21:Addr):qi:=(((qIM x18 x19 a20 a21).put (some 53) (.bool false)).put (some 56) undef)
@[irreducible] def qGL(x18 x19:Int)(a20 a21:Addr):qi:=(((qII x18 x19 a20 a21).put (some 49) (.bool false)).put (some 57) (.bool false))
@[irreducible] def qIx(x18 x19:Int)(a20 a21:Addr):qi:=((qGL x18 x19 a20 a21).put (some 58) (.bool false))
@[irreducible] def qHi(x18 x19:Int)(a20 a21:Addr):qi:=((qIx x18 x19 a20 a21).put (some 59) (.bool false))
@[irreducible] def qwd(x18 x19:Int)(a20 a21:Addr):qi:=(((qHi x18 x19 a20 a21).put (some 59) (.bool false)).put (some 60) (.pointer (some (a20.add 10))))
@[irreducible] def qJO(x18 x19:Int)(a20 a21:Addr):qi:=(((qwd x18 x19 a20 a21).put (some 59) (.bool false)).put (some 61) (.bool false))
@[irreducible] def qIR(x18 x19:Int)(a20 a21:Addr):qi:=(((qJO x18 x19 a20 a21).put (some 59) (.bool false)).put (some 62) (.bool true))
@[irreducible] def qJc(x18 x19:Int)(a20 a21:Addr):qi:=(((qIR x18 x19 a20 a21).put (some 59) (.bool false)).put (some 63) (.bool true))
@[irreducible] def qtd(x18 x19:Int)(a20 a21:Addr):qi:=(((qJc x18 x19 a20 a21).put (some 63) (.bool true)).put (some 64) (.pointer (some (a21.add 11))))
@[irreducible] def qtO(x18 x19:Int)(a20 a21:Addr):qi:=(((qtd x18 x19 a20 a21).put (some 63) (.bool true)).put (some 65) (.agg #[U 0,U 0,U 0,U 0]))
@[irreducible] def qxv(x18 x19:Int)(a20 a21:Addr):qi:=(((qtO x18 x19 a20 a21).put (some 63) (.bool true)).put (some 66) (.agg #[U 0,U 0,U 0,U 0]))
@[irreducible] def qGr(x18 x19:Int)(a20 a21:Addr):qi:=(((qxv x18 x19 a20 a21).put (some 63) (.bool true)).put (some 67) (.bool false))
@[irreducible] def qGD(x18 x19:Int)(a20 a21:Addr):qi:=(((qGr x18 x19 a20 a21).put (some 59) (.bool false)).put (some 68) (.bool false))
@[irreducible] def qKt(x18 x19:Int)(a20 a21:Addr):qi:=((qGD x18 x19 a20 a21).put (some 69) (.bool false))
theorem tb0(x18 x19:Int)(a20 a21:Addr)(w:World)(K:YT):qD 0 (q5m x18 x19 a20 a21) w K=K (Eb1 x18 x19 a20 a21) w:=kr
theorem tb1(x18 x19:Int)(a20 a21:Addr)(w:World)(K:YT):qD 1 (Eb1 x18 x19 a20 a21) w K=(∃ b:Bool,w.cell? (a20.add 1)=some (.bool b)/\K ((Eb1 x18 x19 a20 a21).put (some 32) (.bool b)) w):=kr
theorem tb2(x18 x19:Int)(a20 a21:Addr)(w:World)(K:YT):qD 2 (Eb2 x18 x19 a20 a21) w K=K (Eb3 x18 x19 a20 a21) w:=kr
theorem tb3(x18 x19:Int)(a20 a21:Addr)(w:World)(K:YT):qD 3 (Eb3 x18 x19 a20 a21) w K=K (Eb4 x18 x19 a20 a21) w:=kr
theorem tb4(x18 x19:Int)(a20 a21:Addr)(w:World)(K:YT):qD 4 (Eb4 x18 x19 a20 a21) w K=K (Eb5 x18 x19 a20 a21) w:=kr
theorem tb5(x18 x19:Int)(a20 a21:Addr)(w:World)(K:YT):qD 5 (Eb5 x18 x19 a20 a21) w K=(∃ x:Int,w.cell? (a21.add 2)=some (.int .i64 x)/\K (((Eb5 x18 x19 a20 a21).put (some 34) (.bool true)).put (some 36) (.int .i64 x)) w):=kr
theorem tb6(x18 x19:Int)(a20 a21:Addr)(w:World)(K:YT):qD 6 (Eb6 x18 x19 a20 a21) w K=K (Eb7 x18 x19 a20 a21) w:=kr
theorem tb7(x18 x19:Int)(a20 a21:Addr)(w:World)(K:YT):qD 7 (Eb7 x18 x19 a20 a21) w K=K (Eb8 x18 x19 a20 a21) w:=kr
theorem tb8(x18 x19:Int)(a20 a21:Addr)(w:World)(K:YT):qD 8 (Eb8 x18 x19 a20 a21) w K=K (Eb9 x18 x19 a20 a21) w:=kr
theorem tb9(x18 x19:Int)(a20 a21:Addr)(w:World)(K:YT):qD 9 (Eb9 x18 x19 a20 a21) w K=K (qy9 x18 x19 a20 a21) w:=kr
theorem qOT(x18 x19:Int)(a20 a21:Addr)(w:World)(K:YT):qD 10 (qy9 x18 x19 a20 a21) w K=(∃ b:Bool,w.cell? (a20.add 8)=some (.bool b)/\K (((qy9 x18 x19 a20 a21).put (some 39) (.bool false)).put (some 41) (.bool b)) w):=kr
theorem qNK(x18 x19:Int)(a20 a21:Addr)(w:World)(K:YT):qD 11 (qJd x18 x19 a20 a21) w K=K (qGH x18 x19 a20 a21) w:=kr
theorem qNZ(x18 x19:Int)(a20 a21:Addr)(w:World)(K:YT):qD 12 (qGH x18 x19 a20 a21) w K=K (qIK x18 x19 a20 a21) w:=kr
theorem qNO(x18 x19:Int)(a20 a21:Addr)(w:World)(K:YT):qD 13 (qIK x18 x19 a20 a21) w K=K (qH1 x18 x19 a20 a21) w:=kr
theorem qOa(x18 x19:Int)(a20 a21:Addr)(w:World)(K:YT):qD 14 (qH1 x18 x19 a20 a21) w K=K (qH0 x18 x19 a20 a21) w:=kr
theorem qOt(x18 x19:Int)(a20 a21:Addr)(w:World)(K:YT):qD 15 (qH0 x18 x19 a20 a21) w K=K (qGS x18 x19 a20 a21) w:=kr
theorem qNh(x18 x19:Int)(a20 a21:Addr)(w:World)(K:YT):qD 16 (qGS x18 x19 a20 a21) w K=K (qK0 x18 x19 a20 a21) w:=kr
theorem qNM(x18 x19:Int)(a20 a21:Addr)(w:World)(K:YT):qD 17 (qK0 x18 x19 a20 a21) w K=K (qJq x18 x19 a20 a21) w:=kr
theorem qNB(x18 x19:Int)(a20 a21:Addr)(w:World)(K:YT):qD 18 (qJq x18 x19 a20 a21) w K=K (qH9 x18 x19 a20 a21) w:=kr
theorem qOP(x18 x19:Int)(a20 a21:Addr)(w:World)(K:YT):qD 19 (qH9 x18 x19 a20 a21) w K=K (quy x18 x19 a20 a21) w:=kr
theorem qN6(x18 x19:Int)(a20 a21:Addr)(w:World)(K:YT):qD 20 (quy x18 x19 a20 a21) w K=(∃ b:Bool,w.cell? (a20.add 9)=some (.bool b)/\K (((quy x18 x19 a20 a21).put (some 49) (.bool false)).put (some 51) (.bool b)) w):=kr
theorem qOm(x18 x19:Int)(a20 a21:Addr)(w:World)(K:YT):qD 21 (qG3 x18 x19 a20 a21) w K=K (qI6 x18 x19 a20 a21) w:=kr
theorem qOf(x18 x19:Int)(a20 a21:Addr)(w:World)(K:YT):qD 22 (qI6 x18 x19 a20 a21) w K=K (qJ2 x18 x19 a20 a21) w:=kr
theorem qPe(x18 x19:Int)(a20 a21:Addr)(w:World)(K:YT):qD 23 (qJ2 x18 x19 a20 a21) w K=K (qH6 x18 x19 a20 a21) w:=kr
theorem qNH(x18 x19:Int)(a20 a21:Addr)(w:World)(K:YT):qD 24 (qH6 x18 x19 a20 a21) w K=K (qIM x18 x19 a20 a21) w:=kr
theorem qNX(x18 x19:Int)(a20 a21:Addr)(w:World)(K:YT):qD 25 (qIM x18 x19 a20 a21) w K=K (qII x18 x19 a20 a21) w:=kr
theorem qNt(x18 x19:Int)(a20 a21:Addr)(w:World)(K:YT):qD 26 (qII x18 x19 a20 a21) w K=K (qGL x18 x19 a20 a21) w:=kr
theorem qOO(x18 x19:Int)(a20 a21:Addr)(w:World)(K:YT):qD 27 (qGL x18 x19 a20 a21) w K=K (qIx x18 x19 a20 a21) w:=kr
theorem qOJ(x18 x19:Int)(a20 a21:Addr)(w:World)(K:YT):qD 28 (qIx x18 x19 a20 a21) w K=K (qHi x18 x19 a20 a21) w:=kr
theorem qNY(x18 x19:Int)(a20 a21:Addr)(w:World)(K:YT):qD 29 (qHi x18 x19 a20 a21) w K=K (qwd x18 x19 a20 a21) w:=kr
theorem qNR(x18 x19:Int)(a20 a21:Addr)(w:World)(K:YT):qD 30 (qwd x18 x19 a20 a21) w K=(∃ b:Bool,w.cell? (a20.add 10)=some (.bool b)/\K (((qwd x18 x19 a20 a21).put (some 59) (.bool false)).put (some 61) (.bool b)) w):=kr
theorem qOh(x18 x19:Int)(a20 a21:Addr)(w:World)(K:YT):qD 31 (qJO x18 x19 a20 a21) w K=K (qIR x18 x19 a20 a21) w:=kr
theorem qN0(x18 x19:Int)(a20 a21:Addr)(w:World)(K:YT):qD 32 (qIR x18 x19 a20 a21) w K=K (qJc x18 x19 a20 a21) w:=kr
theorem qNj(x18 x19:Int)(a20 a21:Addr)(w:World)(K:YT):qD 33 (qJc x18 x19 a20 a21) w K=K (qtd x18 x19 a20 a21) w:=kr
theorem qOQ(x18 x19:Int)(a20 a21:Addr)(w:World)(K:YT):qD 34 (qtd x18 x19 a20 a21) w K=qU 4 (a21.add 11) w (fun cs=>K (((qtd x18 x19 a20 a21).put (some 63) (.bool true)).put (some 65) (.agg cs)) w):=kr
theorem qOA(x18 x19:Int)(a20 a21:Addr)(w:World)(K:YT):qD 35 (qtO x18 x19 a20 a21) w K=(∃ cs:Array Value,(∀ wq,(Instr.build 117 ([]:List (Nat × Value)).toArray).run P wq=.ok (.agg cs) wq)/\K (((qtO x18 x19 a20 a21).put (some 63) (.bool true)).put (some 66) (.agg cs)) w):=kr
theorem qOY(x18 x19:Int)(a20 a21:Addr)(w:World)(K:YT):qD 36 (qxv x18 x19 a20 a21) w K=(∃ b:Bool,(∀ wq,(do eqGuard .neq 117 (.tmp 65) (.tmp 66) (.agg #[U 0,U 0,U 0,U 0]) (.agg #[U 0,U 0,U 0,U 0]);binOp .neq 117 (.agg #[U 0,U 0,U 0,U 0]) (.agg #[U 0,U 0,U 0,U 0]):Sem Value).run P wq=.ok (.bool b) wq)/\K (((qxv x18 x19 a20 a21).put (some 63) (.bool true)).put (some 67) (.bool b)) w):=kr
theorem qNy(x18 x19:Int)(a20 a21:Addr)(w:World)(K:YT):qD 37 (qGr x18 x19 a20 a21) w K=K (qGD x18 x19 a20 a21) w:=kr
theorem qNA(x18 x19:Int)(a20 a21:Addr)(w:World)(K:YT):qD 38 (qGD x18 x19 a20 a21) w K=K (qKt x18 x19 a20 a21) w:=kr
theorem qb1(x18 x19:Int)(a20 a21:Addr):(Eb1 x18 x19 a20 a21).put (some 32) (.bool false)=Eb2 x18 x19 a20 a21:=kr
theorem qb5(x18 x19:Int)(a20 a21:Addr):((Eb5 x18 x19 a20 a21).put (some 34) (.bool true)).put (some 36) (.int .i64 0)=Eb6 x18 x19 a20 a21:=kr
theorem qN2(x18 x19:Int)(a20 a21:Addr):((qy9 x18 x19 a20 a21).put (some 39) (.bool false)).put (some 41) (.bool true)=qJd x18 x19 a20 a21:=kr
theorem qN7(x18 x19:Int)(a20 a21:Addr):((quy x18 x19 a20 a21).put (some 49) (.bool false)).put (some 51) (.bool true)=qG3 x18 x19 a20 a21:=kr
theorem qNE(x18 x19:Int)(a20 a21:Addr):((qwd x18 x19 a20 a21).put (some 59) (.bool false)).put (some 61) (.bool false)=qJO x18 x19 a20 a21:=kr
theorem qOb(x18 x19:Int)(a20 a21:Addr):((qtd x18 x19 a20 a21).put (some 63) (.bool true)).put (some 65) (.agg #[U 0,U 0,U 0,U 0])=qtO x18 x19 a20 a21:=kr
theorem qNe(x18 x19:Int)(a20 a21:Addr):((qtO x18 x19 a20 a21).put (some 63) (.bool true)).put (some 66) (.agg #[U 0,U 0,U 0,U 0])=qxv x18 x19 a20 a21:=kr
theorem qOD(x18 x19:Int)(a20 a21:Addr):((qxv x18 x19 a20 a21).put (some 63) (.bool true)).put (some 67) (.bool false)=qGr x18 x19 a20 a21:=kr
theorem qND(x18 x19:Int)(a20 a21:Addr)(w:World)(K:YT)(c32:w.cell? (a20.add 1)=some (.bool false))(c36:w.cell? (a21.add 2)=some (.int .i64 0))(c41:w.cell? (a20.add 8)=some (.bool true))(c51:w.cell? (a20.add 9)=some (.bool true))(c61:w.cell? (a20.add 10)=some (.bool false))(cV:∀ K:Array Value->Prop,K #[U 0,U 0,U 0,U 0]->qU 4 (a21.add 11) w K)(hK:K (qKt x18 x19 a20 a21) w):Yn 0 (q5m x18 x19 a20 a21) w K:=by
 refine qt (i:=0) (j:=1) rfl (by decide) ?_
 rw[tb0]
 refine qt (i:=1) (j:=2) rfl (by decide) ?_
 rw[tb1]
 refine⟨false,c32,?_⟩
 rw[qb1]
 refine qt (i:=2) (j:=3) rfl (by decide) ?_
 rw[tb2]
 refine qt (i:=3) (j:=4) rfl (by decide) ?_
 rw[tb3]
 refine qt (i:=4) (j:=5) rfl (by decide) ?_
 rw[tb4]
 refine qt (i:=5) (j:=6) rfl (by decide) ?_
 rw[tb5]
 refine⟨0,c36,?_⟩
 rw[qb5]
 refine qt (i:=6) (j:=7) rfl (by decide) ?_
 rw[tb6]
 refine qt (i:=7) (j:=8) rfl (by decide) ?_
 rw[tb7]
 refine qt (i:=8) (j:=9) rfl (by decide) ?_
 rw[tb8]
 refine qt (i:=9) (j:=10) rfl (by decide) ?_
 rw[tb9]
 refine qt (i:=10) (j:=11) rfl (by decide) ?_
 rw[qOT]
 refine⟨true,c41,?_⟩
 rw[qN2]
 refine qt (i:=11) (j:=12) rfl (by decide) ?_
 rw[qNK]
 refine qt (i:=12) (j:=13) rfl (by decide) ?_
 rw[qNZ]
 refine qt (i:=13) (j:=14) rfl (by decide) ?_
 rw[qNO]
 refine qt (i:=14) (j:=15) rfl (by decide) ?_
 rw[qOa]
 refine qt (i:=15) (j:=16) rfl (by decide) ?_
 rw[qOt]
 refine qt (i:=16) (j:=17) rfl (by decide) ?_
 rw[qNh]
 refine qt (i:=17) (j:=18) rfl (by decide) ?_
 rw[qNM]
 refine qt (i:=18) (j:=19) rfl (by decide) ?_
 rw[qNB]
 refine qt (i:=19) (j:=20) rfl (by decide) ?_
 rw[qOP]
 refine qt (i:=20) (j:=21) rfl (by decide) ?_
 rw[qN6]
 refine⟨true,c51,?_⟩
 rw[qN7]
 refine qt (i:=21) (j:=22) rfl (by decide) ?_
 rw[qOm]
 refine qt (i:=22) (j:=23) rfl (by decide) ?_
 rw[qOf]
 refine qt (i:=23) (j:=24) rfl (by decide) ?_
 rw[qPe]
 refine qt (i:=24) (j:=25) rfl (by decide) ?_
 rw[qNH]
 refine qt (i:=25) (j:=26) rfl (by decide) ?_
 rw[qNX]
 refine qt (i:=26) (j:=27) rfl (by decide) ?_
 rw[qNt]
 refine qt (i:=27) (j:=28) rfl (by decide) ?_
 rw[qOO]
 refine qt (i:=28) (j:=29) rfl (by decide) ?_
 rw[qOJ]
 refine qt (i:=29) (j:=30) rfl (by decide) ?_
 rw[qNY]
 refine qt (i:=30) (j:=31) rfl (by decide) ?_
 rw[qNR]
 refine⟨false,c61,?_⟩
 rw[qNE]
 refine qt (i:=31) (j:=32) rfl (by decide) ?_
 rw[qOh]
 refine qt (i:=32) (j:=33) rfl (by decide) ?_
 rw[qN0]
 refine qt (i:=33) (j:=34) rfl (by decide) ?_
 rw[qNj]
 refine qt (i:=34) (j:=35) rfl (by decide) ?_
 rw[qOQ]
 refine cV _ ?_
 rw[qOb]
 refine qt (i:=35) (j:=36) rfl (by decide) ?_
 rw[qOA]
 refine⟨_,q9k,?_⟩
 rw[qNe]
 refine qt (i:=36) (j:=37) rfl (by decide) ?_
 rw[qOY]
 refine⟨false,q29,?_⟩
 rw[qOD]
 refine qt (i:=37) (j:=38) rfl (by decide) ?_
 rw[qNy]
 refine qt (i:=38) (j:=39) rfl (by decide) ?_
 rw[qNA]
 exact quq hK
theorem qOi(x18 x19:Int)(a20 a21:Addr)(w:World)(K:KT):ZW K .normal (qKt x18 x19 a20 a21) w=q0Y false x18 x19 a20 a21 w K:=kr
theorem qd9{P:Program}{c:Code}{i:Nat}{ops:Array Oper}{r:Option Nat}{Lo X:List Nat}{K:Exit->YT}{e:qi}{w:World}(h:c=.region i ops false):CS P c r Lo X K e w=qp5 P r ops ops.toList e w (K .normal):=by subst h;rfl
def qP9:Nat:=match cA Qa 60 with
 | .region i _ _=>i
 | _=>0
theorem qch:∃ i,cA Qa 60=.region i q0j false:=⟨qP9,by kernel_rfl⟩
theorem qCP(x18 x19:Int)(a20 a21:Addr):(qi.mk 104 [(2,(Value.int .i64 x18)),(1,(Value.int .i64 x19)),(7,(Value.pointer (some a20))),(3,(Value.pointer (some a21)))] [])=q5m x18 x19 a20 a21:=kr
theorem qHr(x18 x19:Int)(a20 a21:Addr)(w:World)(K:KT):q1g x18 x19 a20 a21 w K=Yn 0 (q5m x18 x19 a20 a21) w (ZW K .normal):=by
 have h0:q1g x18 x19 a20 a21 w K=CS P (cA Qa 15) none [6] [6] (Qk K) (qi.mk 104 [(2,(Value.int .i64 x18)),(1,(Value.int .i64 x19)),(7,(Value.pointer (some a20))),(3,(Value.pointer (some a21)))] []) w:=by delta q1g;first | exact SGe | exact qB rfl
 have h1:CS P (cA Qa 15) none [6] [6] (Qk K) (qi.mk 104 [(2,(Value.int .i64 x18)),(1,(Value.int .i64 x19)),(7,(Value.pointer (some a20))),(3,(Value.pointer (some a21)))] []) w=(CS P (cA Qa 30) none [2,1,7,3] [6] (q0z K) (qi.mk 104 [(2,(Value.int .i64 x18)),(1,(Value.int .i64 x19)),(7,(Value.pointer (some a20))),(3,(Value.pointer (some a21)))] []) w):=qoj (a:=(cA Qa 30)) (b:=(cA Qa 31)) kr kr
 have h2:CS P (cA Qa 30) none [2,1,7,3] [6] (q0z K) (qi.mk 104 [(2,(Value.int .i64 x18)),(1,(Value.int .i64 x19)),(7,(Value.pointer (some a20))),(3,(Value.pointer (some a21)))] []) w=(CS P (cA Qa 60) none [69,2,1,7,3] [6] (ZW K) (qi.mk 104 [(2,(Value.int .i64 x18)),(1,(Value.int .i64 x19)),(7,(Value.pointer (some a20))),(3,(Value.pointer (some a21)))] []) w):=qoj (a:=(cA Qa 60)) (b:=(cA Qa 61)) kr kr
 obtain⟨i,hi⟩:=qch
 have h3:qp5 P none q0j q0j.toList (qi.mk 104 [(2,(Value.int .i64 x18)),(1,(Value.int .i64 x19)),(7,(Value.pointer (some a20))),(3,(Value.pointer (some a21)))] []) w (ZW K .normal)=Yn 0 (q5m x18 x19 a20 a21) w (ZW K .normal):=by rw[qCP];unfold Yn;rw[List.drop_zero]
 exact h0.trans (h1.trans (h2.trans ((qd9 hi).trans h3)))
end Go.Fx.Tryz
namespace Go.Fx.Tryz
set_option maxRecDepth 100000
open Go Go.Fx Go.Proofs
def c15:=qm Tryz.f15
def qPf:=Tryz.f15.results.toList
abbrev vL K:=qr P qPf K
def f15 w K:=CS P c15 none [0] [0] (vL K) (qz 202 []) w
abbrev qFR K:=kq c15 7 [0] [0] (vL K)
def qeC a b w K:=SG c15 29 [1] [0] (qFR K) 202 [(24,VB a),(1,VP b)] w
def qwy a w K:=SG c15 15 [0] [0] (vL K) 202 [(1,VP a)] w
abbrev qI8 K:=kq c15 15 [0] [0] (vL K)
abbrev qKm K:=kq c15 255 [0] [0] (vL K)
def Qy a b w K:=SG c15 1021 [1] [0] (qKm K) 202 [(86,VB a),(1,VP b)] w
def qdu a w K:=SG c15 511 [0] [0] (vL K) 202 [(1,VP a)] w
abbrev qEb K:=kq c15 511 [0] [0] (vL K)
abbrev qBc K:=kq c15 8191 [0] [0] (vL K)
def yf a b w K:=SG c15 32765 [1] [0] (qBc K) 202 [(133,VB a),(1,VP b)] w
def qet a w K:=SG c15 16383 [0] [0] (vL K) 202 [(1,VP a)] w
abbrev qCW K:=kq c15 16383 [0] [0] (vL K)
abbrev qDN K:=kq c15 262143 [0] [0] (vL K)
def Jm a b w K:=SG c15 1048573 [1] [0] (qDN K) 202 [(176,VB a),(1,VP b)] w
def qdg a w K:=SG c15 524287 [0] [0] (vL K) 202 [(1,VP a)] w
abbrev qDs K:=kq c15 524287 [0] [0] (vL K)
def q7H a w K:=SG c15 4194303 [0] [0] (vL K) 202 [(0,VB a)] w
theorem qrM:q7H a w K=(K (Value.bool a) w):=qB kr
theorem qrU:qdg c w K=(q9 P 21 [(Value.pointer c),(Value.int .u32 256)] w (fun n o=>∃ p:Int,∃ g:Bool,n=(.tuple #[(Value.int .u32 p),(Value.bool g)])/\q9 P 19 [(Value.int .u32 512)] o (fun q r=>∃ (h:OA) (i j:Nat),q=(.slice h i j)/\q9 P 49 [(Value.int .u32 700),(Value.slice h i j)] r (fun s t=>∃ k:Array Value,s=(.agg k)/\q9 P 18 [(Value.pointer c),(Value.agg k)] t (fun u d=>∃ v:Int,∃ (x:OA) (y z:Nat),∃ l:Int,u=(.tuple #[(Value.int .u32 v),(Value.slice x y z),(Value.int .i64 l)])/\qp (!g) (qp (l==5) (q9 P 23 [(Value.pointer c)] d (fun a0 b0=>∃ e:Array Value,a0=(.agg e)/\∃ f:Array Value,(∀ wq,(Instr.build 47 #[(0,(Value.int .i64 3)),(1,(Value.int .i64 267)),(3,(Value.int .i64 2)),(4,(Value.int .i64 1))]).run P wq=.ok (.agg f) wq)/\∃ m:Bool,(∀ wq,(do eqGuard .eql 47 (.tmp 198) (.tmp 199) (Value.agg e) (Value.agg f);binOp .eql 47 (Value.agg e) (Value.agg f):Sem Value).run P wq=.ok (.bool m) wq)/\q7H m b0 K)) (q7H false d K)) (q7H false d K)))))):=qB (qG [1,9] (qDs K) kr)
theorem qpx:Jm a c w K=(qp a (K (Value.bool false) w) (qdg c w K)):=qB kr
theorem qrk:qet c w K=(q9 P 50 [(Value.int .u32 512)] w (fun b0 c0=>∃ (g:OA) (h i:Nat),b0=(.slice g h i)/\q9 P 49 [(Value.int .u32 600),(Value.slice g h i)] c0 (fun d0 e0=>∃ j:Array Value,d0=(.agg j)/\q9 P 18 [(Value.pointer c),(Value.agg j)] e0 (fun f0 g0=>∃ h0:Int,∃ (i0:OA) (j0 l0:Nat),∃ m0:Int,f0=(.tuple #[(Value.int .u32 h0),(Value.slice i0 j0 l0),(Value.int .i64 m0)])/\q9 P 19 [(Value.int .u32 512)] g0 (fun n0 o0=>∃ (k:OA) (l m:Nat),n0=(.slice k l m)/\q9 P 49 [(Value.int .u32 700),(Value.slice k l m)] o0 (fun p0 q0=>∃ n:Array Value,p0=(.agg n)/\q9 P 18 [(Value.pointer c),(Value.agg n)] q0 (fun r0 s0=>∃ t0:Int,∃ (u0:OA) (v0 x0:Nat),∃ y0:Int,r0=(.tuple #[(Value.int .u32 t0),(Value.slice u0 v0 x0),(Value.int .i64 y0)])/\q9 P 50 [(Value.int .u32 512)] s0 (fun z0 A0=>∃ (o:OA) (p q:Nat),z0=(.slice o p q)/\q9 P 49 [(Value.int .u32 800),(Value.slice o p q)] A0 (fun B0 C0=>∃ r:Array Value,B0=(.agg r)/\q9 P 18 [(Value.pointer c),(Value.agg r)] C0 (fun D0 E0=>∃ F0:Int,∃ (G0:OA) (H0 I0:Nat),∃ J0:Int,D0=(.tuple #[(Value.int .u32 F0),(Value.slice G0 H0 I0),(Value.int .i64 J0)])/\q9 P 19 [(Value.int .u32 512)] E0 (fun L0 M0=>∃ (s:OA) (t u:Nat),L0=(.slice s t u)/\q9 P 49 [(Value.int .u32 900),(Value.slice s t u)] M0 (fun N0 O0=>∃ v:Array Value,N0=(.agg v)/\q9 P 18 [(Value.pointer c),(Value.agg v)] O0 (fun Q0 d=>∃ x:Int,∃ (f:OA) (e R0:Nat),∃ y:Int,Q0=(.tuple #[(Value.int .u32 x),(Value.slice f e R0),(Value.int .i64 y)])/\qp (y != 0) (Jm true c d K) (qp (x != 6) (Jm true c d K) (qp ((((e:Nat):Int):Int) != 2) (Jm true c d K) (qh f (fun S0=>0<=(0:Int)/\(0:Int)<(e:Nat)/\∃ z:Int,d.cell? (S0.add (Int.toNat 0*1))=some (.int .u32 z)/\qp (z != 1) (Jm true c d K) (qh f (fun T0=>0<=(1:Int)/\(1:Int)<(e:Nat)/\∃ a0:Int,d.cell? (T0.add (Int.toNat 1*1))=some (.int .u32 a0)/\Jm (a0 != 3) c d K))))))))))))))))))):=qB (qG [1] (qCW K) kr)
theorem qrx:yf a c w K=(qp a (K (Value.bool false) w) (qet c w K)):=qB kr
theorem qre:qdu c w K=(q9 P 41 [(Value.pointer c),(Value.int .u32 1),(Value.int .i64 8)] w (fun o0 p0=>∃ q0:Bool,∃ u:Int,o0=(.tuple #[(Value.bool q0),(Value.int .i64 u)])/\q9 P 41 [(Value.pointer c),(Value.int .u32 3),(Value.int .i64 7)] p0 (fun r0 s0=>∃ t0:Bool,∃ v:Int,r0=(.tuple #[(Value.bool t0),(Value.int .i64 v)])/\∃ x:Array Value,(∀ wq,(Instr.build 36 #[(0,(Value.int .u32 515)),(1,(Value.int .i64 1))]).run P wq=.ok (.agg x) wq)/\q9 P 20 [(Value.pointer c),(Value.agg x)] s0 (fun u0 v0=>∃ (y:OA) (i x0:Nat),u0=(.slice y i x0)/\q9 P 28 [(Value.pointer c),(Value.int .u32 1)] v0 (fun y0 z0=>∃ z:Array Value,∃ a0:Int,y0=(.tuple #[(Value.agg z),(Value.int .i64 a0)])/\qv (qx P 41) 41 z0 (fun h A0=>zT 3 (Addr.mk h 0 none) z A0 (fun d=>qp (u != 1) ((yf true c d.drew K)/\((yf true c d.drew K)/\(yf true c d.drew K))) (qp (v != 211) ((yf true c d.drew K)/\((yf true c d.drew K)/\(yf true c d.drew K))) (qp (a0 != 0) ((yf true c d.drew K)/\((yf true c d.drew K)/\(yf true c d.drew K))) (qp ((((i:Nat):Int):Int) != 1) ((yf true c d.drew K)/\((yf true c d.drew K)/\(yf true c d.drew K))) (qh y (fun B0=>0<=(0:Int)/\(0:Int)<(i:Nat)/\∃ b0:Int,d.drew.cell? (B0.add (Int.toNat 0*1))=some (.int .u32 b0)/\qp (b0 != 2) ((yf true c d.drew K)/\((yf true c d.drew K)/\(yf true c d.drew K))) (∃ (e:OA) (f g:Nat),d.drew.cell? ((Addr.mk h 0 none).add 2)=some (.slice e f g)/\(∃ j:ByteArray,∃ c0:World,(convert 38 9 (Value.slice e f g)).run P d.drew=.ok (.string j) c0/\q9 P 19 [(Value.int .u32 512)] c0 (fun C0 D0=>∃ (d0:OA) (e0 f0:Nat),C0=(.slice d0 e0 f0)/\∃ k:ByteArray,∃ g0:World,(convert 38 9 (Value.slice d0 e0 f0)).run P D0=.ok (.string k) g0/\∃ h0:Bool,(∀ wq,(do eqGuard .neq 9 (.tmp 129) (.tmp 131) (Value.string j) (Value.string k);binOp .neq 9 (Value.string j) (Value.string k):Sem Value).run P wq=.ok (.bool h0) wq)/\yf h0 c g0 K))/\(q9 P 19 [(Value.int .u32 512)] d.drew (fun E0 l=>∃ (m:OA) (n o:Nat),E0=(.slice m n o)/\l.cell? ((Addr.mk h 0 none).add 2)=some (.slice e f g)/\(∃ p:ByteArray,∃ i0:World,(convert 38 9 (Value.slice e f g)).run P l=.ok (.string p) i0/\∃ q:ByteArray,∃ j0:World,(convert 38 9 (Value.slice m n o)).run P i0=.ok (.string q) j0/\∃ l0:Bool,(∀ wq,(do eqGuard .neq 9 (.tmp 129) (.tmp 131) (Value.string p) (Value.string q);binOp .neq 9 (Value.string p) (Value.string q):Sem Value).run P wq=.ok (.bool l0) wq)/\yf l0 c j0 K)/\(∃ r:ByteArray,∃ s:World,(convert 38 9 (Value.slice m n o)).run P l=.ok (.string r) s/\s.cell? ((Addr.mk h 0 none).add 2)=some (.slice e f g)/\∃ t:ByteArray,∃ m0:World,(convert 38 9 (Value.slice e f g)).run P s=.ok (.string t) m0/\∃ n0:Bool,(∀ wq,(do eqGuard .neq 9 (.tmp 129) (.tmp 131) (Value.string t) (Value.string r);binOp .neq 9 (Value.string t) (Value.string r):Sem Value).run P wq=.ok (.bool n0) wq)/\yf n0 c m0 K)))))))))))))))):=qB (qG [1,2] (qEb K) kr)
theorem qrg:Qy a c w K=(qp a (K (Value.bool false) w) (qdu c w K)):=qB kr
theorem qrj:qwy c w K=(q9 P 19 [(Value.int .u32 512)] w (fun y z=>∃ (g:OA) (h i:Nat),y=(.slice g h i)/\q9 P 49 [(Value.int .u32 256),(Value.slice g h i)] z (fun a0 b0=>∃ j:Array Value,a0=(.agg j)/\q9 P 18 [(Value.pointer c),(Value.agg j)] b0 (fun c0 d0=>∃ k:Int,∃ (e0:OA) (f0 g0:Nat),∃ l:Int,c0=(.tuple #[(Value.int .u32 k),(Value.slice e0 f0 g0),(Value.int .i64 l)])/\q9 P 19 [(Value.int .u32 256)] d0 (fun h0 i0=>∃ (m:OA) (n o:Nat),h0=(.slice m n o)/\q9 P 49 [(Value.int .u32 512),(Value.slice m n o)] i0 (fun j0 l0=>∃ p:Array Value,j0=(.agg p)/\q9 P 18 [(Value.pointer c),(Value.agg p)] l0 (fun m0 n0=>∃ q:Int,∃ (o0:OA) (p0 q0:Nat),∃ r:Int,m0=(.tuple #[(Value.int .u32 q),(Value.slice o0 p0 q0),(Value.int .i64 r)])/\q9 P 21 [(Value.pointer c),(Value.int .u32 512)] n0 (fun r0 s0=>∃ s:Int,∃ t:Bool,r0=(.tuple #[(Value.int .u32 s),(Value.bool t)])/\q9 P 41 [(Value.pointer c),(Value.int .u32 1),(Value.int .i64 7)] s0 (fun t0 d=>∃ u:Bool,∃ v:Int,t0=(.tuple #[(Value.bool u),(Value.int .i64 v)])/\qp (l != 0) (Qy true c d K) (qp (r != 0) (Qy true c d K) (qp (v != 0) (Qy true c d K) (qp (k != 1) (Qy true c d K) (qp (q != 2) (Qy true c d K) (qp (s != 2) (Qy true c d K) (qp (!t) (Qy true c d K) (qp (!u) (Qy true c d K) (q9 P 23 [(Value.pointer c)] d (fun u0 v0=>∃ e:Array Value,u0=(.agg e)/\∃ f:Array Value,(∀ wq,(Instr.build 47 #[(0,(Value.int .i64 2)),(1,(Value.int .i64 22)),(2,(Value.int .i64 1))]).run P wq=.ok (.agg f) wq)/\∃ x:Bool,(∀ wq,(do eqGuard .neq 47 (.tmp 83) (.tmp 84) (Value.agg e) (Value.agg f);binOp .neq 47 (Value.agg e) (Value.agg f):Sem Value).run P wq=.ok (.bool x) wq)/\Qy x c v0 K)))))))))))))))))):=qB (qG [1,3,2] (qI8 K) kr)
theorem qpX:qeC a c w K=(qp a (K (Value.bool false) w) (qwy c w K)):=qB kr
theorem qGf:f15 w K=(∃ b:Array Value,(∀ wq,(Instr.build 27 #[(0,(Value.int .i64 2)),(1,(Value.int .i64 256)),(2,(Value.int .i64 16))]).run P wq=.ok (.agg b) wq)/\q9 P 16 [(Value.agg b)] w (fun e c=>∃ a:Option Addr,∃ d:Int,e=(.tuple #[(Value.pointer a),(Value.int .i64 d)])/\qp (d != 0) (qeC true a c K) (qeC a.isNone a c K))):=kr
theorem qKp w K(h:f15 w K):q9 P 15 [] w K:=qA c15 Tryz.func15 h
def c19:=qm Tryz.f19
def qOl:=Tryz.f19.results.toList
abbrev qIv K:=qr P qOl K
def f19 a w K:=CS P c19 none [2] [2] (qIv K) (qz 7 [(Value.int .u32 a)]) w
theorem qJG:f19 b w K=(∃ a:Array Value,(∀ wq,(Instr.build 119 #[(0,(Value.int .i64 40)),(8,(Value.int .i64 1)),(9,(Value.int .u32 b))]).run P wq=.ok (.agg a) wq)/\qJ 15 [(Value.agg a)]/\qv (([(Value.agg a)].map fun(v:Value)=>v.cells.toList).flatten.toArray) 119 w (fun f g=>q9 P 64 [(Value.slice (some (Addr.mk f 0 none)) 1 1)] g (fun h i=>∃ (c:OA) (d e:Nat),h=(.slice c d e)/\K (Value.slice c d e) i))):=kr
theorem qJX a w K(h:f19 a w K):q9 P 19 [(Value.int .u32 a)] w K:=qA c19 Tryz.func19 h
def c49:=qm Tryz.f49
def qOx:=Tryz.f49.results.toList
abbrev qKv K:=qr P qOx K
def f49 a b c d w K:=CS P c49 none [4] [4] (qKv K) (qz 11 [(Value.int .u32 a),(VS b c d)]) w
theorem qKs:f49 a c d e w K=(qv (qx P 41) 41 w (fun f i=>∃ b:Array Value,(∀ wq,(Instr.build 36 #[(0,(Value.int .u32 a)),(1,(Value.int .i64 4))]).run P wq=.ok (.agg b) wq)/\qJ 2 [(Value.agg b)]/\qv (([(Value.agg b)].map fun(v:Value)=>v.cells.toList).flatten.toArray) 36 i (fun j k=>∃ g:Array Value,(∀ wq,(Instr.build 41 #[(0,(Value.int .u32 a)),(1,(Value.slice (some (Addr.mk j 0 none)) 1 1)),(2,(Value.slice c d e))]).run P wq=.ok (.agg g) wq)/\zT 3 (Addr.mk f 0 none) g k (fun h=>qU 3 (Addr.mk f 0 none) h (fun l=>K (Value.agg l) h))))):=kr
theorem qI5 a b c d w K(h:f49 a b c d w K):q9 P 49 [(Value.int .u32 a),(Value.slice b c d)] w K:=qA c49 Tryz.func49 h
def c50:=qm Tryz.f50
def qOE:=Tryz.f50.results.toList
abbrev qge K:=qr P qOE K
def f50 a w K:=CS P c50 none [2] [2] (qge K) (qz 20 [(Value.int .u32 a)]) w
abbrev qHS K:=kq c50 7 [2] [2] (qge K)
abbrev qvx K:=qo 0 (qHS K)
def qAc K Y0 e w:=zt (fun e w=>CS P (cA c50 116) none [4,3,2,0] [2,0,3] (qu [4,3,2,0] Y0 (qvx K)) e w) e w
abbrev q7J K Y0:=qu [4,3,2,0] Y0 (qvx K)
def qlL a b c d f g h i w K Y0:=SG c50 116 [4,3,2,0] [2,0,3] (q7J K Y0) 20 [(4,VI a),(3,VS b c d),(2,VS f g h),(0,Value.int .u32 i)] w
def qwm a b c d f g h i w K Y0:=SG c50 233 [4,3,2,0] [2,0,3] (q7J K Y0) 20 [(3,VS a b c),(2,VS d f g),(0,Value.int .u32 h),(4,VI i)] w
def quQ a b c d f g h i w K Y0:=SG c50 467 [4,3,2,0] [2,0,3] (q7J K Y0) 20 [(3,VS a b c),(2,VS d f g),(0,Value.int .u32 h),(4,VI i)] w
theorem qqp:quQ a b c d e f g h w K Y0=(Y0 (qi.mk 20 [(4,(Value.int .i64 (IntKind.wrap .i64 (h+1)))),(3,(Value.slice a b c)),(2,(Value.slice d e f)),(0,(Value.int .u32 g))] []) w):=kr
theorem qpU:qwm b c d e f g h a w K Y0=(∃ i:Array Value,(∀ wq,(Instr.build 119 #[(0,(Value.int .i64 1))]).run P wq=.ok (.agg i) wq)/\qh b (fun j=>0<=a/\a<(c:Nat)/\zT 15 (j.add (Int.toNat a*15)) i w (fun k=>quQ b c d e f g h a k K Y0))):=kr
def qwv a b c d w K:=SG c50 15 [2] [2] (qge K) 20 [(0,Value.int .u32 a),(3,VS b c d)] w
theorem qpB:qwv b c d e w K=(∃ a:Array Value,(∀ wq,(Instr.build 119 #[(0,(Value.int .i64 40)),(8,(Value.int .i64 1)),(9,(Value.int .u32 b))]).run P wq=.ok (.agg a) wq)/\qJ 15 [(Value.agg a)]/\qv (([(Value.agg a)].map fun(v:Value)=>v.cells.toList).flatten.toArray) 119 w (fun m n=>∃ (f:OA) (g h:Nat),∃ i:World,(Builtin.append_ #[130,130] 130 #[(Value.slice c d e),(Value.slice (some (Addr.mk m 0 none)) 1 1)]).run P n=.ok (.slice f g h) i/\q9 P 64 [(Value.slice f g h)] i (fun o p=>∃ (j:OA) (k l:Nat),o=(.slice j k l)/\K (Value.slice j k l) p))):=kr
theorem qeV:qlL a b c d f g h e w K Y0=(qp (decide (a<39)) (qwm b c d f g h e a w K Y0) (qwv e b c d w K)):=kr
theorem qIa:f50 a w K=(∃ (b:OA) (c d:Nat),∃ e:World,(Instr.makeSlice 130 (Value.int .i64 39) (Value.int .i64 39)).run P w=.ok (.slice b c d) e/\qK (qAc K) (qi.mk 20 [(4,(Value.int .i64 0)),(3,(Value.slice b c d)),(2,(Value.slice none 0 0)),(0,(Value.int .u32 a))] []) e):=kr
theorem qGw a w K(h:f50 a w K):q9 P 50 [(Value.int .u32 a)] w K:=qA c50 Tryz.func50 h
def c64:=qm Tryz.f64
def qP3:=Tryz.f64.results.toList
abbrev qJE K:=qr P qP3 K
def f64 a b c w K:=CS P c64 none [2] [2] (qJE K) (qz 13 [(VS a b c)]) w
theorem qIj:f64 a b c w K=(q9 P 112 [(Value.slice a b c)] w (fun g h=>∃ (d:OA) (e f:Nat),∃ i:Int,∃ j:Int,g=(.tuple #[(Value.slice d e f),(Value.int .i64 i),(Value.int .i64 j)])/\K (Value.slice d e f) h)):=kr
theorem qHJ a b c w K(h:f64 a b c w K):q9 P 64 [(Value.slice a b c)] w K:=qA c64 Tryz.func64 h
def yA:=qm Tryz.f112
def qLT:=Tryz.f112.results.toList
abbrev ye K:=qr P qLT K
def f112 a b c w K:=CS P yA none [2,3,4] [2,3,4] (ye K) (qz 67 [(VS a b c)]) w
def qkt a b c w K:=SC yA 1 [2,3,4] [2,3,4] (ye K) 67 [(0,VS a b c)] w
abbrev qET K:=kq yA 1 [2,3,4] [2,3,4] (ye K)
def qly a b c d e f g h w K:=SC yA 3 [2,3,4] [2,3,4] (ye K) 67 [(4,VI a),(3,VI b),(2,VS c d e),(0,VS f g h)] w
abbrev qEy K:=kq yA 3 [2,3,4] [2,3,4] (ye K)
def qod a b c d e f g h i j k w K:=SC yA 7 [2,3,4] [2,3,4] (ye K) 67 [(5,VS a b c),(4,VI d),(3,VI e),(2,VS f g h),(0,VS i j k)] w
abbrev VE K:=kq yA 7 [2,3,4] [2,3,4] (ye K)
abbrev qzN K:=kq yA 14 [0,5] [2,3,4] (VE K)
def qnA a b c d e f g h i j k l w K:=SC yA 29 [0,5] [2,3,4] (VE K) 67 [(6,VI a),(5,VS b c d),(4,VI e),(3,VI f),(2,VS g h i),(0,VS j k l)] w
abbrev q6k K:=qo 0 (VE K)
def qwR K Y4 e w:=zt (fun e w=>CS P (cA yA 116) none [0,5,6,2,3,4] [2,3,4,0,5] (qu [0,5,6,2,3,4] Y4 (q6k K)) e w) e w
abbrev Zy K Y4:=qu [0,5,6,2,3,4] Y4 (q6k K)
def q80 a b c d f g h i j k l m w K Y4:=SG yA 116 [0,5,6,2,3,4] [2,3,4,0,5] (Zy K Y4) 67 [(0,VS a b c),(5,VS d f g),(6,VI h),(2,VS i j k),(3,VI l),(4,VI m)] w
abbrev qk5 K Y4:=kq yA 116 [0,5,6,2,3,4] [2,3,4,0,5] (Zy K Y4)
abbrev qBQ K Y4:=kq yA 232 [0,5,6,2,3,4] [2,3,4,0,5] (qk5 K Y4)
def qmD a b c d f g h i j k l m w K Y4:=SG yA 233 [0,5,6,2,3,4] [2,3,4,0,5] (Zy K Y4) 67 [(0,VS a b c),(5,VS d f g),(6,VI h),(2,VS i j k),(3,VI l),(4,VI m)] w
abbrev qof K Y4:=kq yA 233 [0,5,6,2,3,4] [2,3,4,0,5] (Zy K Y4)
abbrev Jg K Y4:=qo 1 (qof K Y4)
abbrev qBL K Y4:=kq yA 932 [0,5,2,3,4,6] [2,3,4,0,5,6] (Jg K Y4)
abbrev quU K Y4:=kq yA 1865 [0,5,2,3,4,6] [2,3,4,0,5,6] (Jg K Y4)
def VJ a b c d f g h i j k l m n o p q w K Y4:=SG yA 7461 [0,2,3,4,6,7,5] [2,3,4,0,5,6] (quU K Y4) 67 [(39,VB a),(0,VS b c d),(5,VS f g h),(6,VI i),(2,VS j k l),(3,VI m),(4,VI n),(7,VS o p q)] w
def qoB a b c d f g h i j k l m n o p w K Y4:=SG yA 3731 [0,5,2,3,4,6] [2,3,4,0,5,6] (Jg K Y4) 67 [(0,VS a b c),(2,VS d f g),(3,VI h),(4,VI i),(6,VI j),(7,VS k l m),(5,VS n o p)] w
abbrev qws K Y4:=kq yA 3731 [0,5,2,3,4,6] [2,3,4,0,5,6] (Jg K Y4)
def q7d a b c d f g h i j k l m w K Y4:=SG yA 467 [0,5,6,2,3,4] [2,3,4,0,5] (Zy K Y4) 67 [(0,VS a b c),(5,VS d f g),(2,VS h i j),(3,VI k),(4,VI l),(6,VI m)] w
theorem qiO:q7d a c d e f g h i j k l m w K Y4=(Y4 (qi.mk 67 [(0,(Value.slice a c d)),(5,(Value.slice e f g)),(6,(Value.int .i64 (IntKind.wrap .i64 (m+1)))),(2,(Value.slice h i j)),(3,(Value.int .i64 k)),(4,(Value.int .i64 l))] []) w):=qB kr
theorem qgH:qoB d e f g h i j k l o p q m c n w K Y4=(qp (decide ((((c:Nat):Int):Int)<=65536)) (∃ (r:OA) (s t:Nat),∃ u:World,(Builtin.append_ #[38,38] 38 #[(Value.slice m c n),(Value.slice o p q)]).run P w=.ok (.slice r s t) u/\q7d d e f r s t g h i j k l u K Y4) (q7d d e f m c n g h i j k l w K Y4)):=qB (qG [43,0,2,3,4,6,7,5] (qws K Y4) kr)
theorem qgQ:VJ c d e f g h i a j k l m n o p q w K Y4=(qp c (K (Value.tuple #[(Value.slice none 0 0),(Value.int .i64 a),(Value.int .i64 170)]) w) (qoB d e f j k l m n a o p q g h i w K Y4)):=qB kr
theorem qdK:qmD e d f g h i c j k l m n w K Y4=(qh e (fun x=>0<=c/\c<(d:Nat)/\qU 15 (x.add (Int.toNat c*15)) w (fun y=>q9 P 73 [(Value.agg y)] w (fun z r=>∃ (o:OA) (p q:Nat),∃ s:Int,z=(.tuple #[(Value.slice o p q),(Value.int .i64 s)])/\qp (s != 0) (VJ true e d f g h i c j k l m n o p q r K Y4) (qh e (fun a0=>0<=c/\c<(d:Nat)/\∃ t:Int,r.cell? (a0.add (Int.toNat c*15))=some (.int .i64 t)/\q9 P 117 [(Value.int .i64 t)] r (fun b0 u=>∃ v:Bool,b0=(.bool v)/\qp v (VJ (c != (IntKind.wrap .i64 ((((d:Nat):Int):Int)-1))) e d f g h i c j k l m n o p q u K Y4) (VJ false e d f g h i c j k l m n o p q u K Y4)))))))):=qB (qG [0,5,2,3,4,6] (qof K Y4) (Q8 1 [2,3,4,0,5,6] (Jg K Y4) (qG [0,5,6,2,3,4,7,8] (qBL K Y4) kr)))
def qnF a b c d f g w K:=SG yA 15 [2,3,4] [2,3,4] (ye K) 67 [(0,VS a b c),(5,VS d f g)] w
abbrev q2a K:=kq yA 15 [2,3,4] [2,3,4] (ye K)
abbrev qxP K:=kq yA 30 [5] [2,3,4] (q2a K)
def q2F a b c d f g h w K:=SG yA 61 [5] [2,3,4] (q2a K) 67 [(60,VB a),(0,VS b c d),(5,VS f g h)] w
def qc1 a b c w K:=SG yA 31 [2,3,4] [2,3,4] (ye K) 67 [(5,VS a b c)] w
abbrev q8x K:=kq yA 31 [2,3,4] [2,3,4] (ye K)
abbrev qtG K:=kq yA 62 [5] [2,3,4] (q8x K)
def qal a b c w K:=SG yA 63 [2,3,4] [2,3,4] (ye K) 67 [(5,VS a b c)] w
abbrev qyr K:=kq yA 63 [2,3,4] [2,3,4] (ye K)
theorem qaV:qal c d e w K=(K (Value.tuple #[(Value.slice c d e),(Value.int .i64 0),(Value.int .i64 0)]) w):=qB (qG [2,3,4] (qyr K) kr)
theorem q98:qc1 d c e w K=(qp (decide ((((c:Nat):Int):Int) > 65536)) (K (Value.tuple #[(Value.slice none 0 0),(Value.int .i64 0),(Value.int .i64 2)]) w) (qal d c e w K)):=qB (qG [5] (q8x K) (qG [65,5] (qtG K) kr))
theorem qby:q2F a g c h d e f w K=(qp a (K (Value.tuple #[(Value.slice none 0 0),(Value.int .i64 ((c:Nat):Int)),(Value.int .i64 170)]) w) (qc1 d e f w K)):=qB kr
theorem qin:qnF d c e f g h w K=(qp ((((c:Nat):Int):Int)==0) (q2F true d c e f g h w K) (qh d (fun k=>0<=(IntKind.wrap .i64 ((((c:Nat):Int):Int)-1))/\(IntKind.wrap .i64 ((((c:Nat):Int):Int)-1))<(c:Nat)/\∃ i:Int,w.cell? (k.add (Int.toNat (IntKind.wrap .i64 ((((c:Nat):Int):Int)-1))*15))=some (.int .i64 i)/\q9 P 117 [(Value.int .i64 i)] w (fun l m=>∃ j:Bool,l=(.bool j)/\q2F (!j) d c e f g h m K)))):=qB (qG [5] (q2a K) (qG [60,0,5] (qxP K) kr))
theorem q8Z:q80 d c e f g h i j k l m n w K Y4=(qp (decide (i<((c:Nat):Int))) (qmD d c e f g h i j k l m n w K Y4) (qnF d c e f g h w K)):=qB (qG [0,5,6,2,3,4] (qk5 K Y4) (qG [12,0,5,6,2,3,4] (qBQ K Y4) kr))
theorem qhV:qnA a c d e f g h i j k l m w K=(qK (qwR K) (qi.mk 67 [(0,(Value.slice k l m)),(5,(Value.slice c d e)),(6,(Value.int .i64 a)),(2,(Value.slice h i j)),(3,(Value.int .i64 g)),(4,(Value.int .i64 f))] []) w):=Eq.trans (b:=CS P (cA yA 29) none [0,5] [2,3,4] (VE K) (qi.mk 67 [(6,(VI a)),(5,(VS c d e)),(4,(VI f)),(3,(VI g)),(2,(VS h i j)),(0,(VS k l m))] []) w) kr (Eq.trans (Zc 0 [2,3,4,0,5] (q6k K) kr) ((qS (b:=(cA yA 116)) (X':=[2,3,4,0,5]) (H:=[0,5,6,2,3,4]) kr kr kr).trans kr))
theorem qiq:qod c d e f g h i j k l m w K=(qnA 0 c d e f g h i j k l m w K):=Eq.trans (b:=CS P (cA yA 7) none [2,3,4] [2,3,4] (ye K) (qi.mk 67 [(5,(VS c d e)),(4,(VI f)),(3,(VI g)),(2,(VS h i j)),(0,(VS k l m))] []) w) kr (Eq.trans (qZ [0,5] (VE K) kr) (Eq.trans (qZ [0,5,6,2,3,4] (qzN K) kr) kr))
theorem qiH:qly c d e f g h i j w K=(qod none 0 0 c d e f g h i j w K):=Eq.trans (b:=CS P (cA yA 3) none [2,3,4] [2,3,4] (ye K) (qi.mk 67 [(4,(VI c)),(3,(VI d)),(2,(VS e f g)),(0,(VS h i j))] []) w) kr (Eq.trans (qZ [0,5,2,3,4] (qEy K) kr) kr)
theorem qfI:qkt c d e w K=(qly 0 0 none 0 0 c d e w K):=Eq.trans (b:=CS P (cA yA 1) none [2,3,4] [2,3,4] (ye K) (qi.mk 67 [(0,(VS c d e))] []) w) kr (Eq.trans (qZ [0,2,3,4] (qET K) kr) kr)
theorem qBY:f112 a b c w K=(qkt a b c w K):=kr
theorem qES a b c w K(h:f112 a b c w K):q9 P 112 [(Value.slice a b c)] w K:=qA yA Tryz.func112 h
def c73:=qm Tryz.f73
def qOu:=Tryz.f73.results.toList
abbrev ja K:=qr P qOu K
def f73 a w K:=CS P c73 none [2,3] [2,3] (ja K) (qz 110 [(Value.agg a)]) w
def qxX a w K:=SG c73 7 [2,3] [2,3] (ja K) 110 [(1,VQ a)] w
def qhu a b c d f w K:=SG c73 63 [2,3] [2,3] (ja K) 110 [(1,VQ a),(4,VQ b),(6,VS c d f)] w
def qdN a b c d f w K:=SG c73 127 [2,3] [2,3] (ja K) 110 [(1,VQ a),(4,VQ b),(6,VS c d f)] w
def qdE a b c d f w K:=SG c73 255 [2,3] [2,3] (ja K) 110 [(1,VQ a),(4,VQ b),(6,VS c d f)] w
def q6H a b c d f w K:=SG c73 511 [2,3] [2,3] (ja K) 110 [(1,VQ a),(4,VQ b),(6,VS c d f)] w
def qee a b c d f w K:=SG c73 1023 [2,3] [2,3] (ja K) 110 [(1,VQ a),(4,VQ b),(6,VS c d f)] w
def qh5 a b c d f w K:=SG c73 2047 [2,3] [2,3] (ja K) 110 [(1,VQ a),(4,VQ b),(6,VS c d f)] w
def q7K a b c d f w K:=SG c73 4095 [2,3] [2,3] (ja K) 110 [(1,VQ a),(4,VQ b),(6,VS c d f)] w
def qi9 a b c d f w K:=SG c73 8191 [2,3] [2,3] (ja K) 110 [(1,VQ a),(4,VQ b),(6,VS c d f)] w
def qg1 a b c d f w K:=SG c73 16383 [2,3] [2,3] (ja K) 110 [(1,VQ a),(4,VQ b),(6,VS c d f)] w
def q0E a b c d f w K:=SG c73 32767 [2,3] [2,3] (ja K) 110 [(1,VQ a),(6,VS b c d),(4,VQ f)] w
def q5J a b c w K:=SG c73 65535 [2,3] [2,3] (ja K) 110 [(6,VS a b c)] w
theorem qhx:q5J a b c w K=(K (Value.tuple #[(Value.slice a b c),(Value.int .i64 0)]) w):=kr
theorem qdM:q0E d a b c e w K=(∃ f:Bool,w.cell? (e.add 10)=some (.bool f)/\qp f (qU 4 (d.add 11) w (fun n=>q9 P 121 [(Value.agg n)] w (fun o p=>∃ (g:OA) (h i:Nat),o=(.slice g h i)/\∃ (j:OA) (k l:Nat),∃ m:World,(Builtin.append_ #[38,38] 38 #[(Value.slice a b c),(Value.slice g h i)]).run P p=.ok (.slice j k l) m/\q5J j k l m K))) (q5J a b c w K)):=kr
theorem q51:qg1 a b c d e w K=(∃ f:Bool,w.cell? (b.add 9)=some (.bool f)/\qp f (∃ g:Int,w.cell? (a.add 10)=some (.int .u32 g)/\q9 P 120 [(Value.int .u32 g),(Value.int .i64 4)] w (fun o p=>∃ (h:OA) (i j:Nat),o=(.slice h i j)/\∃ (k:OA) (l m:Nat),∃ n:World,(Builtin.append_ #[38,38] 38 #[(Value.slice c d e),(Value.slice h i j)]).run P p=.ok (.slice k l m) n/\q0E a k l m b n K)) (q0E a c d e b w K)):=kr
theorem q4p:qi9 a b c d e w K=(∃ f:Bool,w.cell? (b.add 8)=some (.bool f)/\qp f (∃ g:Int,w.cell? (a.add 9)=some (.int .u32 g)/\q9 P 120 [(Value.int .u32 g),(Value.int .i64 4)] w (fun o p=>∃ (h:OA) (i j:Nat),o=(.slice h i j)/\∃ (k:OA) (l m:Nat),∃ n:World,(Builtin.append_ #[38,38] 38 #[(Value.slice c d e),(Value.slice h i j)]).run P p=.ok (.slice k l m) n/\qg1 a b k l m n K)) (qg1 a b c d e w K)):=kr
theorem q4C:q7K a b c d e w K=(∃ f:Bool,w.cell? (b.add 7)=some (.bool f)/\qp f (∃ g:Int,w.cell? (a.add 8)=some (.int .i64 g)/\q9 P 120 [(Value.int .u32 (IntKind.wrap .u32 g)),(Value.int .i64 2)] w (fun o p=>∃ (h:OA) (i j:Nat),o=(.slice h i j)/\∃ (k:OA) (l m:Nat),∃ n:World,(Builtin.append_ #[38,38] 38 #[(Value.slice c d e),(Value.slice h i j)]).run P p=.ok (.slice k l m) n/\qi9 a b k l m n K)) (qi9 a b c d e w K)):=kr
theorem qqr:qh5 a b c d e w K=(∃ g:Int,w.cell? (b.add 6)=some (.int .i64 g)/\qp (g != 0) (∃ f:Int,w.cell? (a.add 7)=some (.int .i64 f)/\qJ 1 [(Value.int .u8 (IntKind.wrap .u8 f))]/\qv (([(Value.int .u8 (IntKind.wrap .u8 f))].map fun(v:Value)=>v.cells.toList).flatten.toArray) 5 w (fun l m=>∃ (h:OA) (i j:Nat),∃ k:World,(Builtin.append_ #[38,38] 38 #[(Value.slice c d e),(Value.slice (some (Addr.mk l 0 none)) 1 1)]).run P m=.ok (.slice h i j) k/\q7K a b h i j k K)) (q7K a b c d e w K)):=kr
theorem qpI:qee a b c d e w K=(∃ g:Int,w.cell? (b.add 5)=some (.int .i64 g)/\qp (g != 0) (∃ f:Int,w.cell? (a.add 6)=some (.int .i64 f)/\qJ 1 [(Value.int .u8 (IntKind.wrap .u8 f))]/\qv (([(Value.int .u8 (IntKind.wrap .u8 f))].map fun(v:Value)=>v.cells.toList).flatten.toArray) 5 w (fun l m=>∃ (h:OA) (i j:Nat),∃ k:World,(Builtin.append_ #[38,38] 38 #[(Value.slice c d e),(Value.slice (some (Addr.mk l 0 none)) 1 1)]).run P m=.ok (.slice h i j) k/\qh5 a b h i j k K)) (qh5 a b c d e w K)):=kr
theorem qrD:q6H a b c d e w K=(∃ g:Int,w.cell? (b.add 4)=some (.int .i64 g)/\qp (g != 0) (∃ f:Int,w.cell? (a.add 5)=some (.int .i64 f)/\qJ 1 [(Value.int .u8 (IntKind.wrap .u8 f))]/\qv (([(Value.int .u8 (IntKind.wrap .u8 f))].map fun(v:Value)=>v.cells.toList).flatten.toArray) 5 w (fun l m=>∃ (h:OA) (i j:Nat),∃ k:World,(Builtin.append_ #[38,38] 38 #[(Value.slice c d e),(Value.slice (some (Addr.mk l 0 none)) 1 1)]).run P m=.ok (.slice h i j) k/\qee a b h i j k K)) (qee a b c d e w K)):=kr
theorem qq3:qdE a b c d e w K=(∃ g:Int,w.cell? (b.add 3)=some (.int .i64 g)/\qp (g != 0) (∃ f:Int,w.cell? (a.add 4)=some (.int .i64 f)/\qJ 1 [(Value.int .u8 (IntKind.wrap .u8 f))]/\qv (([(Value.int .u8 (IntKind.wrap .u8 f))].map fun(v:Value)=>v.cells.toList).flatten.toArray) 5 w (fun l m=>∃ (h:OA) (i j:Nat),∃ k:World,(Builtin.append_ #[38,38] 38 #[(Value.slice c d e),(Value.slice (some (Addr.mk l 0 none)) 1 1)]).run P m=.ok (.slice h i j) k/\q6H a b h i j k K)) (q6H a b c d e w K)):=kr
theorem qph:qdN a b c d e w K=(∃ g:Bool,w.cell? (b.add 2)=some (.bool g)/\qp g (∃ f:Int,w.cell? (a.add 3)=some (.int .i64 f)/\qJ 1 [(Value.int .u8 (IntKind.wrap .u8 f))]/\qv (([(Value.int .u8 (IntKind.wrap .u8 f))].map fun(v:Value)=>v.cells.toList).flatten.toArray) 5 w (fun l m=>∃ (h:OA) (i j:Nat),∃ k:World,(Builtin.append_ #[38,38] 38 #[(Value.slice c d e),(Value.slice (some (Addr.mk l 0 none)) 1 1)]).run P m=.ok (.slice h i j) k/\qdE a b h i j k K)) (qdE a b c d e w K)):=kr
theorem qq8:qhu a b c d e w K=(∃ g:Bool,w.cell? (b.add 1)=some (.bool g)/\qp g (∃ f:Int,w.cell? (a.add 2)=some (.int .i64 f)/\qJ 1 [(Value.int .u8 (IntKind.wrap .u8 f))]/\qv (([(Value.int .u8 (IntKind.wrap .u8 f))].map fun(v:Value)=>v.cells.toList).flatten.toArray) 5 w (fun l m=>∃ (h:OA) (i j:Nat),∃ k:World,(Builtin.append_ #[38,38] 38 #[(Value.slice c d e),(Value.slice (some (Addr.mk l 0 none)) 1 1)]).run P m=.ok (.slice h i j) k/\qdN a b h i j k K)) (qdN a b c d e w K)):=kr
theorem qrW:qxX a w K=(∃ f:Int,w.cell? a=some (.int .i64 f)/\q9 P 119 [(Value.int .i64 f)] w (fun o p=>∃ g:Array Value,∃ q:Bool,o=(.tuple #[(Value.agg g),(Value.bool q)])/\qv (qx P 172) 172 p (fun b r=>zT 11 (Addr.mk b 0 none) g r (fun h=>∃ d:Int,h.cell? a=some (.int .i64 d)/\qJ 1 [(Value.int .u8 (IntKind.wrap .u8 d))]/\qv (([(Value.int .u8 (IntKind.wrap .u8 d))].map fun(v:Value)=>v.cells.toList).flatten.toArray) 5 h (fun i c=>∃ j:Bool,c.cell? (Addr.mk b 0 none)=some (.bool j)/\qp j (∃ e:Int,c.cell? (a.add 1)=some (.int .i64 e)/\qJ 1 [(Value.int .u8 (IntKind.wrap .u8 e))]/\qv (([(Value.int .u8 (IntKind.wrap .u8 e))].map fun(v:Value)=>v.cells.toList).flatten.toArray) 5 c (fun s t=>∃ (k:OA) (l m:Nat),∃ n:World,(Builtin.append_ #[38,38] 38 #[(Value.slice (some (Addr.mk i 0 none)) 1 1),(Value.slice (some (Addr.mk s 0 none)) 1 1)]).run P t=.ok (.slice k l m) n/\qhu a (Addr.mk b 0 none) k l m n K)) (qhu a (Addr.mk b 0 none) (some (Addr.mk i 0 none)) 1 1 c K)))))):=kr
theorem qGY:f73 a w K=(qv a 119 w (fun b c=>qU 15 (Addr.mk b 0 none) c (fun f=>q9 P 118 [(Value.agg f)] c (fun g d=>∃ e:Bool,g=(.bool e)/\qp (!e) (K (Value.tuple #[(Value.slice none 0 0),(Value.int .i64 170)]) d) (qxX (Addr.mk b 0 none) d K))))):=kr
theorem qKo a w K(h:f73 a w K):q9 P 73 [(Value.agg a)] w K:=qA c73 Tryz.func73 h
end Go.Fx.Tryz
namespace Go.Fx.Tryz
open Go Go.Fx Go.Fx.Ch
open Go.Proofs
set_option linter.all false
set_option maxRecDepth 20000
variable {w0 w:World} {H X G:qE} {K:KT}
def X1:HI:={ op:=1 }
def X2(at_:Int):HI:={ op:=40,k:=1,i:=at_ }
theorem vE{cs vs:List Value}(h:vs.length=cs.length):qX cs 0 vs=vs:=by
 rw[Ya _ _ _ om]
 simp[h]
def Zg:Int->List Value
 | 1=>[.bool false,.bool false,.bool false,J 1,J 0,J 0,J 0,.bool false,.bool true,.bool false,.bool false]
 | _=>[.bool false,.bool false,.bool false,J 0,J 0,J 0,J 0,.bool true,.bool true,.bool true,.bool false]
def Is2(x:HI):Prop:=x=X1\/∃ a,x=X2 a
theorem qpO{x a b:Int}(hK:K (.bool (decide (a<=x)&&decide (x<=b))) w):q9 P 190 [J x,J a,J b] w K:=by
 refine qAj _ _ _ _ _ ?_
 rw[qAb,qg]
 refine⟨fun h=>?_,fun h=>?_⟩<;>rw[qfj]
 ·have:decide (a<=x)=true:=h
  rw[this,Bool.true_and]at hK;exact hK
 ·have:decide (a<=x)=false:=h
  rw[this,Bool.false_and]at hK;exact hK
theorem qlz{x:Int}(hK:K (.bool (x==40||x==41)) w):q9 P 117 [J x] w K:=by
 refine qAh _ _ _ ?_
 rw[qDY]
 cases h:(x==40)<;>rw[h]at hK<;>simp only[qe,qb,qds]
 ·exact hK
 ·exact hK
theorem ZM:qx P 172=#[.bool false,.bool false,.bool false,J 0,J 0,J 0,J 0,.bool false,.bool false,.bool false,.bool false]:=kr
theorem qJ4(wq:World):(Instr.build 172 [(3,J 1),(8,.bool true)].toArray).run P wq=.ok (.agg (Zg 1).toArray) wq:=kr
theorem qzU(wq:World):(Instr.build 172 [(7,.bool true),(8,.bool true),(9,.bool true)].toArray).run P wq=.ok (.agg (Zg 40).toArray) wq:=kr
theorem YR(x:Int):∀ v∈(Zg x).toArray.toList,v.oneCell'=true:=by
 unfold Zg
 split<;>simp[Value.oneCell']
theorem yp(x:Int):(Zg x).length=11:=by unfold Zg;split<;>rfl
theorem qts(x:Int):(Zg x).take 11=Zg x:=List.take_of_length_le (by rw[yp];exact Nat.le_refl _)
theorem qa0(h:St w0 w H){op:Int}(ho:op=1\/op=40)(hK:∀ w',St w0 w' H->K (.tuple [.agg (Zg op).toArray,.bool true].toArray) w'):q9 P 119 [J op] w K:=by
 refine qzv _ _ _ ?_
 rw[qAu,qiV,ZM]
 refine h.newC fun n2 w3 hn2 h3=>?_
 have out:∀ {w4:World},St w0 w4 ((n2,Cs [.bool false,.bool false,.bool false,J 0,J 0,J 0,J 0,.bool false,.bool false,.bool false,.bool false] 172)::H)->zT 11 (Addr.mk n2 0 none) (Zg op).toArray w4 (fun w10=>qU 11 (Addr.mk n2 0 none) w10 (fun cs11=>K (.tuple [.agg cs11,.bool true].toArray) w10)):=fun {w4} h4=>by
  refine h4.stA (k:=0) rfl (by simp[yp]) (by simp) (YR op) fun w10 h10=>h10.ldA (k:=0) rfl (by simp[zy]) ?_
  have:=hK w10 (h10.tail hn2)
  rw[vE (by simp[yp])]
  simpa [yp,qts]using this
 rw[qdn]
 rcases ho with rfl | rfl
 ·simp only[q2A,Int.reduceBEq,qe,qb]
  exact⟨_,qJ4,out h3⟩
 ·simp only[q2A,qhl,qfF,qef,qd8,qhc,qfC,qiP,q9T,q8p,Int.reduceBEq,qe,qb]
  exact⟨_,qzU,out h3⟩
theorem q4u(x:HI):∀ v∈(qq x).toArray.toList,v.oneCell'=true:=by simp[qq,Value.oneCell']
theorem qEd(h:St w0 w H){x:HI}(ho:x.op=1\/x.op=40)(hK:∀ w',St w0 w' H->K (.tuple [.agg (Zg x.op).toArray,.bool true].toArray) w'):q9 P 180 [.agg (qq x).toArray] w K:=by
 refine qFi _ _ _ ?_
 rw[qzP,ZM]
 refine h.newC fun n1 w2 hn1 h2=>h2.newC fun n3 w4 hn3 h4=>⟨x.op,h4.cell (k:=1) rfl,?_⟩
 refine qa0 h4 ho fun w7 h7=>⟨_,_,rfl,?_⟩
 refine h7.newC fun n10 w11 hn10 h11=>h11.stA (k:=0) rfl (by simp[yp]) (by simp) (YR _) fun w12 h12=>⟨x.op,h12.cell (k:=2) rfl,?_⟩
 have hne:(x.op==34)=false:=by rcases ho with h | h<;>rw[h]<;>decide
 simp only[hne,qb]
 rw[qhw,qb,qgq]
 rw[vE (by simp[yp])]at h12
 refine h12.ldA (k:=0) rfl (by simp[yp]) ?_
 rw[List.drop_zero,List.take_of_length_le (by simp[yp])]
 refine h12.stA (k:=1) rfl (by simp[yp]) (by simp) (YR _) fun w24 h24=>h24.ldA (k:=1) rfl (by simp[zy]) ?_
 rw[vE (by simp[yp])]
 have:=hK w24 (((h24.tail hn10).tail hn3).tail hn1)
 simpa [yp,qts]using this
theorem qBJ(h:St w0 w H){x:HI}(ho:x.op=1\/x.op=40)(hs:x.sub=0)(hK:∀ w',St w0 w' H->K (.bool true) w'):q9 P 181 [.agg (qq x).toArray] w K:=by
 refine qz3 _ _ _ ?_
 rw[qCS,qcY]
 refine h.newC fun n2 w3 hn2 h3=>?_
 rw[qdp]
 refine⟨x.op,h3.cell (k:=0) rfl,?_⟩
 have c1:w3.cell? ((Addr.mk n2 0 none).add 1)=some (J 0):=by rw[qa,h3.cell (k:=0) rfl,<-hs];rfl
 have hK:=hK w3 (h3.tail hn2)
 rcases ho with h | h<;>rw[h]<;>simp only[qhE,qeP,Int.reduceBEq,qe,qb,qie]<;>exact⟨0,c1,hK⟩
theorem qul(h:St w0 w H){x:HI}(ho:x.op=1\/x.op=40)(hs:x.ty=0)(hK:∀ w',St w0 w' H->K (.bool true) w'):q9 P 182 [.agg (qq x).toArray] w K:=by
 refine qE8 _ _ _ ?_
 rw[qzz,qgk]
 refine h.newC fun n2 w3 hn2 h3=>?_
 rw[qg3]
 refine⟨x.op,h3.cell (k:=0) rfl,?_⟩
 have c1:w3.cell? ((Addr.mk n2 0 none).add 3)=some (J 0):=by rw[qa,h3.cell (k:=0) rfl,<-hs];rfl
 have hK:=hK w3 (h3.tail hn2)
 rcases ho with h | h<;>rw[h]<;>simp only[qhQ,qer,Int.reduceBEq,qe,qb,qfr]<;>exact⟨0,c1,hK⟩
theorem qgh(h:St w0 w H){x:HI}(ho:x.op=1/\x.k=0\/x.op=40/\x.k=1)(hK:∀ w',St w0 w' H->K (.bool true) w'):q9 P 183 [.agg (qq x).toArray] w K:=by
 refine qD7 _ _ _ ?_
 rw[qDG,qel]
 refine h.newC fun n2 w3 hn2 h3=>?_
 rw[qex]
 refine⟨x.op,h3.cell (k:=0) rfl,?_⟩
 have c1:w3.cell? ((Addr.mk n2 0 none).add 8)=some (J x.k):=by rw[qa];exact h3.cell (k:=0) rfl
 have hK:=hK w3 (h3.tail hn2)
 rcases ho with⟨h,hk⟩ | ⟨h,hk⟩<;>rw[h]<;>rw[hk]at c1
 ·simp only[q28,q2u,q3k,q1L,q1M,q23,JO,Int.reduceBEq,qe,qb,q06]
  exact⟨0,c1,hK⟩
 ·simp only[q28,q2u,q3k,q1L,q1M,q23,JO,Int.reduceBEq,qe,qb,q06]
  refine⟨1,c1,qpO ⟨_,rfl,?_⟩⟩
  exact hK
theorem Qf{n k a b:Int}(hn:n=0)(hk:k=0\/k=1)(ha:0<a)(hK:K (.bool true) w):q9 P 184 [J n,J k,J a,J b] w K:=by
 refine qCy _ _ _ _ _ _ ?_
 subst hn
 rw[qF6]
 rcases hk with rfl | rfl
 ·simp only[Int.reduceBEq,qe];exact hK
 ·simp only[Int.reduceBEq,qb]
  rw[qdQ]
  simp only[Int.reduceBEq,qb]
  rw[qdV]
  simp only[ge_iff_le,Int.le_refl,decide_true,qe]
  rw[qh0,decide_eq_true ha]
  exact hK
theorem qLY(h:St w0 w H){x:HI}(hx:Is2 x)(hK:∀ w',St w0 w' H->K (.bool true) w'):q9 P 118 [.agg (qq x).toArray] w K:=by
 have ho:x.op=1/\x.k=0\/x.op=40/\x.k=1:=by
  rcases hx with rfl | ⟨a,rfl⟩
  ·exact .inl ⟨rfl,rfl⟩
  ·exact .inr ⟨rfl,rfl⟩
 have ho1:x.op=1\/x.op=40:=ho.imp And.left And.left
 have hz:x.sub=0/\x.frm=0/\x.ty=0/\x.d=0/\x.a=0/\x.b=0/\x.c=0/\x.chain=0/\x.v0=0/\x.v1=0/\x.v2=0/\x.v3=0:=by
  rcases hx with rfl | ⟨a,rfl⟩<;>exact⟨rfl,rfl,rfl,rfl,rfl,rfl,rfl,rfl,rfl,rfl,rfl,rfl⟩
 obtain⟨z1,z2,z3,z4,z5,z6,z7,z8,z9,z10,z11,z12⟩:=hz
 refine qDc _ _ _ ?_
 rw[qDJ]
 refine h.newC fun n1 w2 hn1 h2=>?_
 have h2:St w0 w2 ((n1,Cs (qq x) 119)::H):=h2
 refine h2.ldA (k:=0) rfl (by simp[qq]) ?_
 refine qyy _ _ _ _ _ ?_
 rw[qA1]
 refine h2.newC fun n3 w4 hn3 h4=>?_
 have h4:St w0 w4 ((n3,Cs (qq x) 119)::(n1,Cs (qq x) 119)::H):=h4
 refine h4.ldA (k:=0) rfl (by simp[qq]) ?_
 refine qEd (x:=x) h4 ho1 fun w7 h7=>⟨_,_,rfl,?_⟩
 rw[ZM]
 refine h7.newC fun n10 w11 hn10 h11=>h11.stA (k:=0) rfl (by simp[yp]) (by simp) (YR _) fun w12 h12=>?_
 rw[vE (by simp[yp])]at h12
 have h12:St w0 w12 ((n10,Cs (Zg x.op) 172)::(n3,Cs (qq x) 119)::(n1,Cs (qq x) 119)::H):=h12
 simp only[Bool.not_true,qb]
 refine h12.ldA (k:=1) rfl (by simp[qq]) ?_
 refine qBJ (x:=x) h12 ho1 z1 fun w100 h100=>⟨_,rfl,?_⟩
 simp only[Bool.not_true,qb]
 refine h100.ldA (k:=1) rfl (by simp[qq]) ?_
 refine qul (x:=x) h100 ho1 z3 fun w104 h104=>⟨_,rfl,?_⟩
 simp only[Bool.not_true,qb]
 refine h104.ldA (k:=1) rfl (by simp[qq]) ?_
 refine qgh (x:=x) h104 ho fun w108 h108=>⟨_,rfl,?_⟩
 rw[Bool.not_true,qfz,qb,qHr]
 have cx:∀ i,w108.cell? ((Addr.mk n3 0 none).add i)=(qq x)[i]?:=fun i=>by rw[qa,h108.cell (k:=1) rfl,Nat.zero_add]
 have cf:∀ i,w108.cell? ((Addr.mk n10 0 none).add i)=(Zg x.op)[i]?:=fun i=>by rw[qa,h108.cell (k:=0) rfl,Nat.zero_add]
 have cV:∀ K:Array Value->Prop,K #[U 0,U 0,U 0,U 0]->qU 4 ((Addr.mk n3 0 none).add 11) w108 K:=fun K hK=>by
  rw[qa]
  refine h108.ldA (k:=1) rfl (by simp[qq]) ?_
  have:((qq x).drop (0+11)).take 4=[U 0,U 0,U 0,U 0]:=by simp[qq,z9,z10,z11,z12]
  rw[this];exact hK
 have fin:q0Y false 6 12 (Addr.mk n10 0 none) (Addr.mk n3 0 none) w108 (fun r5 w5=>∃ b6:Bool,r5=Value.bool b6/\K (Value.bool b6) w5):=by
  rw[qhL,qb,qhr]
  have hd:(Zg x.op)[3]?=some (J 0)\/(Zg x.op)[3]?=some (J 1):=by rcases ho1 with h | h<;>rw[h]<;>simp[Zg]
  have hf:(Zg x.op)[4]?=some (J 0)/\(Zg x.op)[5]?=some (J 0)/\(Zg x.op)[6]?=some (J 0):=by rcases ho1 with h | h<;>rw[h]<;>simp[Zg]
  obtain⟨k,hk,hc⟩:∃ k:Int,(k=0\/k=1)/\w108.cell? ((Addr.mk n10 0 none).add 3)=some (J k):=by
   rcases hd with hd | hd
   ·exact⟨0,.inl rfl,by rw[cf];exact hd⟩
   ·exact⟨1,.inr rfl,by rw[cf];exact hd⟩
  refine⟨x.d,by rw[cx];rfl,k,hc,Qf z4 hk (by decide) ⟨_,rfl,?_⟩⟩
  simp only[qe]
  refine⟨x.a,by rw[cx];rfl,0,by rw[cf];exact hf.1,Qf z5 (.inl rfl) (by decide) ⟨_,rfl,?_⟩⟩
  simp only[qe]
  refine⟨x.b,by rw[cx];rfl,0,by rw[cf];exact hf.2.1,Qf z6 (.inl rfl) (by decide) ⟨_,rfl,?_⟩⟩
  simp only[qe]
  refine⟨x.c,by rw[cx];rfl,0,by rw[cf];exact hf.2.2,Qf z7 (.inl rfl) (by decide) ⟨_,rfl,?_⟩⟩
  rw[qdh]
  exact⟨_,rfl,hK w108 (((h108.tail hn10).tail hn3).tail hn1)⟩
 rcases ho1 with h1 | h1
 ·refine qNW 6 12 (Addr.mk n10 0 none) (Addr.mk n3 0 none) w108 _ ?_ ?_ ?_ ?_ ?_ ?_ cV ?_
  ·rw[cf,h1];rfl
  ·rw[cx,<-z2];rfl
  ·rw[cf,h1];rfl
  ·rw[cf,h1];rfl
  ·rw[cx,<-z8];rfl
  ·rw[cf,h1];rfl
  ·rw[qO6];exact fin
 ·refine qND 6 12 (Addr.mk n10 0 none) (Addr.mk n3 0 none) w108 _ ?_ ?_ ?_ ?_ ?_ cV ?_
  ·rw[cf,h1];rfl
  ·rw[cx,<-z2];rfl
  ·rw[cf,h1];rfl
  ·rw[cf,h1];rfl
  ·rw[cf,h1];rfl
  ·rw[qOi];exact fin
def leN(x:Int)(n:Nat):List Int:=(List.range n).map fun i=>x / 2 ^ (8*i) % 256
theorem qt9(x:Int)(n:Nat):leN x (n+1)=leN x n++[x / 2 ^ (8*n) % 256]:=by
 unfold leN
 rw[List.range_succ,List.map_append]
 rfl
theorem q79(x:Int)(n:Nat):(leN x n).length=n:=by simp[leN]
theorem q7Y(x:Int):IntKind.wrap .u8 x=x % 256:=by simp[IntKind.wrap,IntKind.bits,IntKind.signed]
theorem q8D{x:Int}(hx:j9 x){n:Nat}(hn:n<=4)(h:St w0 w H)(hK:∀ w' ov L,zx 1 5 ov n ((leN x n).map B) L->qF w0 L->St w0 w' (L++H)->K ov w'):q9 P 120 [U x,J n] w K:=by
 refine qDQ _ _ _ _ ?_
 rw[qBC]
 refine⟨fun m e w'=>∃ (j:Nat) (a:Option Addr) (c:Nat) (L:qE),j<=n/\m=n-j/\e=qi.mk 22 [(6,J j),(0,U x),(5,.slice a j c),(4,.slice none 0 0),(1,J n)] []/\zx 1 5 (.slice a j c) j ((leN x j).map B) L/\qF w0 L/\St w0 w' (L++H),⟨_,0,none,0,[],by omega,rfl,rfl,zx.nil 1 5,qF.nil _,h⟩,?_⟩
 rintro m e w' ⟨j,a,c,L,hj,rfl,rfl,hS,hN,hs⟩
 show q8v ..
 rw[qcv,qg]
 refine⟨fun hlt=>?_,fun hge=>?_⟩
 ·have hlt:j<n:=by have:=of_decide_eq_true hlt;omega
  rw[qdx]
  have e1:IntKind.wrap .i64 ((8:Int)*(j:Int))=((8*j:Nat):Int):=by rw[qc om om];omega
  have e2:IntKind.wrap .u64 ((8*j:Nat):Int)=((8*j:Nat):Int):=qv6 om om
  rw[e1,e2,Int.toNat_natCast]
  have e3:min (8*j) (IntKind.bits .u32)=8*j:=by
   have:IntKind.bits .u32=32:=rfl
   omega
  rw[e3,q7Y,Int.fdiv_eq_ediv_of_nonneg _ (Int.le_of_lt (Int.pow_pos (by decide)))]
  generalize hv:x / 2 ^ (8*j) % 256=v
  refine⟨by omega,⟨rfl,trivial⟩,hs.newC fun n15 w13 hn15 h13=>?_⟩
  have h13:St w0 w13 ([(n15,Cs [B (v)] 5)]++(L++H)):=h13
  obtain⟨g,cap,w17,L',hr,hS',h17,hN'⟩:=St.append (P:=P) 38 38 5 Tryz.t5 (B 0) 1 1 Tryz.underlying38 kr rfl rfl rfl rfl om (A:=[(n15,Cs [B (v)] 5)]) (news:=[B (v)]) h13 hS hN (j:=0) rfl rfl (fun u hu=>by rw[List.mem_singleton.1 hu];rfl) (by simp[maxLen];omega) om
  refine⟨_,_,_,w17,hr,?_⟩
  rw[qi8]
  refine⟨n-(j+1),by omega,j+1,some ⟨g,0,none⟩,cap,L',by omega,rfl,by rw[qc om om];rfl,?_,hN',St.tail (H:=L'++H) h17 hn15⟩
  rw[qt9,List.map_append,hv]
  exact hS'
 ·have:j=n:=by have:=of_decide_eq_false hge;omega
  subst this
  rw[qeA]
  exact hK w' _ L hS hN hs
theorem q0K{x:Int}{n:Nat}(hx:j9 x)(hn:n<=4){o:List Int}{a:Option Addr}{c:Nat}{Lo:qE}{Q:Option Addr->Nat->Nat->World->Prop}(h:St w0 w (Lo++H))(hS:zx 1 5 (.slice a o.length c) o.length (o.map B) Lo)(hN:qF w0 Lo)(ho:o.length<1000)
  (hQ:∀ w' a' c' Lo',zx 1 5 (.slice a' (o++leN x n).length c') (o++leN x n).length ((o++leN x n).map B) Lo'->qF w0 Lo'->St w0 w' (Lo'++H)->Q a' (o++leN x n).length c' w') :
  q9 P 120 [U x,J n] w (fun r w1=>∃ (sa:Option Addr) (sl sc:Nat),r=.slice sa sl sc/\∃ (ta:Option Addr) (tl tc:Nat),∃ w2:World,(Builtin.append_ #[38,38] 38 [.slice a o.length c,.slice sa sl sc].toArray).run P w1=.ok (.slice ta tl tc) w2/\Q ta tl tc w2):=by
 refine q8D hx hn h fun w1 ov M hM hMN h1=>?_
 obtain⟨sa,sc,e⟩:=hM.form
 subst e
 have h2:St w0 w1 ([]++(Lo++(M++H))):=h1.perm (qn fun c=>by simp only[List.nil_append,List.map_append,List.sum_append];omega)
 obtain⟨v',w',L',hr,hS',h3,hN'⟩:=St.appendN (P:=P) 38 38 5 Tryz.t5 (B 0) 1 1 Tryz.underlying38 kr rfl rfl rfl rfl om h2 hS hN hM (fun u hu=>h2.has _ _ (List.mem_append_right [] (List.mem_append_right Lo (List.mem_append_left _ hu)))) (q89 _) (by simp[maxLen];omega) om
 have hle:(o++leN x n).length=o.length+n:=by rw[List.length_append,q79]
 rw[<-hle,<-List.map_append]at hS'
 obtain⟨ta,tc,e⟩:=hS'.form
 subst e
 refine⟨sa,n,sc,rfl,ta,_,tc,w',hr,hQ w' ta tc L' hS' hN' ?_⟩
 have h4:St w0 w' (M++(L'++H)):=St.perm (H:=[]++(L'++(M++H))) h3 (qn fun c=>by simp only[List.nil_append,List.map_append,List.sum_append];omega)
 exact h4.sub hMN
def q0l(x:HI):List Int:=if x.op=1 then[1,0]++leN x.i 4 else[40]++leN 1 2++leN x.i 4++leN 0 4
theorem qyi{x:HI}(hx:Is2 x)(hi:j9 x.i)(h:St w0 w H)(hK:∀ w' a c L,zx 1 5 (.slice a (q0l x).length c) (q0l x).length ((q0l x).map B) L->qF w0 L->St w0 w' (L++H)->K (.tuple [.slice a (q0l x).length c,J 0].toArray) w'):q9 P 73 [.agg (qq x).toArray] w K:=by
 refine qKo _ _ _ ?_
 rw[qGY]
 refine h.newC fun n1 w2 hn1 h2=>?_
 have h2:St w0 w2 ((n1,Cs (qq x) 119)::H):=h2
 refine h2.ldA (k:=0) rfl (by simp[qq]) ?_
 refine qLY h2 hx fun w5 h5=>⟨_,rfl,?_⟩
 simp only[Bool.not_true,qb]
 rw[qrW]
 have ho1:x.op=1\/x.op=40:=by
  rcases hx with rfl | ⟨a,rfl⟩
  ·exact .inl rfl
  ·exact .inr rfl
 refine⟨x.op,h5.cell (k:=0) rfl,qa0 h5 ho1 fun w10 h10=>⟨_,_,rfl,?_⟩⟩
 rw[ZM]
 refine h10.newC fun n13 w14 hn13 h14=>h14.stA (k:=0) rfl (by simp[yp]) (by simp) (YR _) fun w15 h15=>?_
 rw[vE (by simp[yp])]at h15
 have h15:St w0 w15 ((n13,Cs (Zg x.op) 172)::(n1,Cs (qq x) 119)::H):=h15
 refine⟨x.op,h15.cell (k:=1) rfl,⟨rfl,trivial⟩,h15.newC fun n20 w18 hn20 h18=>?_⟩
 rw[q7Y]at h18
 have h18:St w0 w18 ([(n20,Cs [B (x.op % 256)] 5)]++((n13,Cs (Zg x.op) 172)::(n1,Cs (qq x) 119)::H)):=h18
 have hS:zx 1 5 (.slice (some ⟨n20,0,none⟩) 1 1) 1 ([x.op % 256].map B) [(n20,Cs [B (x.op % 256)] 5)]:=⟨rfl,.inr ⟨n20,1,_,rfl,rfl,Nat.le_refl _,by decide,rfl,rfl⟩⟩
 have hN:qF w0 [(n20,Cs [B (x.op % 256)] 5)]:=fun y hy=>by rw[List.mem_singleton.1 hy];exact hn20
 have cf:∀ {w2:World} {L:qE} (i:Nat),St w0 w2 (L++((n13,Cs (Zg x.op) 172)::(n1,Cs (qq x) 119)::H))->w2.cell? ((Addr.mk n13 0 none).add i)=(Zg x.op)[i]?:=fun {w2 L} i h2=>by
  rw[qa,qw (h2.has _ _ (List.mem_append_right L (.head _))),Nat.zero_add]
 have cx:∀ {w2:World} {L:qE} (i:Nat),St w0 w2 (L++((n13,Cs (Zg x.op) 172)::(n1,Cs (qq x) 119)::H))->w2.cell? ((Addr.mk n1 0 none).add i)=(qq x)[i]?:=fun {w2 L} i h2=>by
  rw[qa,qw (h2.has _ _ (List.mem_append_right L (.tail _ (.head _)))),Nat.zero_add]
 have fin:∀ {w2:World} {a:Option Addr} {c:Nat} {L:qE} {o:List Int},o=q0l x->zx 1 5 (.slice a o.length c) o.length (o.map B) L->qF w0 L->St w0 w2 (L++((n13,Cs (Zg x.op) 172)::(n1,Cs (qq x) 119)::H))->q0E (Addr.mk n1 0 none) a o.length c (Addr.mk n13 0 none) w2 K:=fun {w2 a c L o} ho hS hN h2=>by
  subst ho
  have hv:(Zg x.op)[10]?=some (.bool false):=by rcases ho1 with h | h<;>rw[h]<;>rfl
  rw[qdM]
  refine⟨false,by rw[cf 10 h2];exact hv,?_⟩
  rw[qb,qhx]
  have h3:St w0 w2 ((n13,Cs (Zg x.op) 172)::(n1,Cs (qq x) 119)::(L++H)):=h2.perm (qn fun c=>by simp only[List.map_append,List.map_cons,List.sum_append,List.sum_cons];omega)
  exact hK w2 a c L hS hN ((h3.tail hn13).tail hn1)
 have h0:w18.cell? (Addr.mk n13 0 none)=some (.bool false):=by
  have:=cf 0 h18
  rw[qa]at this
  rw[this]
  rcases ho1 with h | h<;>rw[h]<;>rfl
 refine⟨false,h0,?_⟩
 rw[qb,qq8]
 have hf:(Zg x.op)[1]?=some (.bool false)/\(Zg x.op)[2]?=some (.bool false)/\(Zg x.op)[4]?=some (J 0)/\(Zg x.op)[5]?=some (J 0)/\(Zg x.op)[6]?=some (J 0)/\(Zg x.op)[8]?=some (.bool true):=by
  rcases ho1 with h | h<;>rw[h]<;>exact⟨rfl,rfl,rfl,rfl,rfl,rfl⟩
 refine⟨false,by rw[cf 1 h18];exact hf.1,?_⟩
 rw[qb,qph]
 refine⟨false,by rw[cf 2 h18];exact hf.2.1,?_⟩
 rw[qb,qq3]
 have regs:∀ {w2:World} {a:Option Addr} {n c:Nat} {L:qE},St w0 w2 (L++((n13,Cs (Zg x.op) 172)::(n1,Cs (qq x) 119)::H))->q7K (Addr.mk n1 0 none) (Addr.mk n13 0 none) a n c w2 K->q6H (Addr.mk n1 0 none) (Addr.mk n13 0 none) a n c w2 K:=fun {w2 a n c L} h2 hk=>by
  rw[qrD]
  refine⟨0,by rw[cf 4 h2];exact hf.2.2.1,?_⟩
  simp only[show((0:Int) != 0)=false from rfl,qb]
  rw[qpI]
  refine⟨0,by rw[cf 5 h2];exact hf.2.2.2.1,?_⟩
  simp only[show((0:Int) != 0)=false from rfl,qb]
  rw[qqr]
  refine⟨0,by rw[cf 6 h2];exact hf.2.2.2.2.1,?_⟩
  simp only[show((0:Int) != 0)=false from rfl,qb]
  exact hk
 rcases hx with rfl | ⟨at_,rfl⟩
 ·-- a set
  refine⟨1,by rw[cf 3 h18];rfl,?_⟩
  simp only[show((1:Int) != 0)=true from rfl,qe]
  refine⟨0,by rw[cx 4 h18];rfl,⟨rfl,trivial⟩,h18.newC fun n59 w57 hn59 h57=>?_⟩
  rw[q7Y]at h57
  have h57:St w0 w57 ([(n59,Cs [B (0 % 256)] 5)]++([(n20,Cs [B (1 % 256)] 5)]++((n13,Cs (Zg 1) 172)::(n1,Cs (qq X1) 119)::H))):=h57
  obtain⟨g,cap,w61,L',hr,hS',h61,hN'⟩:=St.append (P:=P) 38 38 5 Tryz.t5 (B 0) 1 1 Tryz.underlying38 kr rfl rfl rfl rfl om (A:=[(n59,Cs [B (0 % 256)] 5)]) (news:=[B (0 % 256)]) h57 hS hN (j:=0) rfl rfl (fun u hu=>by rw[List.mem_singleton.1 hu];rfl) (by simp[maxLen]) om
  refine⟨_,_,_,w61,hr,?_⟩
  have h62:St w0 w61 (L'++((n13,Cs (Zg 1) 172)::(n1,Cs (qq X1) 119)::H)):=St.tail h61 hn59
  refine regs h62 ?_
  rw[q4C]
  refine⟨false,by rw[cf 7 h62];rfl,?_⟩
  rw[qb,q4p]
  refine⟨true,by rw[cf 8 h62];rfl,?_⟩
  rw[qe]
  refine⟨0,by rw[cx 9 h62];rfl,?_⟩
  refine q0K (n:=4) (o:=[1,0]) Jb om h62 hS' hN' (by decide) fun w2 a c L hS2 hN2 h2=>?_
  rw[q51]
  refine⟨false,by rw[cf 9 h2];rfl,?_⟩
  rw[qb]
  exact fin rfl hS2 hN2 h2
 ·-- an end
  refine⟨0,by rw[cf 3 h18];rfl,?_⟩
  simp only[show((0:Int) != 0)=false from rfl,qb]
  refine regs h18 ?_
  rw[q4C]
  refine⟨true,by rw[cf 7 h18];rfl,?_⟩
  rw[qe]
  refine⟨1,by rw[cx 8 h18];rfl,?_⟩
  rw[Zw (by decide) (by decide)]
  refine q0K (n:=2) (o:=[40]) ⟨by decide,by decide⟩ om h18 hS hN (by decide) fun w2 a c L hS2 hN2 h2=>?_
  rw[q4p]
  refine⟨true,by rw[cf 8 h2];rfl,?_⟩
  rw[qe]
  refine⟨at_,by rw[cx 9 h2];rfl,?_⟩
  refine q0K (n:=4) (o:=[40]++leN 1 2) hi om h2 hS2 hN2 (by decide) fun w3 a3 c3 L3 hS3 hN3 h3=>?_
  rw[q51]
  refine⟨true,by rw[cf 9 h3];rfl,?_⟩
  rw[qe]
  refine⟨0,by rw[cx 10 h3];rfl,?_⟩
  refine q0K (n:=4) (o:=[40]++leN 1 2++leN at_ 4) Jb om h3 hS3 hN3 (by simp[q79]) fun w4 a4 c4 L4 hS4 hN4 h4=>?_
  exact fin rfl hS4 hN4 h4
def zQ(l:List HI):List Int:=(l.map q0l).flatten
def zU(n:Nat)(at_:Int):List HI:=List.replicate n X1++[X2 at_]
theorem JE(n:Nat)(at_:Int):(zU n at_).length=n+1:=by simp[zU]
theorem qvu{n:Nat}{at_:Int}{i:Nat}(hi:i<(zU n at_).length):(zU n at_)[i]=if i<n then X1 else X2 at_:=by
 simp only[zU,List.getElem_append,List.length_replicate,List.getElem_replicate]
 split
 ·rfl
 ·have:i-n=0:=by rw[JE]at hi;omega
  simp[this]
theorem q9e{x:HI}(hx:Is2 x):(q0l x).length<=11:=by
 rcases hx with rfl | ⟨a,rfl⟩<;>simp[q0l,q79,X1,X2]
theorem q4l{l:List HI}(hx:∀ x∈l,Is2 x):(zQ l).length<=11*l.length:=by
 induction l with
 | nil=>simp[zQ]
 | cons x r ih=>
  have h1:=ih fun y hy=>hx y (.tail _ hy)
  have h2:=q9e (hx x (.head _))
  unfold zQ at *
  simp only[List.map_cons,List.flatten_cons,List.length_append,List.length_cons]
  omega
theorem qhO(l:List HI)(x:HI):zQ (l++[x])=zQ l++q0l x:=by simp[zQ]
theorem qis{n:Nat}{at_:Int}{a:Option Addr}{c:Nat}(hn:n<=39)(hat:j9 at_)(h:St w0 w H)(hrow:∀ w',St w0 w' H->vn w' 15 (.slice a (zU n at_).length c) (zU n at_).length ((zU n at_).map qq).flatten)
  (hK:∀ w' ov L,zx 1 5 ov (zQ (zU n at_)).length ((zQ (zU n at_)).map B) L->qF w0 L->St w0 w' (L++H)->K (.tuple [ov,J 0,J 0].toArray) w'):q9 P 112 [.slice a (zU n at_).length c] w K:=by
 have hlen:=JE n at_
 have hat':∀ {i:Nat} (hi:i<(zU n at_).length),(zU n at_)[i]=if i<n then X1 else X2 at_:=qvu
 generalize zU n at_=l at *
 have hIs:∀ {i:Nat} (hi:i<l.length),Is2 l[i]/\j9 l[i].i:=fun {i} hi=>by
  rw[hat' hi]
  split
  ·exact⟨.inl rfl,Jb⟩
  ·exact⟨.inr ⟨_,rfl⟩,hat⟩
 have hall:∀ x∈l,Is2 x:=fun x hx=>by
  obtain⟨i,hi,rfl⟩:=List.getElem_of_mem hx
  exact(hIs hi).1
 have hop:∀ {w2:World} {i:Nat} (hi:i<l.length),St w0 w2 H->∃ ad,a=some ad/\w2.cell? (ad.add (i*15))=some (J l[i].op)/\∀ K:Array Value->Prop,K (qq l[i]).toArray->qU 15 (ad.add (i*15)) w2 K:=fun {w2 i} hi h2=>by
  obtain⟨ad,cp,hac,hld⟩:=(hrow w2 h2).ldA hi
  injection hac with hac _ _
  rw[v7 qq 15 (fun x=>rfl) l hi]at hld
  refine⟨ad,hac,?_,hld⟩
  obtain⟨cs,hsz,hcs,hc0⟩:=hld (fun cs=>cs=(qq l[i]).toArray) rfl
  have:=hcs 0 (by decide)
  rw[hc0]at this
  have e:(ad.add (i*15)).add 0=ad.add (i*15):=by rw[jk];rfl
  rw[e]at this
  rw[this];rfl
 refine qES _ _ _ _ _ ?_
 rw[qBY,qfI,qiH,qiq,qhV]
 have hcl:∀ j,(zQ (l.take j)).length<=440:=fun j=>by
  have h1:=q4l (l:=l.take j) fun x hx=>hall x (List.mem_of_mem_take hx)
  have h2:(l.take j).length<=l.length:=by rw[List.length_take];omega
  omega
 refine⟨fun m e w'=>∃ (j:Nat) (oa:Option Addr) (oc:Nat) (L:qE),j<=l.length/\m=l.length-j/\e=qi.mk 67 [(0,.slice a l.length c),(5,.slice oa (zQ (l.take j)).length oc),(6,J j),(2,.slice none 0 0),(3,J 0),(4,J 0)] []/\
  zx 1 5 (.slice oa (zQ (l.take j)).length oc) (zQ (l.take j)).length ((zQ (l.take j)).map B) L/\qF w0 L/\St w0 w' (L++H),⟨_,0,none,0,[],by omega,rfl,rfl,zx.nil 1 5,qF.nil _,h⟩,?_⟩
 rintro m e w' ⟨j,oa,oc,L,hj,rfl,rfl,hS,hN,hs⟩
 show q80 ..
 rw[q8Z,qg]
 refine⟨fun hlt=>?_,fun hge=>?_⟩
 ·have hlt:j<l.length:=by have:=of_decide_eq_true hlt;omega
  rw[qdK]
  obtain⟨ad,rfl,hc,hld⟩:=hop hlt (hs.sub hN)
  refine⟨by omega,by omega,?_⟩
  rw[Int.toNat_natCast]
  refine hld _ ?_
  refine qyi (hIs hlt).1 (hIs hlt).2 hs fun w32 ba bc M hM hMN h32=>⟨_,_,_,_,rfl,?_⟩
  simp only[show((0:Int) != 0)=false from rfl,qb]
  obtain⟨ad2,e2,hc2,_⟩:=hop hlt ((h32.sub hMN).sub hN)
  cases e2
  refine⟨by omega,by omega,l[j].op,hc2,?_⟩
  refine qlz ⟨_,rfl,?_⟩
  have s6:VJ false (some ad) l.length c oa (zQ (l.take j)).length oc j none 0 0 0 0 ba (q0l l[j]).length bc w32 K (fun e' w'=>∃ m,m<l.length-j/\∃ (j:Nat) (oa:Option Addr) (oc:Nat) (L:qE),j<=l.length/\m=l.length-j/\e'=qi.mk 67 [(0,.slice (some ad) l.length c),(5,.slice oa (zQ (l.take j)).length oc),(6,J j),(2,.slice none 0 0),(3,J 0),(4,J 0)] []/\
    zx 1 5 (.slice oa (zQ (l.take j)).length oc) (zQ (l.take j)).length ((zQ (l.take j)).map B) L/\qF w0 L/\St w0 w' (L++H)):=by
   rw[qgQ,qb,qgH]
   have hle:=hcl j
   rw[decide_eq_true om,qe]
   have h33:St w0 w32 ([]++(L++(M++H))):=h32.perm (qn fun c=>by simp only[List.nil_append,List.map_append,List.sum_append];omega)
   have hel:=q9e (hIs hlt).1
   obtain⟨v',w2,L',hr,hS',h34,hN'⟩:=St.appendN (P:=P) 38 38 5 Tryz.t5 (B 0) 1 1 Tryz.underlying38 kr rfl rfl rfl rfl om h33 hS hN hM (fun u hu=>h33.has _ _ (List.mem_append_right [] (List.mem_append_right L (List.mem_append_left _ hu)))) (q89 _) (by simp[maxLen];omega) om
   have hst:zQ (l.take (j+1))=zQ (l.take j)++q0l l[j]:=by rw[zC l hlt,qhO]
   have hsl:(zQ (l.take (j+1))).length=(zQ (l.take j)).length+(q0l l[j]).length:=by rw[hst,List.length_append]
   rw[<-hsl,<-List.map_append,<-hst]at hS'
   obtain⟨ta,tc,e⟩:=hS'.form
   subst e
   refine⟨ta,_,tc,w2,hr,?_⟩
   rw[qiO]
   have h35:St w0 w2 (M++(L'++H)):=St.perm (H:=[]++(L'++(M++H))) h34 (qn fun c=>by simp only[List.nil_append,List.map_append,List.sum_append];omega)
   exact⟨l.length-(j+1),by omega,j+1,ta,tc,L',by omega,rfl,by rw[qc om om];rfl,hS',hN',h35.sub hMN⟩
  rw[qg]
  refine⟨fun hb=>?_,fun _=>s6⟩
  have hjn:¬ j<n:=fun hh=>by
   rw[hat' hlt,if_pos hh]at hb
   exact absurd hb (by decide)
  have:((j:Int) != IntKind.wrap .i64 (((l.length:Nat):Int)-1))=false:=by
   rw[qc om om]
   simp
   omega
  rw[this]
  exact s6
 ·have:j=l.length:=by have:=of_decide_eq_false hge;omega
  subst this
  rw[List.take_length]at hS ⊢
  rw[qin]
  have hne:(((l.length:Nat):Int)==0)=false:=beq_eq_false_iff_ne.2 om
  rw[hne,qb]
  have hlt:l.length-1<l.length:=by omega
  obtain⟨ad,rfl,hc,_⟩:=hop hlt (hs.sub hN)
  have ew:IntKind.wrap .i64 (((l.length:Nat):Int)-1)=((l.length-1:Nat):Int):=by rw[qc om om];omega
  rw[ew]
  refine⟨by omega,by omega,_,by rw[Int.toNat_natCast];exact hc,qlz ⟨_,rfl,?_⟩⟩
  have hnl:¬ l.length-1<n:=by omega
  have hlast:l[l.length-1].op=40:=by rw[hat' hlt,if_neg hnl];rfl
  rw[hlast]
  simp only[show((40:Int)==40)=true from rfl,Bool.true_or,Bool.not_true]
  rw[qby,qb,q98]
  have hle:=q4l hall
  have hd:decide ((((zQ l).length:Nat):Int) > 65536)=false:=decide_eq_false om
  rw[hd,qb,qaV]
  exact hK w' _ L hS hN hs
theorem q4b{n:Nat}{at_:Int}{a:Option Addr}{c:Nat}(hn:n<=39)(hat:j9 at_)(h:St w0 w H)(hrow:∀ w',St w0 w' H->vn w' 15 (.slice a (zU n at_).length c) (zU n at_).length ((zU n at_).map qq).flatten)
  (hK:∀ w' ov L,zx 1 5 ov (zQ (zU n at_)).length ((zQ (zU n at_)).map B) L->qF w0 L->St w0 w' (L++H)->K ov w'):q9 P 64 [.slice a (zU n at_).length c] w K:=by
 refine qHJ _ _ _ _ _ ?_
 rw[qIj]
 refine qis hn hat h hrow fun w' ov L hS hN hs=>?_
 obtain⟨oa,oc,e⟩:=hS.form
 subst e
 exact⟨_,_,_,_,_,rfl,hK w' _ L hS hN hs⟩
theorem bX2(at_:Int)(wq:World):(Instr.build 119 [(0,J 40),(8,J 1),(9,U at_)].toArray).run P wq=.ok (.agg (qq (X2 at_)).toArray) wq:=kr
theorem bX1(wq:World):(Instr.build 119 [(0,J 1)].toArray).run P wq=.ok (.agg (qq X1).toArray) wq:=kr
theorem qlC{at_:Int}(hat:j9 at_)(h:St w0 w H)(hK:∀ w' ov L,zx 1 5 ov (zQ (zU 0 at_)).length ((zQ (zU 0 at_)).map B) L->qF w0 L->St w0 w' (L++H)->K ov w'):q9 P 19 [U at_] w K:=by
 refine qJX _ _ _ ?_
 rw[qJG]
 refine⟨_,bX2 at_,⟨rfl,trivial⟩,h.newC fun n5 w3 hn5 h3=>?_⟩
 have h3:St w0 w3 ((n5,Cs (qq (X2 at_)) 119)::H):=h3
 have hrow:∀ w',St w0 w' ((n5,Cs (qq (X2 at_)) 119)::H)->vn w' 15 (.slice (some (Addr.mk n5 0 none)) 1 1) 1 (qq (X2 at_)):=fun w' h'=>⟨rfl,.inr ⟨_,_,rfl,fun i hi=>by rw[qa,h'.cell (k:=0) rfl,Nat.zero_add]⟩⟩
 refine q4b (n:=0) (at_:=at_) om hat h3 (by simpa [zU]using hrow) fun w7 ov L hS hN h7=>?_
 obtain⟨oa,oc,e⟩:=hS.form
 subst e
 refine⟨_,_,_,rfl,hK w7 _ L hS hN ?_⟩
 have h8:St w0 w7 ((n5,Cs (qq (X2 at_)) 119)::(L++H)):=h7.perm (qn fun c=>by simp only[List.map_append,List.map_cons,List.sum_append,List.sum_cons];omega)
 exact h8.tail hn5
theorem qyK(j:Nat):((List.replicate j X1).map qq).flatten.length=j*15:=by
 induction j with
 | zero=>rfl
 | succ j ih=>
  rw[List.replicate_succ,List.map_cons,List.flatten_cons,List.length_append,ih]
  show 15+_=_
  omega
theorem qtz(j:Nat):((List.replicate (j+1) X1).map qq).flatten=((List.replicate j X1).map qq).flatten++qq X1:=by
 rw[List.replicate_succ',List.map_append,List.flatten_append]
 simp
theorem qLe:∃ z,Tryz.t119.zero=some z/\z.cells.size=15:=⟨.agg (qq {}).toArray,by kernel_rfl,rfl⟩
theorem qrP{at_:Int}(hat:j9 at_)(h:St w0 w H)(hK:∀ w' ov L,zx 1 5 ov (zQ (zU 39 at_)).length ((zQ (zU 39 at_)).map B) L->qF w0 L->St w0 w' (L++H)->K ov w'):q9 P 50 [U at_] w K:=by
 refine qGw _ _ _ ?_
 rw[qIa]
 obtain⟨z,hz,hzs⟩:=qLe
 have hr:=run_make (P:=P) w 130 119 Tryz.t119 z Tryz.underlying130 kr hz .i64 .i64 39 39 (by decide) (by decide) (by show((96:Nat):Int)*_<=_;decide) (by decide)
 rw[show Tryz.t119.size=15 from rfl]at hr
 refine⟨_,_,_,_,hr,?_⟩
 have hg:=h.le
 have hsz:(madeCells z.cells (Int.toNat 39*15)).size=585:=by rw[size_madeCells];rfl
 generalize hcs:madeCells z.cells (Int.toNat 39*15)=cs0 at *
 have h1:St w0 (w.alloc (.cells cs0 119)) ((w.heap.size,Cs cs0.toList 119)::H):=by
  have:=h.alloc (.cells cs0 119)
  have e:Obj.cells cs0 119 (0,0)=Cs cs0.toList 119:=by unfold Cs;rw[Array.toArray_toList]
  rw[e]at this
  exact this
 have hl0:cs0.toList.length=585:=by rw[Array.length_toList];exact hsz
 generalize cs0.toList=c0 at *
 generalize w.heap.size=g at *
 refine⟨fun m e w'=>∃ (j:Nat) (cs:List Value),j<=39/\m=39-j/\e=qi.mk 20 [(4,J j),(3,.slice (some ⟨g,0,none⟩) 39 39),(2,.slice none 0 0),(0,U at_)] []/\cs.length=585/\cs.take (j*15)=((List.replicate j X1).map qq).flatten/\St w0 w' ((g,Cs cs 119)::H),⟨_,0,c0,by omega,rfl,rfl,hl0,rfl,h1⟩,?_⟩
 rintro m e w' ⟨j,cs,hj,rfl,rfl,hl,ht,hs⟩
 show qlL ..
 rw[qeV,qg]
 refine⟨fun hlt=>?_,fun hge=>?_⟩
 ·have hlt:j<39:=by have:=of_decide_eq_true hlt;omega
  rw[qpU]
  refine⟨_,bX1,by omega,by omega,?_⟩
  rw[qa,Int.toNat_natCast,Nat.zero_add]
  refine hs.stA (k:=0) rfl rfl om (q4u X1) fun w13 h13=>?_
  rw[qqp]
  have hle:(qq X1).length=15:=rfl
  refine⟨39-(j+1),by omega,j+1,qX cs (j*15) (qq X1),by omega,rfl,by rw[qc om om];rfl,by rw[zy];exact hl,?_,h13⟩
  have hta:(cs.take (j*15)).length=j*15:=by rw[List.length_take];omega
  rw[qtz,<-ht,Ya _ _ _ om]
  rw[List.take_append_of_le_length (by rw[List.length_append,hta,hle];omega),List.take_of_length_le (by rw[List.length_append,hta,hle];omega)]
 ·have hj39:j=39:=by have:=of_decide_eq_false hge;omega
  subst hj39
  rw[qpB]
  refine⟨_,bX2 at_,⟨rfl,trivial⟩,hs.newC fun n24 w22 hn24 h22=>?_⟩
  have h22:St w0 w22 ([(n24,Cs (qq (X2 at_)) 119)]++([(g,Cs cs 119)]++H)):=h22
  have hS:zx 15 119 (.slice (some ⟨g,0,none⟩) 39 39) 39 ((List.replicate 39 X1).map qq).flatten [(g,Cs cs 119)]:=⟨qyK 39,.inr ⟨g,39,cs,rfl,rfl,Nat.le_refl _,by decide,hl,ht⟩⟩
  have hN:qF w0 [(g,Cs cs 119)]:=fun x hx=>by rw[List.mem_singleton.1 hx];exact hg
  obtain⟨ga,cap,w26,L',hr2,hS2,h26,hN2⟩:=St.append (P:=P) 130 130 119 Tryz.t119 z 15 96 Tryz.underlying130 kr hz rfl rfl hzs om (A:=[(n24,Cs (qq (X2 at_)) 119)]) (news:=qq (X2 at_)) h22 hS hN (j:=0) rfl rfl (by have:=q4u (X2 at_);simpa using this) (by simp[maxLen]) om
  have hx:((List.replicate 39 X1).map qq).flatten++qq (X2 at_)=((zU 39 at_).map qq).flatten:=by
   unfold zU
   rw[List.map_append,List.flatten_append]
   simp
  rw[hx]at hS2
  have hl40:(zU 39 at_).length=39+1:=JE 39 at_
  refine⟨_,_,_,w26,hr2,?_⟩
  have h27:St w0 w26 (L'++H):=St.tail h26 hn24
  rw[<-hl40]at hS2 ⊢
  refine q4b (n:=39) (at_:=at_) om hat h27 (fun w' h'=>hS2.row fun u hu=>h'.has _ _ (List.mem_append_left _ hu)) fun w7 ov L hSo hNo h7=>?_
  obtain⟨oa,oc,e⟩:=hSo.form
  subst e
  refine⟨_,_,_,rfl,hK w7 _ L hSo hNo ?_⟩
  have h8:St w0 w7 (L'++(L++H)):=h7.perm (qn fun c=>by simp only[List.map_append,List.sum_append];omega)
  exact h8.sub hN2
theorem qFD(a b:Int)(wq:World):(Instr.build 36 [(0,U a),(1,J b)].toArray).run P wq=.ok (.agg #[U a,J b]) wq:=kr
theorem qJ8(a:Int)(n8:Nat)(ca:Option Addr)(cl cc:Nat)(wq:World):(Instr.build 41 [(0,U a),(1,.slice (some (Addr.mk n8 0 none)) 1 1),(2,.slice ca cl cc)].toArray).run P wq=.ok (.agg (ya a (.slice (some (Addr.mk n8 0 none)) 1 1) (.slice ca cl cc)).toArray) wq:=kr
theorem qca{at_:Int}{ca:Option Addr}{cl cc:Nat}(h:St w0 w H)(hK:∀ w' n8,w0.heap.size<=n8->St w0 w' ((n8,Cs [U at_,J 4] 36)::H)->K (.agg (ya at_ (.slice (some ⟨n8,0,none⟩) 1 1) (.slice ca cl cc)).toArray) w'):q9 P 49 [U at_,.slice ca cl cc] w K:=by
 refine qI5 _ _ _ _ _ _ ?_
 rw[qKs,jo]
 refine h.newC fun n2 w3 hn2 h3=>⟨_,qFD at_ 4,⟨rfl,trivial⟩,h3.newC fun n8 w6 hn8 h6=>⟨_,qJ8 at_ n8 ca cl cc,?_⟩⟩
 have h6:St w0 w6 ((n8,Cs [U at_,J 4] 36)::(n2,Cs [U 0,.slice none 0 0,.slice none 0 0] 41)::H):=h6
 refine h6.stA (k:=1) rfl rfl (by simp) (by simp[ya,Value.oneCell']) fun w10 h10=>h10.ldA (k:=1) rfl (by simp[zy,ya]) ?_
 have h11:St w0 w10 ((n2,Cs (ya at_ (.slice (some ⟨n8,0,none⟩) 1 1) (.slice ca cl cc)) 41)::(n8,Cs [U at_,J 4] 36)::H):=St.perm (H:=(n8,Cs [U at_,J 4] 36)::(n2,Cs (ya at_ (.slice (some ⟨n8,0,none⟩) 1 1) (.slice ca cl cc)) 41)::H) h10 (List.Perm.swap _ _ _)
 exact hK w10 n8 hn8 (h11.tail hn2)
end Go.Fx.Tryz
namespace Go.Fx.Ch
open Go.Fx.Tryz
set_option linter.all false
set_option maxRecDepth 100000
def c1:List Int:=zQ (zU 0 512)
def c2:List Int:=zQ (zU 0 256)
def c3:List Int:=zQ (zU 39 512)
def T4(a:Int)(c:List Int):TR:=⟨a,[(a,4)],c⟩
def S0:qd:=vO 2 256 4
def S1:qd:=⟨256,4,[(1,⟨256,[(256,4)],c1⟩)],[[1],[]],[0,0,0,0,0,0,0,0,1,0,0,0,0,0,0,0],[],0,1,0,0⟩
def S2:qd:=⟨256,4,[(1,⟨256,[(256,4)],c1⟩),(2,⟨512,[(512,4)],c2⟩)],[[1,2],[]],[0,2,0,0,0,0,0,0,1,0,0,0,0,0,0,0],[],0,2,0,0⟩
def S3:qd:=⟨256,4,[(1,⟨256,[(256,4)],zK c1 7 2⟩),(2,⟨512,[(512,4)],c2⟩)],[[1,2],[]],[0,2,0,0,0,0,0,0,1,0,0,0,0,0,0,0],[(2,[(1,7)])],0,2,0,0⟩
def S4:qd:=⟨256,4,[(1,⟨256,[(256,4)],c1⟩)],[[1],[]],[0,0,0,0,0,0,0,0,1,0,0,0,0,0,0,0],[],0,2,0,1⟩
def S5:qd:=⟨256,4,[(1,⟨256,[(256,4)],c1⟩),(3,⟨600,[(600,4)],c3⟩)],[[1,3],[]],[0,0,0,0,0,0,0,0,1,0,0,3,0,0,0,0],[],0,3,0,1⟩
def S6:qd:=⟨256,4,[(1,⟨256,[(256,4)],c1⟩),(3,⟨600,[(600,4)],c3⟩),(4,⟨700,[(700,4)],c1⟩)],[[1,3],[4]],[0,0,4,0,0,0,0,0,1,0,0,3,0,0,0,0],[],1,4,0,1⟩
def S7:qd:=⟨256,4,[(1,⟨256,[(256,4)],c1⟩),(3,⟨600,[(600,4)],c3⟩),(4,⟨700,[(700,4)],c1⟩),(5,⟨800,[(800,4)],c3⟩)],[[1,3],[4,5]],[0,0,4,0,0,0,0,0,1,5,0,3,0,0,0,0],[],1,5,0,1⟩
def S8:qd:=⟨256,4,[(4,⟨700,[(700,4)],c1⟩),(5,⟨800,[(800,4)],c3⟩),(6,⟨900,[(900,4)],c1⟩)],[[6],[4,5]],[6,0,4,0,0,0,0,0,0,5,0,0,0,0,0,0],[],0,6,2,1⟩
structure q3I (s:qd) (t:TR) (g:List Int) (s':qd):Prop where
 err:yv s t=0
 ev:∃ s1,evD t.code.length 5 s=some (g,s1)/\zR s1 t=s'/\s1.given+1=s'.given
theorem p1:q3I S0 (T4 256 c1) [] S1:=⟨by kernel_rfl,S0,by kernel_rfl,by kernel_rfl,by kernel_rfl⟩
theorem p2:q3I S1 (T4 512 c2) [] S2:=⟨by kernel_rfl,S1,by kernel_rfl,by kernel_rfl,by kernel_rfl⟩
theorem p3:zJ S2 1 7=(S3,true,0):=kr
theorem p4:zJ S3 1 8=(S3,false,1):=kr
theorem p5:zJ S3 3 7=(S3,false,211):=kr
theorem p6:q2b ((S3.items.map (·.1)).filter (vR S3 (515,1)))=[2]/\qwf S3 [2]=true/\({ Qm S3 [2]with dr:=1 }:qd)=S4/\(Qm S3 [2]).dr=0:=⟨by kernel_rfl,by kernel_rfl,by kernel_rfl,by kernel_rfl⟩
theorem p7:q3I S4 (T4 600 c3) [] S5:=⟨by kernel_rfl,S4,by kernel_rfl,by kernel_rfl,by kernel_rfl⟩
theorem p8:q3I S5 (T4 700 c1) [] S6:=⟨by kernel_rfl,qy S5,by kernel_rfl,by kernel_rfl,by kernel_rfl⟩
theorem p9:q3I S6 (T4 800 c3) [] S7:=⟨by kernel_rfl,S6,by kernel_rfl,by kernel_rfl,by kernel_rfl⟩
def S7e:qd:=⟨256,4,[(4,⟨700,[(700,4)],c1⟩),(5,⟨800,[(800,4)],c3⟩)],[[],[4,5]],[0,0,4,0,0,0,0,0,0,5,0,0,0,0,0,0],[],0,5,2,1⟩
theorem p10:q3I S7 (T4 900 c1) [1,3] S8:=⟨by kernel_rfl,S7e,by kernel_rfl,by kernel_rfl,by kernel_rfl⟩
theorem p11:yv S8 (T4 700 c1)=5:=kr
theorem p12:(zE S2 512).1=2/\(zE S8 256).1=0:=⟨by kernel_rfl,by kernel_rfl⟩
theorem p13:Qu S3=22/\jq S3=1/\Qu S8=267/\jq S8=0:=⟨by kernel_rfl,by kernel_rfl,by kernel_rfl,by kernel_rfl⟩
theorem q30:c1.length=11:=kr
theorem qtc:c3.length=245:=kr
theorem qDS:c1.all (fun b=>decide (0<=b)&&decide (b<256))=true:=kr
theorem qOI:c2.all (fun b=>decide (0<=b)&&decide (b<256))=true:=kr
theorem qLW:c3.all (fun b=>decide (0<=b)&&decide (b<256))=true:=kr
end Go.Fx.Ch
namespace Go.Fx.Tryz
open Go Go.Fx Go.Fx.Ch
open Go.Proofs
set_option linter.all false
set_option maxRecDepth 20000
variable {w0 w:World} {H X G:qE} {K:KT} {s s':qd} {L:qQ} {q:LB}
theorem j5{c:List Int}(h:c.all (fun b=>decide (0<=b)&&decide (b<256))=true):∀ b∈c,0<=b/\b<256:=fun b hb=>by
 have:=List.all_eq_true.1 h b hb
 simpa using this
def qbI(w0:World)(f:FuncId)(a:Int)(c:List Int):Prop:=∀ (w:World) (H:qE) (K:KT),St w0 w H->(∀ w' ov N,zx 1 5 ov c.length (c.map B) N->qF w0 N->St w0 w' (N++H)->K ov w')->q9 P f [U a] w K
theorem JI:qbI w0 19 512 c1:=fun w H K h hK=>qlC ⟨by decide,by decide⟩ h hK
theorem qJy:qbI w0 19 256 c2:=fun w H K h hK=>qlC ⟨by decide,by decide⟩ h hK
theorem qyl:qbI w0 50 512 c3:=fun w H K h hK=>qrP ⟨by decide,by decide⟩ h hK
theorem q99{n8:Nat}{b:Int}{Y:qE}:jZ w0 ((n8,Cs [U b,J 4] 36)::Y) (.slice (some ⟨n8,0,none⟩) 1 1) [(b,4)]:=
 ⟨fun w' h'=>⟨rfl,.inr ⟨_,_,rfl,fun i hi=>by rw[qa,h'.cell (k:=0) rfl,Nat.zero_add];rfl⟩⟩,by simp⟩
theorem qbZ{c:List Int}{ov:Value}{n8:Nat}{o:Obj}{N Y:qE}(hS:zx 1 5 ov c.length (c.map B) N)(hb:∀ b∈c,0<=b/\b<256)(hl:c.length<1000000):yl w0 ((n8,o)::(N++Y)) ov c:=
 (jv.of hS hb hl).bytes fun u hu=>.tail _ (List.mem_append_left _ hu)
theorem Yc{f:FuncId}{a b:Int}{c:List Int}{g:List Int}(hf:qbI w0 f a c)(hb:∀ b∈c,0<=b/\b<256)(hl:c.length<1000000)(hbW:j9 b)(hp:q3I s (T4 b c) g s')(hg0:0<=s.given)(hg1:s.given<=2147483647)(hgl:g.length<1000)
  (hL:L.Ok w0 q s) (hg:zA H) (hX:qF w0 X) (h:St w0 w (L.bl q s++(X++H))) {Q:Int->Option Addr->Nat->Nat->Int->World->Prop}
  (hQ:∀ (w':World) (L':qQ) (X':qE) (sa:Option Addr) (sc:Nat),L'.Ok w0 q s'->qF w0 X'->St w0 w' (L'.bl q s'++(X'++H))->(∃ N,(∀ u∈N,u∈X')/\zx 1 24 (.slice sa g.length sc) g.length ((zL g).map U) N)->Q s'.given sa g.length sc 0 w') :
  q9 P f [U a] w (fun r8 w9=>∃ (sa:Option Addr) (sl sc:Nat),r8=.slice sa sl sc/\q9 P 49 [U b,.slice sa sl sc] w9 (fun r11 w12=>∃ cs13:Array Value,r11=.agg cs13/\q9 P 18 [.pointer (some ⟨q.cb,0,none⟩),.agg cs13] w12 (fun r14 w15=>∃ x16:Int,∃ (ta:Option Addr) (tl tc:Nat),∃ x18:Int,r14=(.tuple [U x16,.slice ta tl tc,J x18].toArray)/\Q x16 ta tl tc x18 w15))):=by
 refine hf _ _ _ h fun w9 ov N hS hN h9=>?_
 obtain⟨sa,sc,e⟩:=hS.form
 subst e
 refine⟨_,_,_,rfl,qca h9 fun w12 n8 hn8 h12=>⟨_,rfl,?_⟩⟩
 have h13:St w0 w12 (L.bl q s++((n8,Cs [U b,J 4] 36)::(N++(X++H)))):=h12.perm (qn fun c=>by simp only[List.map_append,List.map_cons,List.sum_append,List.sum_cons];omega)
 have hg2:zA ((n8,Cs [U b,J 4] 36)::(N++(X++H))):=hg.mono fun u hu=>.tail _ (List.mem_append_right _ (List.mem_append_right _ hu))
 obtain⟨s1,hev,hadd,hgiv⟩:=hp.ev
 have hspec:=qbi 5 s (g,s1) hev
 refine qiS (t:=T4 b c) h13 hL hg2 q99 (qbZ hS hb hl) hbW hg0 hg1 (fun _=>⟨5,hspec.1 0 (by simp only;omega)⟩) (fun hne=>absurd hp.err hne) fun _ w' L' gone s1' ov' N' hE hok hS' hN' hs'=>?_
 obtain⟨rfl,rfl⟩:=hspec.2 _ _ hE
 obtain⟨ta,tc,e⟩:=hS'.form
 subst e
 rw[hadd]at hok hs'
 rw[hgiv]
 refine⟨_,_,_,_,_,rfl,hQ w' L' (N'++((n8,Cs [U b,J 4] 36)::(N++X))) ta tc hok ?_ ?_ ⟨N',fun u hu=>List.mem_append_left _ hu,hS'⟩⟩
 ·refine qF.append hN' (fun u hu=>?_)
  rcases List.mem_cons.1 hu with rfl | hu
  ·exact hn8
  ·exact qF.append hN hX u hu
 ·exact hs'.perm (qn fun c=>by simp only[List.map_append,List.map_cons,List.sum_append,List.sum_cons];omega)
theorem qHm{f:FuncId}{a b:Int}{c:List Int}(hf:qbI w0 f a c)(hb:∀ b∈c,0<=b/\b<256)(hl:c.length<1000000)(hbW:j9 b)(hp:yv s (T4 b c)=5)(hg0:0<=s.given)(hg1:s.given<=2147483647)
  (hL:L.Ok w0 q s) (hg:zA H) (hX:qF w0 X) (h:St w0 w (L.bl q s++(X++H))) {Q:Int->Option Addr->Nat->Nat->Int->World->Prop}
  (hQ:∀ (w':World) (X':qE),qF w0 X'->St w0 w' (L.bl q s++(X'++H))->Q 0 none 0 0 5 w') :
  q9 P f [U a] w (fun r8 w9=>∃ (sa:Option Addr) (sl sc:Nat),r8=.slice sa sl sc/\q9 P 49 [U b,.slice sa sl sc] w9 (fun r11 w12=>∃ cs13:Array Value,r11=.agg cs13/\q9 P 18 [.pointer (some ⟨q.cb,0,none⟩),.agg cs13] w12 (fun r14 w15=>∃ x16:Int,∃ (ta:Option Addr) (tl tc:Nat),∃ x18:Int,r14=(.tuple [U x16,.slice ta tl tc,J x18].toArray)/\Q x16 ta tl tc x18 w15))):=by
 refine hf _ _ _ h fun w9 ov N hS hN h9=>?_
 obtain⟨sa,sc,e⟩:=hS.form
 subst e
 refine⟨_,_,_,rfl,qca h9 fun w12 n8 hn8 h12=>⟨_,rfl,?_⟩⟩
 have h13:St w0 w12 (L.bl q s++((n8,Cs [U b,J 4] 36)::(N++(X++H)))):=h12.perm (qn fun c=>by simp only[List.map_append,List.map_cons,List.sum_append,List.sum_cons];omega)
 have hg2:zA ((n8,Cs [U b,J 4] 36)::(N++(X++H))):=hg.mono fun u hu=>.tail _ (List.mem_append_right _ (List.mem_append_right _ hu))
 refine qiS (t:=T4 b c) h13 hL hg2 q99 (qbZ hS hb hl) hbW hg0 hg1 (fun h0=>by rw[hp]at h0;cases h0) (fun _ w' hs'=>?_) fun h0=>by rw[hp]at h0;cases h0
 rw[hp]
 refine⟨_,_,_,_,_,rfl,hQ w' ((n8,Cs [U b,J 4] 36)::(N++X)) (fun u hu=>?_) ?_⟩
 ·rcases List.mem_cons.1 hu with rfl | hu
  ·exact hn8
  ·exact qF.append hN hX u hu
 ·exact hs'.perm (qn fun c=>by simp only[List.map_append,List.map_cons,List.sum_append,List.sum_cons];omega)
theorem qbj{s:qd}{b:Int}(h0:0<=b)(h:∀ p∈s.hold,(p.2.length:Int)<=b)(c:Int):vS s c<=b:=by
 unfold vS
 cases hl:lk s.hold c with
 | none=>exact h0
 | some v=>
  obtain⟨a,r,e,_⟩:=q9o hl
  exact h (c,v) (by rw[e];simp)
theorem qgU{c:List Int}{ov:Value}{N:qE}(hS:zx 1 5 ov c.length (c.map B) N)(hN:∀ u∈N,w.heap[u.1]?=some u.2)(hc:0<c.length):(convert 38 9 ov).run P w=.ok (.string (strOfNums c)) w:=by
 rcases hS.2 with⟨_,h0,_⟩ | ⟨g,cap,cur,rfl,rfl,h3,h4,h5,h6⟩
 ·omega
 refine run_convert_bytes_arg w 38 5 Tryz.underlying38 kr g 0 c.length cap c rfl (fun i hi=>?_) 9 kr
 have hb:=hN (g,Cs cur 5) (.head _)
 rw[qw hb,Nat.zero_add]
 have:=congrArg (fun l=>l[i]?) h6
 simp only[Nat.mul_one,List.getElem?_take,hi,if_true,List.getElem?_map,List.getElem?_eq_getElem hi,Option.map_some]at this
 rw[this]
 simp[List.getD,List.getElem?_eq_getElem hi]
theorem q7m(wq:World):(do eqGuard .neq 9 (.tmp 129) (.tmp 131) (.string (strOfNums c1)) (.string (strOfNums c1));binOp .neq 9 (.string (strOfNums c1)) (.string (strOfNums c1)):Sem Value).run P wq=.ok (.bool false) wq:=kr
theorem qJH(wq:World):(do eqGuard .neq 47 (.tmp 83) (.tmp 84) (.agg #[J 2,J 22,J 1,J 0,J 0]) (.agg #[J 2,J 22,J 1,J 0,J 0]);binOp .neq 47 (.agg #[J 2,J 22,J 1,J 0,J 0]) (.agg #[J 2,J 22,J 1,J 0,J 0]):Sem Value).run P wq=.ok (.bool false) wq:=kr
theorem qJN(wq:World):(do eqGuard .eql 47 (.tmp 198) (.tmp 199) (.agg #[J 3,J 267,J 0,J 2,J 1]) (.agg #[J 3,J 267,J 0,J 2,J 1]);binOp .eql 47 (.agg #[J 3,J 267,J 0,J 2,J 1]) (.agg #[J 3,J 267,J 0,J 2,J 1]):Sem Value).run P wq=.ok (.bool true) wq:=kr
theorem qOj(wq:World):(Instr.build 47 [(0,J 2),(1,J 22),(2,J 1)].toArray).run P wq=.ok (.agg #[J 2,J 22,J 1,J 0,J 0]) wq:=kr
theorem qO5(wq:World):(Instr.build 47 [(0,J 3),(1,J 267),(3,J 2),(4,J 1)].toArray).run P wq=.ok (.agg #[J 3,J 267,J 0,J 2,J 1]) wq:=kr
theorem qLa(wq:World):(Instr.build 27 [(0,J 2),(1,J 256),(2,J 16)].toArray).run P wq=.ok (.agg #[J 2,J 256,J 16]) wq:=kr
theorem qz6(hL:L.Ok w0 q S8)(hg:zA H)(hX:qF w0 X)(h:St w0 w (L.bl q S8++(X++H)))(hK:∀ w',St w0 w' H->K (.bool true) w'):qdg (some ⟨q.cb,0,none⟩) w K:=by
 rw[qrU]
 have hg2:zA (X++H):=hg.mono fun u hu=>List.mem_append_right _ hu
 refine VO h hL hg2 (by decide) (by decide) fun w111 h111=>⟨_,_,rfl,?_⟩
 rw[p12.2]
 refine qHm JI (j5 qDS) (by rw[q30];decide) ⟨by decide,by decide⟩ p11 (by decide) (by decide) hL hg hX h111 fun w121 X' hX' h121=>?_
 simp only[show((0:Int) != 0)=false from rfl,Bool.not_false,qe,show((5:Int)==5)=true from rfl]
 have hf:=jV (by kernel_rfl:qaM S8=true)
 refine q5c h121 hL hf.rows (by decide) (qbj (by decide) (by intro p hp;cases hp)) fun w126 h126=>⟨_,rfl,_,qO5,?_⟩
 have e1:(#[J S8.items.length,J (Qu S8),J (jq S8),J S8.ev,J S8.dr]:Array Value)=#[J 3,J 267,J 0,J 2,J 1]:=by rw[p13.2.2.1,p13.2.2.2];rfl
 rw[e1]
 refine⟨true,qJN,?_⟩
 rw[qrM]
 exact hK w126 ((h126.sub hL.newB).sub hX')
theorem qEx(hL:L.Ok w0 q S4)(hg:zA H)(hX:qF w0 X)(h:St w0 w (L.bl q S4++(X++H)))(hK:∀ w',St w0 w' H->K (.bool true) w'):qet (some ⟨q.cb,0,none⟩) w K:=by
 rw[qrk]
 refine Yc qyl (j5 qLW) (by rw[qtc];decide) ⟨by decide,by decide⟩ p7 (by decide) (by decide) (by decide) hL hg hX h fun w70 L5 X5 _ _ hL5 hX5 h5 _=>?_
 refine Yc JI (j5 qDS) (by rw[q30];decide) ⟨by decide,by decide⟩ p8 (by decide) (by decide) (by decide) hL5 hg hX5 h5 fun w81 L6 X6 _ _ hL6 hX6 h6 _=>?_
 refine Yc qyl (j5 qLW) (by rw[qtc];decide) ⟨by decide,by decide⟩ p9 (by decide) (by decide) (by decide) hL6 hg hX6 h6 fun w92 L7 X7 _ _ hL7 hX7 h7 _=>?_
 refine Yc JI (j5 qDS) (by rw[q30];decide) ⟨by decide,by decide⟩ p10 (by decide) (by decide) (by decide) hL7 hg hX7 h7 fun w103 L8 X8 sa sc hL8 hX8 h8 hN=>?_
 obtain⟨N,hNX,hS⟩:=hN
 have hso:zL [1,3]=[1,3]:=by rw[Zx];rfl
 rw[hso]at hS
 have hrow:vn w103 1 (.slice sa [1,3].length sc) 2 (([1,3]:List Int).map U):=hS.row fun u hu=>h8.has _ _ (List.mem_append_right _ (List.mem_append_left _ (hNX u hu)))
 obtain⟨ad,cp,hac,_⟩:=vn.ldA (i:=0) hrow (by decide)
 injection hac with hac _ _
 subst hac
 have c0:=j8 (r:=[1,3]) (i:=0) hrow (by decide)
 have c1':=j8 (r:=[1,3]) (i:=1) hrow (by decide)
 have hs8:S8.given=6:=rfl
 simp only[hs8,show((0:Int) != 0)=false from rfl,show((6:Int) != 6)=false from rfl,qb]
 have hl2:((([1,3]:List Int).length:Nat):Int)=2:=rfl
 simp only[hl2,show((2:Int) != 2)=false from rfl,qb]
 refine⟨by decide,by decide,1,c0,?_⟩
 simp only[show((1:Int) != 1)=false from rfl,qb]
 refine⟨by decide,by decide,3,c1',?_⟩
 simp only[show((3:Int) != 3)=false from rfl]
 rw[qpx,qb]
 exact qz6 hL8 hg hX8 h8 hK
theorem qzg(hL:L.Ok w0 q S3)(hg:zA H)(hX:qF w0 X)(h:St w0 w (L.bl q S3++(X++H)))(hK:∀ w',St w0 w' H->K (.bool true) w'):qdu (some ⟨q.cb,0,none⟩) w K:=by
 rw[qre]
 have hg2:zA (X++H):=hg.mono fun u hu=>List.mem_append_right _ hu
 have hf:=jV (by kernel_rfl:qaM S3=true)
 refine Vl (id:=1) (slot:=8) h hL hg2 hf.table ?_
 rw[p4]
 intro w42 L2 hL2 h2
 refine⟨_,_,rfl,?_⟩
 refine Vl (id:=3) (slot:=7) h2 hL2 hg2 hf.table ?_
 rw[p5]
 intro w46 L3 hL3 h3
 refine⟨_,_,rfl,_,qFD 515 1,?_⟩
 refine qlF (r:=(515,1)) h3 hL3 hg2 (by decide) (by decide) (by decide) fun w51 L4 s4 ov N hF hL4 hS hN h4=>?_
 have hdl:jX S3 (515,1)=[2]:=by unfold jX;rw[Zx];exact p6.1
 rw[hdl]at hF hL4 hS h4
 have hs4:({ s4 with dr:=s4.dr+(([2]:List Int).length:Nat) }:qd)=S4:=by
  rw[hF.det p6.2.1,p6.2.2.2]
  exact p6.2.2.1
 rw[hs4]at hL4 h4
 obtain⟨la,lc,e⟩:=hS.form
 subst e
 refine⟨_,_,_,rfl,?_⟩
 have h5:St w0 w51 (L4.bl q S4++(N++(X++H))):=h4.perm (qn fun c=>by simp only[List.map_append,List.sum_append];omega)
 refine quc (id:=1) h5 hL4 (fun h0=>by cases h0) fun t ht w54 sv' cv' A M hSA hAN hSM hMN h6=>⟨_,_,rfl,?_⟩
 have ht':t=T4 256 c1:=by
  have:lk S4.items 1=some (T4 256 c1):=by rfl
  rw[this]at ht
  exact(Option.some.inj ht).symm
 subst ht'
 obtain⟨sa,sc,e⟩:=hSA.form
 subst e
 obtain⟨ca,cc,e⟩:=hSM.form
 subst e
 rw[jo]
 refine h6.newC fun n57 w58 hn57 h58=>h58.stA (k:=0) rfl rfl (by simp) (by simp[ya,Value.oneCell']) fun w59 h59=>?_
 have h59:St w0 w59 ((n57,Cs (ya (T4 256 c1).at_ (.slice sa (T4 256 c1).sp.length sc) (.slice ca (T4 256 c1).code.length cc)) 41)::(M++(A++(L4.bl q S4++(N++(X++H)))))):=h59
 have h60:=h59.drew
 have hl1:((([2]:List Int).length:Nat):Int)=1:=rfl
 simp only[show((1:Int) != 1)=false from rfl,show((211:Int) != 211)=false from rfl,show((0:Int) != 0)=false from rfl,hl1,qb]
 have hrow:vn w59.drew 1 (.slice la [2].length lc) 1 (([2]:List Int).map U):=hS.row fun u hu=>h60.has _ _ (.tail _ (List.mem_append_right _ (List.mem_append_right _ (List.mem_append_right _ (List.mem_append_left _ hu)))))
 obtain⟨ad,cp,hac,_⟩:=vn.ldA (i:=0) hrow (by decide)
 injection hac with hac _ _
 subst hac
 have c0:=j8 (r:=[2]) (i:=0) hrow (by decide)
 refine⟨by decide,by decide,2,c0,?_⟩
 simp only[show((2:Int) != 2)=false from rfl,qb]
 refine⟨ca,(T4 256 c1).code.length,cc,by rw[qa];exact h60.cell (k:=0) rfl,?_⟩
 have hpos:0<c1.length:=by rw[q30];decide
 have hc1:∀ {w2:World} {Z:qE},St w0 w2 (Z++((n57,Cs (ya (T4 256 c1).at_ (.slice sa (T4 256 c1).sp.length sc) (.slice ca (T4 256 c1).code.length cc)) 41)::(M++(A++(L4.bl q S4++(N++(X++H)))))))->(convert 38 9 (.slice ca (T4 256 c1).code.length cc)).run P w2=.ok (.string (strOfNums c1)) w2:=fun {w2 Z} h2=>
  qgU (c:=c1) hSM (fun u hu=>h2.has _ _ (List.mem_append_right _ (.tail _ (List.mem_append_left _ hu)))) hpos
 have fin:∀ {w2:World} {Z:qE},qF w0 Z->St w0 w2 (Z++((n57,Cs (ya (T4 256 c1).at_ (.slice sa (T4 256 c1).sp.length sc) (.slice ca (T4 256 c1).code.length cc)) 41)::(M++(A++(L4.bl q S4++(N++(X++H)))))))->yf false (some ⟨q.cb,0,none⟩) w2 K:=fun {w2 Z} hZ h2=>by
  rw[qrx,qb]
  have h3:St w0 w2 (Z++((n57,Cs (ya (T4 256 c1).at_ (.slice sa (T4 256 c1).sp.length sc) (.slice ca (T4 256 c1).code.length cc)) 41)::(M++(A++(L4.bl q S4++((N++X)++H)))))):=h2.perm (qn fun c=>by simp only[List.map_append,List.map_cons,List.sum_append,List.sum_cons];omega)
  exact qEx hL4 hg (qF.append hN hX) ((((h3.sub hZ).tail hn57).sub hMN).sub hAN) hK
 refine⟨⟨_,_,hc1 (Z:=[]) h60,?_⟩,?_⟩
 ·refine JI _ _ _ h60 fun w141 ov2 Z hSZ hZ h141=>?_
  obtain⟨za,zc,e⟩:=hSZ.form
  subst e
  exact⟨_,_,_,rfl,_,_,qgU hSZ (fun u hu=>h141.has _ _ (List.mem_append_left _ hu)) hpos,false,q7m,fin hZ h141⟩
 ·refine JI _ _ _ h60 fun w147 ov2 Z hSZ hZ h147=>?_
  obtain⟨za,zc,e⟩:=hSZ.form
  subst e
  have hm:(n57,Cs (ya (T4 256 c1).at_ (.slice sa (T4 256 c1).sp.length sc) (.slice ca (T4 256 c1).code.length cc)) 41)∈(Z++((n57,Cs (ya (T4 256 c1).at_ (.slice sa (T4 256 c1).sp.length sc) (.slice ca (T4 256 c1).code.length cc)) 41)::(M++(A++(L4.bl q S4++(N++(X++H))))))):=List.mem_append_right _ (.head _)
  have hcell:w147.cell? ((Addr.mk n57 0 none).add 2)=some (.slice ca (T4 256 c1).code.length cc):=by rw[qa,qw (h147.has _ _ hm)];rfl
  have hz:=qgU (w:=w147) hSZ (fun u hu=>h147.has _ _ (List.mem_append_left _ hu)) hpos
  exact⟨_,_,_,rfl,hcell,⟨_,_,hc1 h147,_,_,hz,false,q7m,fin hZ h147⟩,⟨_,_,hz,hcell,_,_,hc1 h147,false,q7m,fin hZ h147⟩⟩
theorem q5F(h:St w0 w H)(hg:zA H)(hK:∀ w',St w0 w' H->K (.bool true) w'):q9 P 15 [] w K:=by
 refine qKp _ _ ?_
 rw[qGf]
 refine⟨_,qLa,?_⟩
 refine qi2 h (fun hc=>by exact absurd hc (by decide)) fun n k hn hk _ _ hk4 hk16 _ _ _ w2 q L hL h2=>⟨_,_,rfl,?_⟩
 have hn2:n=2:=by omega
 have hk4':k=4:=by
  rcases Qj hk4 hk16 with rfl | rfl | rfl | rfl | rfl | rfl | rfl | rfl | rfl | rfl | rfl | rfl | rfl<;>first | rfl | (exact absurd hk (by decide))
 subst hn2;subst hk4'
 have hL:L.Ok w0 q S0:=hL
 have h2:St w0 w2 (L.bl q S0++([]++H)):=h2
 simp only[show((0:Int) != 0)=false from rfl,qb,Option.isNone_some]
 rw[qpX,qb,qrj]
 refine Yc JI (j5 qDS) (by rw[q30];decide) ⟨by decide,by decide⟩ p1 (by decide) (by decide) (by decide) hL hg (qF.nil _) h2 fun w15 L1 X1 _ _ hL1 hX1 h15 _=>?_
 refine Yc qJy (j5 qOI) (by decide) ⟨by decide,by decide⟩ p2 (by decide) (by decide) (by decide) hL1 hg hX1 h15 fun w26 L2 X2 _ _ hL2 hX2 h26 _=>?_
 have hg2:zA (X2++H):=hg.mono fun u hu=>List.mem_append_right _ hu
 refine VO h26 hL2 hg2 (by decide) (by decide) fun w31 h31=>⟨_,_,rfl,?_⟩
 have hf:=jV (by kernel_rfl:qaM S2=true)
 refine Vl (id:=1) (slot:=7) h31 hL2 hg2 hf.table ?_
 rw[p3,p12.1]
 intro w35 L3 hL3 h35
 refine⟨_,_,rfl,?_⟩
 have g1:S1.given=1:=rfl
 have g2:S2.given=2:=rfl
 simp only[g1,g2,show((0:Int) != 0)=false from rfl,show((1:Int) != 1)=false from rfl,show((2:Int) != 2)=false from rfl,show((2:Int) != 0)=true from rfl,Bool.not_true,qb]
 have hf3:=jV (by kernel_rfl:qaM S3=true)
 refine q5c h35 hL3 hf3.rows (by decide) (qbj (by decide) (by decide)) fun w160 h160=>⟨_,rfl,_,qOj,?_⟩
 have e1:(#[J S3.items.length,J (Qu S3),J (jq S3),J S3.ev,J S3.dr]:Array Value)=#[J 2,J 22,J 1,J 0,J 0]:=by rw[p13.1,p13.2.1];rfl
 have h160:St w0 w160 (L3.bl q S3++(X2++H)):=h160
 show ∃ b163:Bool,_/\_
 refine⟨false,?_,?_⟩
 ·show ∀ wq,(do eqGuard .neq 47 (.tmp 83) (.tmp 84) (.agg #[J S3.items.length,J (Qu S3),J (jq S3),J S3.ev,J S3.dr]) (.agg #[J 2,J 22,J 1,J 0,J 0]);binOp .neq 47 (.agg #[J S3.items.length,J (Qu S3),J (jq S3),J S3.ev,J S3.dr]) (.agg #[J 2,J 22,J 1,J 0,J 0]):Sem Value).run P wq=.ok (.bool false) wq
  rw[e1];exact qJH
 rw[qrg,qb]
 exact qzg hL3 hg hX2 h160 hK
end Go.Fx.Tryz
namespace Go.Fx.Tryz
set_option maxRecDepth 100000
open Go Go.Fx Go.Proofs
def c11:=qm Tryz.f11
def c36:=qm Tryz.f36
def qNq:=Tryz.f36.results.toList
abbrev qwk K:=qr P qNq K
def f36 a w K:=CS P c36 none [2] [2] (qwk K) (qz 13 [(Value.agg a)]) w
def qiD a w K:=SG c36 7 [2] [2] (qwk K) 13 [(2,VB a)] w
theorem q4e:qiD a w K=(K (Value.bool a) w):=kr
theorem qJZ:f36 b w K=(qv b 41 w (fun c a=>∃ (f:OA) (d g:Nat),a.cell? ((Addr.mk c 0 none).add 2)=some (.slice f d g)/\qp (decide ((((d:Nat):Int):Int)<=5000)) (∃ (h:OA) (e i:Nat),a.cell? ((Addr.mk c 0 none).add 1)=some (.slice h e i)/\qiD (decide ((((e:Nat):Int):Int)<=200)) a K) (qiD false a K))):=kr
theorem qJS a w K(h:f36 a w K):q9 P 36 [(Value.agg a)] w K:=qA c36 Tryz.func36 h
end Go.Fx.Tryz
namespace Go.Fx.Tryz
open Go Go.Fx Go.Fx.Ch
open Go.Proofs
set_option linter.all false
set_option maxRecDepth 20000
variable {w0 w:World} {H X G:qE} {K:KT}
theorem qBn{a:Value}{sa ca:Option Addr}{sl sc cl cc:Nat}(h:St w0 w H)(hK:∀ w',St w0 w' H->K (.bool (decide (cl<=5000)&&decide (sl<=200))) w'):q9 P 36 [.agg #[a,.slice sa sl sc,.slice ca cl cc]] w K:=by
 refine qJS _ _ _ ?_
 rw[qJZ]
 refine h.newC fun n1 w2 hn1 h2=>⟨ca,cl,cc,by rw[qa];exact h2.cell (k:=0) rfl,?_⟩
 have hK:=hK w2 (h2.tail hn1)
 rw[qg]
 refine⟨fun hb=>⟨sa,sl,sc,by rw[qa];exact h2.cell (k:=0) rfl,?_⟩,fun hb=>?_⟩
 ·have hb:cl<=5000:=by have:=of_decide_eq_true hb;omega
  rw[q4e]
  rw[decide_eq_true hb,Bool.true_and]at hK
  have e:decide (((sl:Nat):Int)<=200)=decide (sl<=200):=by
   by_cases hx:sl<=200
   ·rw[decide_eq_true hx,decide_eq_true om]
   ·rw[decide_eq_false hx,decide_eq_false om]
  rw[e];exact hK
 ·have hb:¬ cl<=5000:=by have:=of_decide_eq_false hb;omega
  rw[q4e]
  rw[decide_eq_false hb,Bool.false_and]at hK
  exact hK
end Go.Fx.Tryz
namespace Go.Fx.Tryz
open Go Go.Fx Go.Fx.Ch
open Go.Proofs Go.Proofs.YtepbaneageipfaaGreatDoor
open Go.ChangeShapes Go.WideShapes Go.ChangeAt Go.RowKit
set_option linter.all false
set_option maxRecDepth 100000
variable {W:World}
abbrev JU : List (String × DataW Unit) := [("math/bits.deBruijn32tab", Rows.laid_math_bits_deBruijn32tab), ("math/bits.deBruijn64tab", Rows.laid_math_bits_deBruijn64tab), ("candling/host.forms", Rows.laid_candling_host_forms)]
theorem qbg{n:String}{g:Nat}{cs:Array Value}(hg:P.globalNamed n=some g)(hv:W.var? P n=some cs)(hfz:∃ c t,W.heap[g]?=some (.cells c t (0,0))):∃ t,W.heap[g]?=some (Cs cs.toList t):=by
 obtain⟨c,t,h⟩:=hfz
 simp only[World.var?,hg,Option.bind_some,h,Option.some.injEq]at hv
 subst hv
 exact⟨t,by rw[h];simp[Cs]⟩
theorem d64:(Rows.laid_math_bits_deBruijn64tab:DataW Unit)=.agg (Yl.map fun x=>.lit (.int .u8 x)):=rfl
def qHP:DataW Unit->List (List UInt8)
 | .agg l=>l.map fun
  | .agg (.lit (.string s)::_)=>s
  | _=>[]
 | _=>[]
def qyO:List (List UInt8):=qHP Rows.laid_candling_host_forms
theorem qJT:(Rows.laid_candling_host_forms:DataW Unit)=.agg ((List.range 46).map fun i=>.agg [.lit (.string (qyO.getD i [])),.lit (.int .i64 ((forms.getD i (0,0)).1:Nat)),.lit (.int .i64 ((forms.getD i (0,0)).2:Nat))]):=kr
theorem qtI{ds:List Int}{cs:List Value}{fuel:Nat}{p:List MemPlace}{sp:Nat->Bool}(hl:ds.length=64)(h:DataW.trod (fun _=>()) P W 0 sp false fuel 244 cs=some (.agg (ds.map fun x=>.lit (.int .u8 x)),p)):cs=ds.map fun x=>Value.int .u8 x:=by
 obtain⟨xs,m,_,hx,hlen,hxs,hel⟩:=DataW.trod_array Tryz.underlying244 h
 have c5:P.cellsOf 5=1:=kr
 have c244:P.cellsOf 244=64:=kr
 rw[c244]at hlen
 simp only[Prod.mk.injEq,DataW.agg.injEq]at hx
 apply List.ext_getElem?
 intro i
 by_cases hi:i<64
 ·have he:=hel i hi
  rw[c5,List.getElem?_eq_getElem om]at he
  obtain⟨k,e1,e2,_⟩:=DataW.trod_int Tryz.underlying5 he
  have h1:=congrArg (fun l=>l[i]?) hx.1
  simp only[List.getElem?_map,List.getElem?_eq_getElem (show i<ds.length by omega),List.getElem?_eq_getElem (show i<xs.length by omega),Option.map_some,Option.some.injEq]at h1
  rw[e2]at h1
  have hk:k=ds[i]:=by injection h1 with h1;injection h1 with _ h1;exact h1.symm
  have h2:=congrArg (fun l=>l[0]?) e1
  simp only[Nat.mul_one,List.getElem?_take,List.getElem?_drop,Nat.add_zero,Nat.zero_lt_one,if_true,List.getElem?_cons_zero]at h2
  rw[h2,List.getElem?_map,List.getElem?_eq_getElem om,hk];rfl
 ·rw[List.getElem?_eq_none om,List.getElem?_eq_none (by rw[List.length_map];omega)]
theorem qif{cs:List Value}{fuel:Nat}{p:List MemPlace}{sp:Nat->Bool}(h:DataW.trod (fun _=>()) P W 0 sp false fuel 232 cs=some (Rows.laid_candling_host_forms,p)):Q7 cs:=by
 rw[qJT]at h
 obtain⟨xs,m,_,hx,hlen,hxs,hel⟩:=DataW.trod_array Tryz.underlying232 h
 have qsu:P.cellsOf 214=3:=kr
 have c232:P.cellsOf 232=138:=kr
 have c9:P.cellsOf 9=1:=kr
 have c3':P.cellsOf 3=1:=kr
 rw[c232]at hlen
 simp only[Prod.mk.injEq,DataW.agg.injEq]at hx
 refine⟨hlen,fun i hi=>?_⟩
 have he:=hel i hi
 rw[qsu,List.getElem?_eq_getElem om]at he
 have h1:=congrArg (fun l=>l[i]?) hx.1
 simp only[List.getElem?_map,List.getElem?_range hi,List.getElem?_eq_getElem (show i<xs.length by omega),Option.map_some,Option.some.injEq]at h1
 obtain⟨ys,m2,_,hy,hl3,hys,hf⟩:=DataW.trod_struct Tryz.underlying214 he
 rw[qsu]at hl3
 rw[hy]at h1
 simp only[DataW.agg.injEq]at h1
 generalize (cs.drop (i*3)).take 3=r at *
 match r,hl3 with
 | [a,b,c],_=>
 have hy3:ys.length=3:=by rw[hys];rfl
 match ys,hy3 with
 | [y0,y1,y2],_=>
 have f0:=hf 0 _ rfl
 have f1:=hf 1 _ rfl
 have f2:=hf 2 _ rfl
 obtain⟨s,e0,g0,_⟩:=DataW.trod_string Tryz.underlying9 f0
 obtain⟨k1,e1,g1,_⟩:=DataW.trod_int Tryz.underlying3 f1
 obtain⟨k2,e2,g2,_⟩:=DataW.trod_int Tryz.underlying3 f2
 simp[c9,c3']at e0 e1 e2
 subst e0 e1 e2
 simp only[List.map_cons,List.map_nil,List.cons.injEq,and_true,g0,g1,g2,DataW.lit.injEq,Lit.int.injEq,true_and]at h1
 refine⟨s,?_⟩
 unfold y8
 rw[<-h1.2.1,<-h1.2.2]
theorem q8S(h:laidMetH P JU W):∃ gcs gt t,W.heap[0]?=some (Cs gcs gt)/\Q7 gcs/\W.heap[2]?=some (Cs (Yl.map fun x=>.int .u8 x) t):=by
 rw[MakeChecks.laidMetH_plain _ _ _ kr]at h
 obtain⟨ps,⟨g1,t1,cs1,f1,p1,q1,hg1,ht1,hv1,hd1,⟨g2,t2,cs2,f2,p2,q2,hg2,ht2,hv2,hd2,⟨g3,t3,cs3,f3,p3,q3,hg3,ht3,hv3,hd3,hq,e3⟩,e2⟩,e1⟩,hnd,hfz⟩:=h
 obtain rfl := Option.some.inj ((show P.globalNamed "math/bits.deBruijn64tab" = some 2 by kernel_rfl).symm.trans hg2)
 obtain rfl := Option.some.inj ((show P.globalNamed "candling/host.forms" = some 0 by kernel_rfl).symm.trans hg3)
 obtain rfl:=Option.some.inj ((show(P.globals[2]?).map (·.type)=some 244 by kernel_rfl).symm.trans ht2)
 obtain rfl:=Option.some.inj ((show(P.globals[0]?).map (·.type)=some 232 by kernel_rfl).symm.trans ht3)
 have hT:=qif hd3
 rw[d64]at hd2
 have h64:=qtI (ds:=Yl) rfl hd2
 have hm:∀ (g:Nat) (cs:Array Value),0<cs.size->MemPlace.cell g 0∈MemPlace.row ⟨g,0,none⟩ cs.size:=fun g cs hc=>by
  simp only[MemPlace.row,List.mem_map,List.mem_range]
  exact⟨0,hc,rfl⟩
 have hs3:0<cs3.size:=by have:=hT.len;rw[Array.length_toList]at this;omega
 have hs2:0<cs2.size:=by
  have:=congrArg List.length h64
  rw[Array.length_toList,List.length_map]at this
  rw[this];decide
 obtain⟨gt,hb0⟩:=qbg hg3 hv3 (hfz 0 0 (by rw[e1,e2,e3];exact List.mem_append_right _ (List.mem_append_right _ (List.mem_append_left _ (List.mem_append_left _ (hm 0 cs3 hs3)))))).1
 obtain⟨t,hb2⟩:=qbg hg2 hv2 (hfz 2 0 (by rw[e1,e2];exact List.mem_append_right _ (List.mem_append_left _ (List.mem_append_left _ (hm 2 cs2 hs2))))).1
 rw[h64]at hb2
 exact⟨_,gt,t,hb0,hT,hb2⟩
end Go.Fx.Tryz
namespace Go.Proofs.YtepbaneageipfaaGreatDoor
open Go
set_option maxRecDepth 100000
theorem qPj{a b:Bool}(h:a=true)(g:b=true):(a&&b)=true:=by rw[h,g];rfl
end Go.Proofs.YtepbaneageipfaaGreatDoor
namespace Go.Fx
open Go
variable {w0 w:World} {H:qE}
theorem St.unadd{b:Nat}{o:Obj}(h:St w0 w ((b,o)::H))(hb:w0.heap[b]?=some o):St w0 w H:=by
 refine⟨h.kept,h.le,fun c p hp=>h.has c p (.tail _ hp),?_,fun k hk hn=>?_⟩
 ·have:=h.nd
  rw[List.map_cons]at this
  exact(List.nodup_cons.1 this).2
 ·by_cases e:k=b
  ·subst e
   rw[h.has k o (.head _),hb]
  ·exact h.old k hk (by rw[List.map_cons,List.mem_cons];exact fun hc=>hc.elim e hn)
theorem St.below'(h:St w0 w []):RowKit.Below w0.heap.size w0 w:=⟨h.kept.os,h.kept.tape,h.kept.output,h.le,fun k hk=>h.old k hk (by simp)⟩
namespace Tryz
open Go.Fx.Ch
open Go.Proofs
set_option maxRecDepth 100000
theorem own:ownKnob P.godebug=none:=kr
theorem qlf:laidOutB P=true:=kr
end Tryz
end Go.Fx
namespace Go.Proofs.YtepbaneageipfaaGreatDoor
open Go Go.Fx Go.Fx.Tryz Go.Fx.Ch
open Go.ChangeShapes Go.WideShapes Go.ChangeAt Go.RowKit
set_option maxRecDepth 100000
theorem qxV(os:Os)(args:Array Value):laidMetH Tryz.prog JU ((World.laidAll Tryz.prog os JU).forCall (fun _ _=>0) ⟨#[],args,[]⟩).memory:=by
 rw[MakeChecks.laidMetH_plain _ _ _ kr]
 exact laidMet_laidAll _ kr kr
end Go.Proofs.YtepbaneageipfaaGreatDoor
namespace Go.Fx.Ch
set_option linter.all false
def D(N a b:Nat):Nat:=if a<=b then b-a else b+N-a
theorem qFy{N a n:Nat}(ha:a<N)(hn:n<N):(a+n) % N=if a+n<N then a+n else a+n-N:=by
 split
 ·exact Nat.mod_eq_of_lt ‹_›
 ·rw[Nat.mod_eq_sub_mod om,Nat.mod_eq_of_lt om]
theorem q3Q{N a:Nat}(ha:a<N)(n:Nat):(a+n) % N<N:=Nat.mod_lt _ om
theorem qoS{N a n:Nat}(ha:a<N)(hn:n<N):D N a ((a+n) % N)=n:=by
 rw[qFy ha hn];unfold D;split<;>split<;>omega
theorem q66{N a b:Nat}(ha:a<N)(hb:b<N):(a+D N a b) % N=b:=by
 have:D N a b<N:=by unfold D;split<;>omega
 rw[qFy ha this];unfold D;split<;>split<;>omega
theorem q43{N a b:Nat}(ha:a<N)(hb:b<N):D N a b<N:=by unfold D;split<;>omega
theorem qtZ{N a:Nat}:D N a a=0:=by unfold D;simp
theorem qLx{N a b:Nat}(ha:a<N)(hb:b<N)(h:a≠b):0<D N a b:=by unfold D;split<;>omega
theorem qFB{N a b c:Nat}(ha:a<N)(hb:b<N)(hc:c<N)(h:D N a b=D N a c):b=c:=by
 unfold D at h;split at h<;>split at h<;>omega
theorem j7{t:List Int}{i j:Nat}{v:Int}(hi:i<t.length):qk (t.set i v) j=if i=j then v else qk t j:=by
 unfold qk
 rw[List.getElem?_set]
 split
 ·rename_i h;subst h;first | rfl | (rw[if_pos hi];rfl)
 ·rfl
structure Tab (N:Nat) (t:List Int) (ids:Int->Prop) (home:Int->Nat):Prop where
 z:¬ ids 0
 len:t.length=N
 mem:∀ i,i<N->qk t i≠0->ids (qk t i)
 has:∀ x,ids x->∃ i,i<N/\qk t i=x
 inj:∀ i j,i<N->j<N->qk t i≠0->qk t i=qk t j->i=j
 reach:∀ i j,i<N->j<N->qk t i≠0->qk t j=0->D N (home (qk t i)) i<D N j i
theorem Tab.congr{N:Nat}{t:List Int}{ids ids':Int->Prop}{home home':Int->Nat}(h:Tab N t ids home)(hi:∀ x,ids x↔ids' x)(hh:∀ x,ids x->home x=home' x):Tab N t ids' home':=by
 refine⟨fun hz=>h.z ((hi 0).2 hz),h.len,fun i hi' hs=>(hi _).1 (h.mem i hi' hs),fun x hx=>h.has x ((hi x).2 hx),h.inj,fun i j hi' hj hs he=>?_⟩
 rw[<-hh _ (h.mem i hi' hs)]
 exact h.reach i j hi' hj hs he
theorem Tab.empty(N:Nat)(home:Int->Nat):Tab N (List.replicate N 0) (fun _=>False) home:=by
 have h0:∀ i,qk (List.replicate N 0) i=0:=fun i=>by
  unfold qk
  rw[List.getElem?_replicate]
  split<;>rfl
 exact⟨fun h=>h,List.length_replicate,fun i _ h=>absurd (h0 i) h,fun _ h=>h.elim,fun i _ _ _ h=>absurd (h0 i) h,fun i _ _ _ h=>absurd (h0 i) h⟩
theorem q3T{k:Nat}{id:Int}{frm:Nat}{t:List Int}(hf:frm<2 ^ k):∀ f n,n+f=2 ^ k->(∀ m,m<n->qk t ((frm+m) % 2 ^ k)≠0)->(∃ m,n<=m/\m<2 ^ k/\qk t ((frm+m) % 2 ^ k)=0)->
  ∃ m,m<2 ^ k/\qk t ((frm+m) % 2 ^ k)=0/\(∀ j,j<m->qk t ((frm+j) % 2 ^ k)≠0)/\Zi k id frm t f n=t.set ((frm+m) % 2 ^ k) id
 | 0,n,hn,_,⟨m,h1,h2,_⟩=>by omega
 | f+1,n,hn,hb,⟨m,h1,h2,h3⟩=>by
  unfold Zi
  split
  ·rename_i h0;exact⟨n,by omega,h0,hb,rfl⟩
  ·rename_i h0
   refine q3T hf f (n+1) om (fun j hj=>?_) ⟨m,?_,h2,h3⟩
   ·by_cases hjn:j=n
    ·subst hjn;exact h0
    ·exact hb j om
   ·by_cases hmn:m=n
    ·subst hmn;exact absurd h3 h0
    ·omega
theorem Tab.insert{k:Nat}{t:List Int}{ids:Int->Prop}{home:Int->Nat}{id:Int}{e:Nat}(h:Tab (2 ^ k) t ids home)(hid:¬ ids id)(h0:id≠0)(hh:home id<2 ^ k)(he:e<2 ^ k)(he0:qk t e=0) :
  Tab (2 ^ k) (Zi k id (home id) t (2 ^ k) 0) (fun x=>ids x\/x=id) home:=by
 obtain⟨m,hm,hm0,hb,heq⟩:=q3T (k:=k) (id:=id) (frm:=home id) (t:=t) hh (2 ^ k) 0 om (fun m hm=>by omega) ⟨D (2 ^ k) (home id) e,by omega,q43 hh he,by rw[q66 hh he];exact he0⟩
 rw[heq]
 clear heq
 generalize 2 ^ k=N at *
 have hp:(home id+m) % N<N:=q3Q hh m
 have hD:D N (home id) ((home id+m) % N)=m:=qoS hh hm
 have hb':∀ j,j<N->qk t j=0->m<=D N (home id) j:=fun j hj hj0=>by
  rcases Nat.lt_or_ge (D N (home id) j) m with hlt | hge
  ·have:=hb _ hlt;rw[q66 hh hj]at this;exact absurd hj0 this
  ·exact hge
 generalize (home id+m) % N=p at *
 have hpl:p<t.length:=by rw[h.len];exact hp
 have hs:∀ j,qk (t.set p id) j=if p=j then id else qk t j:=fun j=>j7 hpl
 refine⟨fun hz=>hz.elim h.z fun hz=>h0 hz.symm,by rw[List.length_set];exact h.len,?_,?_,?_,?_⟩
 ·intro i hi hne
  rw[hs]at hne ⊢
  split
  ·exact .inr rfl
  ·rename_i hpi;rw[if_neg hpi]at hne;exact .inl (h.mem i hi hne)
 ·rintro x (hx | rfl)
  ·obtain⟨i,hi,hx'⟩:=h.has x hx
   refine⟨i,hi,?_⟩
   rw[hs,if_neg,hx']
   rintro rfl
   rw[hm0]at hx';subst hx'
   exact h.z hx
  ·exact⟨p,hp,by rw[hs,if_pos rfl]⟩
 ·intro i j hi hj hne heq
  rw[hs]at hne heq
  rw[hs]at heq
  split at heq
  ·rename_i hpi
   split at heq
   ·omega
   ·exact absurd (h.mem j hj (by rw[<-heq];exact h0)) (by rw[<-heq];exact hid)
  ·rename_i hpi
   rw[if_neg hpi]at hne
   split at heq
   ·exact absurd (h.mem i hi hne) (by rw[heq];exact hid)
   ·exact h.inj i j hi hj hne heq
 ·intro i j hi hj hne hj0
  rw[hs]at hne hj0 ⊢
  have hpj:p≠j:=by rintro rfl;rw[if_pos rfl]at hj0;exact h0 hj0
  rw[if_neg hpj]at hj0
  split
  ·rename_i hpi
   subst hpi
   have h1:=hb' j hj hj0
   have h2:D N (home id) j≠D N (home id) p:=fun hh'=>hpj (qFB hh hj hp hh').symm
   rw[hD]
   rw[hD]at h2
   unfold D at *
   split at h1<;>split at hD<;>split<;>simp_all<;>omega
  ·rename_i hpi
   rw[if_neg hpi]at hne
   exact h.reach i j hi hj hne hj0
structure Rem (N:Nat) (t:List Int) (ids:Int->Prop) (home:Int->Nat) (h d:Nat):Prop where
 z:¬ ids 0
 len:t.length=N
 hN:h<N
 h0:qk t h=0
 mem:∀ i,i<N->qk t i≠0->ids (qk t i)
 has:∀ x,ids x->∃ i,i<N/\qk t i=x
 inj:∀ i j,i<N->j<N->qk t i≠0->qk t i=qk t j->i=j
 other:∀ i j,i<N->j<N->qk t i≠0->qk t j=0->j≠h->D N (home (qk t i)) i<D N j i
 seen:∀ i,i<N->0<D N h i->D N h i<d->qk t i≠0/\D N (home (qk t i)) i<D N h i
theorem Rem.keep{N:Nat}{t:List Int}{ids:Int->Prop}{home:Int->Nat}{h d c:Nat}(r:Rem N t ids home h d)(hc:c<N)(hd:D N h c=d)(h0:qk t c≠0)(hb:D N (home (qk t c)) c<D N h c):Rem N t ids home h (d+1):=by
 refine⟨r.z,r.len,r.hN,r.h0,r.mem,r.has,r.inj,r.other,fun i hi h1 h2=>?_⟩
 by_cases hid:D N h i=d
 ·have:i=c:=qFB r.hN hi hc (hid.trans hd.symm)
  subst this
  exact⟨h0,hb⟩
 ·exact r.seen i hi h1 om
theorem Rem.move{N:Nat}{t:List Int}{ids:Int->Prop}{home:Int->Nat}{h d c:Nat}(r:Rem N t ids home h d)(hc:c<N)(hd:D N h c=d)(h1:0<d)(h0:qk t c≠0)(hx:home (qk t c)<N)
  (hb:¬ D N (home (qk t c)) c<D N h c):Rem N ((t.set h (qk t c)).set c 0) ids home c 1:=by
 have hhc:h≠c:=by rintro rfl;rw[qtZ]at hd;omega
 have hs:∀ j,qk ((t.set h (qk t c)).set c 0) j=if c=j then 0 else if h=j then qk t c else qk t j:=fun j=>by
  rw[j7 (by rw[List.length_set,r.len];exact hc),j7 (by rw[r.len];exact r.hN)]
 have hN:=r.hN
 refine⟨r.z,by rw[List.length_set,List.length_set];exact r.len,hc,by rw[hs,if_pos rfl],?_,?_,?_,?_,fun i _ h1 h2=>by omega⟩
 ·intro i hi hne
  rw[hs]at hne ⊢
  split at hne
  ·exact absurd rfl hne
  ·rename_i hci
   rw[if_neg hci]
   split at hne
   ·rename_i hhi;rw[if_pos hhi];exact r.mem c hc h0
   ·rename_i hhi;rw[if_neg hhi];exact r.mem i hi hne
 ·intro x hx'
  obtain⟨i,hi,hxi⟩:=r.has x hx'
  by_cases hic:i=c
  ·subst hic;exact⟨h,hN,by rw[hs,if_neg (Ne.symm hhc),if_pos rfl,hxi]⟩
  ·refine⟨i,hi,?_⟩
   rw[hs,if_neg (Ne.symm hic),if_neg,hxi]
   rintro rfl
   rw[r.h0]at hxi;subst hxi;exact r.z hx'
 ·intro i j hi hj hne heq
  rw[hs]at hne heq
  rw[hs]at heq
  by_cases hci:c=i
  ·rw[if_pos hci]at hne;exact absurd rfl hne
  rw[if_neg hci]at hne heq
  by_cases hcj:c=j
  ·rw[if_pos hcj]at heq;exact absurd heq hne
  rw[if_neg hcj]at heq
  by_cases hhi:h=i
  ·rw[if_pos hhi]at hne heq
   by_cases hhj:h=j
   ·omega
   ·rw[if_neg hhj]at heq;exact absurd (r.inj c j hc hj hne heq) hcj
  ·rw[if_neg hhi]at hne heq
   by_cases hhj:h=j
   ·rw[if_pos hhj]at heq;exact absurd (r.inj i c hi hc hne heq).symm hci
   ·rw[if_neg hhj]at heq;exact r.inj i j hi hj hne heq
 ·intro i j hi hj hne hj0 hjc
  rw[hs]at hne hj0 ⊢
  rw[if_neg (Ne.symm hjc)]at hj0
  have hhj:h≠j:=by rintro rfl;rw[if_pos rfl]at hj0;exact h0 hj0
  rw[if_neg hhj]at hj0
  by_cases hci:c=i
  ·rw[if_pos hci]at hne;exact absurd rfl hne
  rw[if_neg hci]at hne ⊢
  by_cases hhi:h=i
  ·subst hhi
   rw[if_pos rfl]at hne ⊢
   have h2:=r.other c j hc hj h0 hj0 (Ne.symm hhj)
   generalize home (qk t c)=x at *
   unfold D at *
   split at h2<;>split at h2<;>split at hb<;>split at hb<;>split<;>split<;>omega
  ·rw[if_neg hhi]at hne ⊢
   exact r.other i j hi hj hne hj0 (Ne.symm hhj)
theorem Rem.done{N:Nat}{t:List Int}{ids:Int->Prop}{home:Int->Nat}{h d c:Nat}(r:Rem N t ids home h d)(hc:c<N)(hd:D N h c=d)(h0:qk t c=0)(hhc:h≠c):Tab N t ids home:=by
 refine⟨r.z,r.len,r.mem,r.has,r.inj,fun i j hi hj hne hj0=>?_⟩
 by_cases hjh:j=h
 ·subst hjh
  rcases Nat.lt_or_ge (D N j i) d with hlt | hge
  ·have hij:j≠i:=by rintro rfl;exact hne hj0
   exact(r.seen i hi (qLx hj hi hij) hlt).2
  ·have h2:=r.other i c hi hc hne h0 (Ne.symm hhc)
   have hci:c≠i:=by rintro rfl;exact hne h0
   generalize home (qk t i)=x at *
   unfold D at *
   split at h2<;>split at h2<;>split at hge<;>split at hd<;>split<;>omega
 ·exact r.other i j hi hj hne hj0 hjh
theorem qFE{k a b:Nat}(ha:a<2 ^ k)(hb:b<2 ^ k):far k (a:Int) (b:Int)=(D (2 ^ k) a b:Nat):=by
 unfold far D
 have hp:((2:Int) ^ k)=((2 ^ k:Nat):Int):=by rw[Int.natCast_pow];rfl
 rw[hp]
 generalize 2 ^ k=N at *
 split
 ·rw[Int.emod_eq_of_lt om om];omega
 ·have:((b:Int)-a) % (N:Int)=((b:Int)-a+N) % N:=by rw[Int.add_emod_right]
  rw[this,Int.emod_eq_of_lt om om];omega
theorem Jr{items:List (Int × TR)}{k:Nat}{id:Int}{frm:Nat}{ids:Int->Prop}{home:Int->Nat}(hf:frm<2 ^ k)(hhome:∀ x,ids x->ze k (qj items x).at_=(home x:Int)/\home x<2 ^ k) :
  ∀ f n h (t:List Int),n+f=2 ^ k->Rem (2 ^ k) t ids home h (n-D (2 ^ k) frm h)->D (2 ^ k) frm h<n->(∃ e,e<2 ^ k/\e≠h/\qk t e=0/\n<=D (2 ^ k) frm e)->Tab (2 ^ k) (yq items k id frm f n (some h) t) ids home
 | 0,n,h,t,hn,r,hd,⟨e,h1,_,_,h2⟩=>by have:=q43 hf h1;omega
 | f+1,n,h,t,hn,r,hd,⟨e,h1,h2,h3,h4⟩=>by
  unfold yq
  have hh:=r.hN
  have hnN:n<2 ^ k:=by omega
  have hc:(frm+n) % 2 ^ k<2 ^ k:=q3Q hf n
  have hDc:D (2 ^ k) frm ((frm+n) % 2 ^ k)=n:=qoS hf hnN
  have hDh:D (2 ^ k) h ((frm+n) % 2 ^ k)=n-D (2 ^ k) frm h:=by
   generalize (frm+n) % 2 ^ k=c at *
   generalize 2 ^ k=N at *
   unfold D at *
   split at hDc<;>split at hd<;>split<;>first | omega | (split<;>omega)
  split
  ·rename_i h0
   exact r.done hc hDh h0 (by rintro hhc;rw[<-hhc,qtZ]at hDh;omega)
  ·rename_i h0
   have hm:=hhome _ (r.mem _ hc h0)
   rw[hm.1,qFE hm.2 hc,qFE hh hc]
   have hne:n≠D (2 ^ k) frm e:=by
    intro hh'
    have:(frm+n) % 2 ^ k=e:=by rw[hh'];exact q66 hf h1
    rw[this]at h0;exact h0 h3
   split
   ·rename_i hb
    refine Jr hf hhome f (n+1) h t om ?_ om ⟨e,h1,h2,h3,by omega⟩
    have:=r.keep hc hDh h0 om
    rw[show n+1-D (2 ^ k) frm h=n-D (2 ^ k) frm h+1 by omega]
    exact this
   ·rename_i hb
    refine Jr hf hhome f (n+1) _ _ om ?_ om ⟨e,h1,?_,?_,by omega⟩
    ·have:=r.move hc hDh om h0 hm.2 om
     rw[hDc,show n+1-n=1 by omega]
     exact this
    ·intro he;rw[he,hDc]at hne;omega
    ·rw[j7 (by rw[List.length_set,r.len];exact hc),j7 (by rw[r.len];exact hh)]
     split
     ·rfl
     ·rw[if_neg (Ne.symm h2)];exact h3
theorem q4h{items:List (Int × TR)}{k:Nat}{id:Int}{frm:Nat}{ids:Int->Prop}{home:Int->Nat}{t:List Int}{r e:Nat}(hf:frm<2 ^ k)(hhome:∀ x,ids x->ze k (qj items x).at_=(home x:Int)/\home x<2 ^ k)
  (h:Tab (2 ^ k) t ids home) (hid:ids id) (hr:r<2 ^ k) (hri:qk t ((frm+r) % 2 ^ k)=id) (he:e<2 ^ k) (he0:qk t e=0) (hre:r<D (2 ^ k) frm e) :
  ∀ f n,n+f=2 ^ k->n<=r->Tab (2 ^ k) (yq items k id frm f n none t) (fun x=>ids x/\x≠id) home
 | 0,n,hn,hnr=>by omega
 | f+1,n,hn,hnr=>by
  unfold yq
  have hc:(frm+n) % 2 ^ k<2 ^ k:=q3Q hf n
  have hDc:D (2 ^ k) frm ((frm+n) % 2 ^ k)=n:=qoS hf om
  have hid0:id≠0:=by rintro rfl;exact h.z hid
  split
  ·rename_i hci
   have hs:∀ j,qk (t.set ((frm+n) % 2 ^ k) 0) j=if(frm+n) % 2 ^ k=j then 0 else qk t j:=fun j=>j7 (by rw[h.len];exact hc)
   generalize (frm+n) % 2 ^ k=c at *
   have hce:e≠c:=by rintro rfl;omega
   refine Jr hf (fun x hx=>hhome x hx.1) f (n+1) c _ om ?_ om ⟨e,he,hce,by rw[hs,if_neg (Ne.symm hce)];exact he0,by omega⟩
   rw[hDc]
   refine⟨fun hz=>h.z hz.1,by rw[List.length_set];exact h.len,hc,by rw[hs,if_pos rfl],?_,?_,?_,?_,fun i _ h1 h2=>by omega⟩
   ·intro i hi hne
    rw[hs]at hne ⊢
    split at hne
    ·exact absurd rfl hne
    ·rename_i hci'
     rw[if_neg hci']
     exact⟨h.mem i hi hne,fun hh=>hci' (h.inj c i hc hi (by rw[hci];exact hid0) (by rw[hci,hh]))⟩
   ·rintro x ⟨hx,hxi⟩
    obtain⟨i,hi,hxx⟩:=h.has x hx
    refine⟨i,hi,?_⟩
    rw[hs,if_neg,hxx]
    rintro rfl
    exact hxi (hxx.symm.trans hci)
   ·intro i j hi hj hne heq
    rw[hs]at hne heq
    rw[hs]at heq
    split at hne
    ·exact absurd rfl hne
    ·rename_i hci'
     rw[if_neg hci']at heq
     split at heq
     ·exact absurd heq hne
     ·exact h.inj i j hi hj hne heq
   ·intro i j hi hj hne hj0 hjc
    rw[hs]at hne hj0 ⊢
    rw[if_neg (Ne.symm hjc)]at hj0
    split at hne
    ·exact absurd rfl hne
    ·rename_i hci'
     rw[if_neg hci']
     exact h.reach i j hi hj hne hj0
  ·rename_i hci
   have:n≠r:=by rintro rfl;exact hci hri
   exact q4h hf hhome h hid hr hri he he0 hre f (n+1) om om
theorem Tab.remove{items:List (Int × TR)}{k:Nat}{id:Int}{ids:Int->Prop}{home:Int->Nat}{t:List Int}{e:Nat}(hhome:∀ x,ids x->ze k (qj items x).at_=(home x:Int)/\home x<2 ^ k)
  (h:Tab (2 ^ k) t ids home) (hid:ids id) (he:e<2 ^ k) (he0:qk t e=0):Tab (2 ^ k) (yq items k id (home id) (2 ^ k) 0 none t) (fun x=>ids x/\x≠id) home:=by
 obtain⟨i,hi,hii⟩:=h.has id hid
 have hf:=(hhome id hid).2
 have hid0:id≠0:=by rintro rfl;exact h.z hid
 have hr:=h.reach i e hi he (by rw[hii];exact hid0) he0
 rw[hii]at hr
 refine q4h (r:=D (2 ^ k) (home id) i) (e:=e) hf hhome h hid (q43 hf hi) (by rw[q66 hf hi];exact hii) he he0 ?_ (2 ^ k) 0 om om
 generalize home id=x at *
 generalize 2 ^ k=N at *
 have:i≠e:=by rintro rfl;rw[he0]at hii;exact hid0 hii.symm
 unfold D at *
 split at hr<;>split at hr<;>split<;>split<;>omega
theorem q0f{items:List (Int × TR)}{t:List Int}{k:Nat}{at_:Int}{frm r:Nat}{x:Int}(hr:qk t ((frm+r) % 2 ^ k)=x)(hx:x≠0)(ha:(qj items x).at_=at_) :
  ∀ f n,n<=r->r<n+f->(∀ m,n<=m->m<r->qk t ((frm+m) % 2 ^ k)≠0/\(qj items (qk t ((frm+m) % 2 ^ k))).at_≠at_)->vG items t k at_ frm f n=(x,r+1)
 | 0,n,h1,h2,_=>by omega
 | f+1,n,h1,h2,hb=>by
  unfold vG
  by_cases hnr:n=r
  ·subst hnr;rw[hr,if_neg hx,if_pos ha]
  ·have:=hb n (Nat.le_refl _) om
   rw[if_neg this.1,if_neg this.2]
   exact q0f hr hx ha f (n+1) om om fun m h3 h4=>hb m om h4
theorem JS{items:List (Int × TR)}{t:List Int}{k:Nat}{at_:Int}{frm r:Nat}(hr:qk t ((frm+r) % 2 ^ k)=0) :
  ∀ f n,n<=r->r<n+f->(∀ m,n<=m->m<r->qk t ((frm+m) % 2 ^ k)≠0/\(qj items (qk t ((frm+m) % 2 ^ k))).at_≠at_)->vG items t k at_ frm f n=(0,r+1)
 | 0,n,h1,h2,_=>by omega
 | f+1,n,h1,h2,hb=>by
  unfold vG
  by_cases hnr:n=r
  ·subst hnr;rw[hr,if_pos rfl]
  ·have:=hb n (Nat.le_refl _) om
   rw[if_neg this.1,if_neg this.2]
   exact JS hr f (n+1) om om fun m h3 h4=>hb m om h4
theorem Tab.look_some{items:List (Int × TR)}{t:List Int}{k:Nat}{at_:Int}{frm:Nat}{x:Int}{ids:Int->Prop}{home:Int->Nat}(h:Tab (2 ^ k) t ids home)(hx:ids x)(hf:frm<2 ^ k)(hh:home x=frm)
  (ha:(qj items x).at_=at_) (hd:∀ y,ids y->(qj items y).at_=at_->y=x) {e:Nat} (he:e<2 ^ k) (he0:qk t e=0) :
  ∃ i,i<2 ^ k/\qk t i=x/\(∀ m,m<D (2 ^ k) frm i->qk t ((frm+m) % 2 ^ k)≠0)/\vG items t k at_ frm (2 ^ k) 0=(x,D (2 ^ k) frm i+1):=by
 obtain⟨i,hi,hii⟩:=h.has x hx
 have hx0:x≠0:=by rintro rfl;exact h.z hx
 have hb:∀ m,m<D (2 ^ k) frm i->qk t ((frm+m) % 2 ^ k)≠0:=fun m hm h0=>by
  have hmN:m<2 ^ k:=by have:=q43 hf hi;omega
  have h1:=h.reach i _ hi (q3Q hf m) (by rw[hii];exact hx0) h0
  rw[hii,hh]at h1
  have h2:=qoS hf hmN
  generalize (frm+m) % 2 ^ k=c at *
  generalize 2 ^ k=N at *
  unfold D at *
  split at h1<;>split at h1<;>split at h2<;>split at hm<;>omega
 refine⟨i,hi,hii,hb,q0f (by rw[q66 hf hi];exact hii) hx0 ha _ 0 om (by have:=q43 hf hi;omega) fun m _ hm=>⟨hb m hm,fun hat=>?_⟩⟩
 have hmN:m<2 ^ k:=by have:=q43 hf hi;omega
 have h3:=hd _ (h.mem _ (q3Q hf m) (hb m hm)) hat
 have h4:=h.inj _ i (q3Q hf m) hi (hb m hm) (by rw[h3,hii])
 have h5:=qoS hf hmN
 rw[h4]at h5
 omega
theorem Tab.look_none{items:List (Int × TR)}{t:List Int}{k:Nat}{at_:Int}{frm:Nat}{ids:Int->Prop}{home:Int->Nat}(h:Tab (2 ^ k) t ids home)(hf:frm<2 ^ k)
  (hd:∀ y,ids y->(qj items y).at_≠at_) {r:Nat} (hr:r<2 ^ k) (hr0:qk t ((frm+r) % 2 ^ k)=0) (hb:∀ m,m<r->qk t ((frm+m) % 2 ^ k)≠0):vG items t k at_ frm (2 ^ k) 0=(0,r+1):=
 JS hr0 _ 0 om om fun m _ hm=>⟨hb m hm,hd _ (h.mem _ (q3Q hf m) (hb m hm))⟩
theorem qvN{p:Nat->Prop}:∀ n,p n->∃ m,p m/\m<=n/\∀ j,j<m->¬ p j:=by
 intro n
 induction n using Nat.strongRecOn with
 | ind n ih=>
  intro hn
  by_cases h:∃ j,j<n/\p j
  ·obtain⟨j,hj,hp⟩:=h
   obtain⟨m,h1,h2,h3⟩:=ih j hj hp
   exact⟨m,h1,by omega,h3⟩
  ·exact⟨n,hn,Nat.le_refl _,fun j hj hp=>h ⟨j,hj,hp⟩⟩
theorem q1P{α:Type} [DecidableEq α]:∀ {l m:List α},l.Nodup->(∀ x∈l,x∈m)->l.length<=m.length
 | [],_,_,_=>Nat.zero_le _
 | x::l,m,hn,hs=>by
  have h1:=List.nodup_cons.1 hn
  have hx:x∈m:=hs x (.head _)
  have h2:=q1P (l:=l) (m:=m.erase x) h1.2 fun y hy=>(List.mem_erase_of_ne (by rintro rfl;exact h1.1 hy)).2 (hs y (.tail _ hy))
  rw[List.length_erase_of_mem hx]at h2
  have:0<m.length:=List.length_pos_of_mem hx
  rw[List.length_cons];omega
theorem Tab.room{N:Nat}{t:List Int}{ids:Int->Prop}{home:Int->Nat}{L:List Int}(h:Tab N t ids home)(hL:∀ x,ids x->x∈L)(hl:L.length<N):∃ e,e<N/\qk t e=0:=by
 refine Classical.byContradiction fun hno=>?_
 have hne:∀ e,e<N->qk t e≠0:=fun e he h0=>hno ⟨e,he,h0⟩
 have:=q1P (l:=(List.range N).map (qk t)) (m:=L) (List.pairwise_map.2 (List.nodup_range.imp_of_mem fun ha hb hab heq=>hab (h.inj _ _ (List.mem_range.1 ha) (List.mem_range.1 hb) (hne _ (List.mem_range.1 ha)) heq)))
  (fun x hx=>by obtain⟨i,hi,rfl⟩:=List.mem_map.1 hx;exact hL _ (h.mem i (List.mem_range.1 hi) (hne i (List.mem_range.1 hi))))
 rw[List.length_map,List.length_range]at this
 omega
end Go.Fx.Ch
namespace Go.Fx.Ch
open Go.Fx.Tryz
set_option linter.all false
section
variable {K V:Type} [DecidableEq K]
def keys(m:List (K × V)):List K:=m.map (·.1)
theorem q2J{m:List (K × V)}{k:K}:k∈keys m↔∃ v,lk m k=some v:=by
 unfold keys
 constructor
 ·intro h
  cases hl:lk m k with
  | some v=>exact⟨v,rfl⟩
  | none=>
   obtain⟨p,hp,rfl⟩:=List.mem_map.1 h
   exact absurd rfl (q1j.1 hl p hp)
 ·rintro⟨v,hv⟩
  obtain⟨a,b,rfl,_⟩:=q9o hv
  simp
theorem qGZ(m:List (K × V))(f:K->V->V)(k:K):lk (m.map fun p=>(p.1,f p.1 p.2)) k=(lk m k).map (f k):=by
 induction m with
 | nil=>rfl
 | cons p m ih=>
  unfold lk at *
  simp only[List.map_cons,List.find?_cons]
  by_cases h:p.1=k
  ·subst h;simp
  ·have:(p.1==k)=false:=by simpa using h
   rw[this];exact ih
theorem qrC(a b:List (K × V))(k:K):lk (a++b) k=(lk a k).or (lk b k):=by
 unfold lk
 rw[List.find?_append]
 cases h:a.find? fun p=>p.1==k<;>simp
theorem qlX{m:List (K × V)}{k:K}{v u:V}(h:lk m k=some u):pt m k v=m.map fun p=>if p.1=k then(p.1,v)else p:=by unfold pt;rw[h]
theorem qn9(m:List (K × V))(k:K)(v:V)(x:K):lk (pt m k v) x=if x=k then some v else lk m x:=by
 cases h:lk m k with
 | none=>
  rw[q1e h,qrC]
  by_cases hx:x=k
  ·subst hx;rw[h];simp[lk]
  ·rw[if_neg hx]
   have:lk [(k,v)] x=none:=by unfold lk;simp[List.find?_cons,Ne.symm hx]
   rw[this];cases lk m x<;>rfl
 | some u=>
  rw[qlX h]
  have h1:(m.map fun p=>if p.1=k then(p.1,v)else p)=m.map fun p=>(p.1,(fun a b=>if a=k then v else b) p.1 p.2):=List.map_congr_left fun p _=>by
   by_cases hp:p.1=k<;>simp[hp]
  rw[h1,qGZ m (fun a b=>if a=k then v else b) x]
  by_cases hx:x=k
  ·subst hx;rw[h];simp
  ·simp only[if_neg hx];cases lk m x<;>rfl
theorem qsg(m:List (K × V))(k x:K):lk (dl m k) x=if x=k then none else lk m x:=by
 induction m with
 | nil=>unfold dl lk;simp
 | cons p m ih=>
  unfold dl at *
  rw[List.filter_cons]
  by_cases hp:p.1=k
  ·rw[if_neg (by simp[hp]),ih]
   by_cases hx:x=k
   ·rw[if_pos hx,if_pos hx]
   ·rw[if_neg hx,if_neg hx]
    unfold lk
    rw[List.find?_cons]
    have:(p.1==x)=false:=by simpa [hp]using Ne.symm hx
    rw[this]
  ·rw[if_pos (by simp[hp])]
   unfold lk at *
   rw[List.find?_cons,List.find?_cons]
   by_cases hx:p.1=x
   ·have:(p.1==x)=true:=by simpa using hx
    rw[this]
    rw[if_neg (by rw[<-hx];exact hp)]
   ·have:(p.1==x)=false:=by simpa using hx
    rw[this]
    exact ih
theorem qlp{m:List (K × V)}{k:K}(v:V)(h:k∈keys m):keys (pt m k v)=keys m:=by
 obtain⟨u,hu⟩:=q2J.1 h
 rw[qlX hu]
 unfold keys
 rw[List.map_map]
 exact List.map_congr_left fun p _=>by simp only[Function.comp_apply];split<;>rfl
theorem q0a{m:List (K × V)}{k:K}(v:V)(h:k ∉ keys m):keys (pt m k v)=keys m++[k]:=by
 have:lk m k=none:=by
  cases hl:lk m k with
  | none=>rfl
  | some u=>exact absurd (q2J.2 ⟨u,hl⟩) h
 rw[q1e this]
 unfold keys
 rw[List.map_append];rfl
theorem q0G(m:List (K × V))(k:K):keys (dl m k)=(keys m).filter fun x=>x≠k:=by
 unfold keys dl
 rw[List.filter_map];rfl
theorem qH(m:List (K × V)):(keys m).length=m.length:=List.length_map _
end
theorem Jy(m:List (Int × TR))(k:Int)(t:TR)(x:Int):qj (pt m k t) x=if x=k then t else qj m x:=by
 unfold qj;rw[qn9];split<;>rfl
theorem QM(m:List (Int × TR)){k x:Int}(h:x≠k):qj (dl m k) x=qj m x:=by
 unfold qj;rw[qsg,if_neg h]
theorem QP(m:List (Int × TR))(p:Int × Int)(c x:Int):qj (zf m p c) x=if x=p.1 then { qj m x with code:=ju (qj m x).code p.2 c }else qj m x:=by
 unfold zf;rw[Jy];split
 ·rename_i h;rw[h]
 ·rfl
theorem jQ{m:List (Int × TR)}{p:Int × Int}(c:Int)(h:p.1∈keys m):keys (zf m p c)=keys m:=qlp _ h
theorem qgw(bs:List Int)(slot c:Int):(ju bs slot c).length<=bs.length:=by
 unfold ju
 split
 ·exact Nat.zero_le _
 ·rename_i l hl
  split
  ·rename_i ha
   obtain⟨e,he,hs⟩:=List.any_eq_true.1 ha
   obtain⟨al,i,p,n,h1,_,h3,h4,h5,rfl⟩:=q3U hl he
   have hn:=jt h4 h3
   have:slot=((p.2+n:Nat):Int)-4:=by simp at hs;omega
   unfold zK le4
   simp only[List.length_append,List.length_take,List.length_cons,List.length_nil,List.length_drop]
   omega
  ·exact Nat.zero_le _
def Zf(k:Nat)(items:List (Int × TR))(id:Int):Nat:=(ze k (qj items id).at_).toNat
theorem vp{k:Nat}(h4:4<=k)(h16:k<=16)(a:Int):0<=ze k a/\ze k a<2 ^ k:=by
 unfold ze
 have h0:0<=(a / 4*2654435761) % 4294967296:=Int.emod_nonneg _ (by decide)
 have h1:(a / 4*2654435761) % 4294967296<4294967296:=Int.emod_lt_of_pos _ (by decide)
 have hp:(0:Int)<2 ^ (32-k):=Int.pow_pos (by decide)
 refine⟨Int.ediv_nonneg h0 om,Int.ediv_lt_of_lt_mul hp ?_⟩
 have:(2:Int) ^ k*2 ^ (32-k)=4294967296:=by rw[<-Int.pow_add,show k+(32-k)=32 by omega];decide
 omega
theorem q2U{k:Nat}(h4:4<=k)(h16:k<=16)(items:List (Int × TR))(id:Int):Zf k items id<2 ^ k:=by
 have:=vp h4 h16 (qj items id).at_
 have h2:((2:Int) ^ k)=((2 ^ k:Nat):Int):=by rw[Int.natCast_pow];rfl
 unfold Zf;omega
theorem qvv{k:Nat}(h4:4<=k)(h16:k<=16)(items:List (Int × TR))(id:Int):ze k (qj items id).at_=(Zf k items id:Int):=by
 have:=vp h4 h16 (qj items id).at_
 unfold Zf;omega
theorem qbE{k:Nat}(h4:4<=k):2 ^ k / 4*3<2 ^ k/\0<2 ^ k / 4*3:=by
 have:(2:Nat) ^ k=4*2 ^ (k-2):=by rw[show(4:Nat)=2 ^ 2 by rfl,<-Nat.pow_add,show 2+(k-2)=k by omega]
 have h2:0<(2:Nat) ^ (k-2):=Nat.pow_pos (by decide)
 rw[this];omega
structure qR (s:qd):Prop where
 k4:4<=s.k
 k16:s.k<=16
 nd:(keys s.items).Nodup
 pos:∀ x∈keys s.items,0<x/\x<=s.given
 ats:∀ x∈keys s.items,∀ y∈keys s.items,(qj s.items x).at_=(qj s.items y).at_->x=y
 atw:∀ x∈keys s.items,j9 (qj s.items x).at_
 tab:Tab (2 ^ s.k) s.table (fun x=>x∈keys s.items) (Zf s.k s.items)
 lim:s.items.length<=vj s
 rows:s.rows.flatten.Perm (keys s.items)
 cur:s.cur<s.rows.length
 rl:s.rows.length<1000000
 ev:0<=s.ev
 dr:0<=s.dr
 sum:s.items.length+s.ev+s.dr<=s.given
 given:s.given<=2147483647
 len:s.len<=1048576
 fill:∀ r∈s.rows,qT s.items r<=s.len
theorem qR.room{s:qd}(h:qR s):∃ e,e<2 ^ s.k/\qk s.table e=0:=by
 refine h.tab.room (L:=keys s.items) (fun x hx=>hx) ?_
 have:=h.lim
 have:=(qbE h.k4).1
 rw[qH];unfold vj at *;omega
theorem q2R{a b:List (Int × TR)}{l:List Int}(h:∀ x∈l,(qj a x).code.length<=(qj b x).code.length):qT a l<=qT b l:=by
 unfold qT
 induction l with
 | nil=>simp
 | cons x l ih=>
  have:=ih fun y hy=>h y (.tail _ hy)
  have:=h x (.head _)
  simp only[List.map_cons,List.sum_cons];omega
theorem q2C{a:List (Int × TR)}{l:List Int}(p:Int->Bool):qT a (l.filter p)<=qT a l:=by
 unfold qT
 induction l with
 | nil=>simp
 | cons x l ih=>
  rw[List.filter_cons]
  split
  ·simp only[List.map_cons,List.sum_cons];omega
  ·simp only[List.map_cons,List.sum_cons];omega
structure Jf (a b:List (Int × TR)):Prop where
 keys:keys a=keys b
 at_:∀ x,(qj a x).at_=(qj b x).at_
 sp:∀ x,(qj a x).sp=(qj b x).sp
 code:∀ x,(qj a x).code.length<=(qj b x).code.length
theorem Jf.refl(a:List (Int × TR)):Jf a a:=⟨rfl,fun _=>rfl,fun _=>rfl,fun _=>Nat.le_refl _⟩
theorem Jf.trans{a b c:List (Int × TR)}(h:Jf a b)(g:Jf b c):Jf a c:=
 ⟨h.keys.trans g.keys,fun x=>(h.at_ x).trans (g.at_ x),fun x=>(h.sp x).trans (g.sp x),fun x=>Nat.le_trans (h.code x) (g.code x)⟩
theorem Jf.patch{m:List (Int × TR)}{p:Int × Int}(c:Int)(h:p.1∈Ch.keys m):Jf (zf m p c) m:=by
 refine⟨jQ c h,fun x=>?_,fun x=>?_,fun x=>?_⟩<;>rw[QP]<;>split
 ·rfl
 ·rfl
 ·rfl
 ·rfl
 ·exact qgw _ _ _
 ·exact Nat.le_refl _
theorem YC(id:Int):∀ (l:List (Int × Int)) (s:qd),(∀ p∈l,p.1∈keys s.items)->Jf (qO id l s).items s.items/\(qO id l s).table=s.table/\(qO id l s).rows=s.rows
 | [],s,_=>⟨.refl _,rfl,rfl⟩
 | p::l,s,h=>by
  have h1:=Jf.patch 0 (h p (.head _))
  have h2:=YC id l { s with items:=zf s.items p 0,hold:=zd s.hold p id } fun q hq=>by
   show q.1∈keys (zf s.items p 0)
   rw[h1.keys];exact h q (.tail _ hq)
  exact⟨h2.1.trans h1,h2.2.1,h2.2.2⟩
theorem jU(id:Int):∀ (l:List EX) (s:qd),(qM id l s).items=s.items/\(qM id l s).table=s.table/\(qM id l s).rows=s.rows
 | [],s=>⟨rfl,rfl,rfl⟩
 | x::l,s=>by
  unfold qM
  have h:=jU id l (if x.chain=0 then s else { s with hold:=zd s.hold (id,x.slot) x.chain })
  split
  ·rename_i hc;rw[if_pos hc]at h;exact h
  ·rename_i hc;rw[if_neg hc]at h;exact h
structure qKQ (s s':qd) (id:Int):Prop where
 keys:keys s'.items=(keys s.items).filter fun x=>x≠id
 at_:∀ x,x≠id->(qj s'.items x).at_=(qj s.items x).at_
 sp:∀ x,x≠id->(qj s'.items x).sp=(qj s.items x).sp
 code:∀ x,x≠id->(qj s'.items x).code.length<=(qj s.items x).code.length
 rows:s'.rows=s.rows.map fun r=>r.filter fun n=>n≠id
theorem Ji{s:qd}{id:Int}{order:List (Int × Int)}(ho:∀ p∈order,p.1∈keys s.items):qKQ s (forget1 order s id) id:=by
 obtain⟨a1,a2,a3⟩:=YC id order s ho
 obtain⟨b1,b2,b3⟩:=jU id (qC (qO id order s).items id) (qO id order s)
 unfold forget1
 dsimp only
 refine⟨?_,fun x hx=>?_,fun x hx=>?_,fun x hx=>?_,?_⟩
 ·show Ch.keys (dl (qM id _ _).items id)=_
  rw[q0G,b1,a1.keys]
 ·show(qj (dl (qM id _ _).items id) x).at_=_
  rw[QM _ hx,b1];exact a1.at_ x
 ·show(qj (dl (qM id _ _).items id) x).sp=_
  rw[QM _ hx,b1];exact a1.sp x
 ·show(qj (dl (qM id _ _).items id) x).code.length<=_
  rw[QM _ hx,b1];exact a1.code x
 ·show(qM id _ _).rows.map _=_
  rw[b3,a3]
theorem q5n(order:List (Int × Int))(s:qd)(id:Int):(forget1 order s id).len=s.len/\(forget1 order s id).k=s.k/\(forget1 order s id).cur=s.cur/\(forget1 order s id).given=s.given/\(forget1 order s id).ev=s.ev/\(forget1 order s id).dr=s.dr/\(forget1 order s id).rows.length=s.rows.length:=by
 have hf:∀ (l:List (Int × Int)) (s:qd),(qO id l s).len=s.len/\(qO id l s).k=s.k/\(qO id l s).cur=s.cur/\(qO id l s).given=s.given/\(qO id l s).ev=s.ev/\(qO id l s).dr=s.dr/\(qO id l s).rows.length=s.rows.length:=by
  intro l
  induction l with
  | nil=>exact fun s=>⟨rfl,rfl,rfl,rfl,rfl,rfl,rfl⟩
  | cons p l ih=>exact fun s=>ih _
 have hd:∀ (l:List EX) (s:qd),(qM id l s).len=s.len/\(qM id l s).k=s.k/\(qM id l s).cur=s.cur/\(qM id l s).given=s.given/\(qM id l s).ev=s.ev/\(qM id l s).dr=s.dr/\(qM id l s).rows.length=s.rows.length:=by
  intro l
  induction l with
  | nil=>exact fun s=>⟨rfl,rfl,rfl,rfl,rfl,rfl,rfl⟩
  | cons p l ih=>
   intro s
   unfold qM
   split
   ·exact ih _
   ·exact ih _
 obtain⟨a1,a2,a3,a4,a5,a6,a7⟩:=hf order s
 obtain⟨b1,b2,b3,b4,b5,b6,b7⟩:=hd (qC (qO id order s).items id) (qO id order s)
 refine⟨b1.trans a1,b2.trans a2,b3.trans a3,b4.trans a4,b5.trans a5,b6.trans a6,?_⟩
 show(List.map _ (qM id _ _).rows).length=_
 rw[List.length_map,b7,a7]
theorem ZB{l:List (List Int)}(p:Int->Bool):(l.map fun r=>r.filter p).flatten=l.flatten.filter p:=by
 induction l with
 | nil=>rfl
 | cons r l ih=>simp only[List.map_cons,List.flatten_cons,List.filter_append,ih]
theorem qR.forget1{s:qd}{id:Int}{order:List (Int × Int)}(h:qR s)(hid:id∈keys s.items)(ho:∀ p∈order,p.1∈keys s.items):qR (forget1 order s id)/\(Ch.forget1 order s id).items.length+1=s.items.length:=by
 have L:=Ji (id:=id) ho
 obtain⟨c1,c2,c3,c4,c5,c6,c7⟩:=q5n order s id
 have hlen:(Ch.forget1 order s id).items.length+1=s.items.length:=by
  rw[<-qH,<-qH s.items,L.keys]
  have:=h.nd
  have h1:(keys s.items).filter (fun x=>x≠id)=(keys s.items).erase id:=by rw[List.Nodup.erase_eq_filter this];exact List.filter_congr fun x _=>by by_cases hx:x=id<;>simp[hx]
  rw[h1,List.length_erase_of_mem hid]
  have:=List.length_pos_of_mem hid
  omega
 have hk:∀ x,x∈keys (Ch.forget1 order s id).items↔x∈keys s.items/\x≠id:=fun x=>by rw[L.keys];simp
 have htab:(Ch.forget1 order s id).table=zH s id/\True:=⟨by
  obtain⟨a1,a2,a3⟩:=YC id order s ho
  obtain⟨b1,b2,b3⟩:=jU id (qC (qO id order s).items id) (qO id order s)
  have hkk:(qM id (qC (qO id order s).items id) (qO id order s)).k=s.k:=c2
  show zH (qM id _ _) id=_
  unfold zH
  rw[b1,b2,a2,hkk,a1.at_]
  have hg:∀ (f n:Nat) (o:Option Nat) (t:List Int),yq (qO id order s).items s.k id (ze s.k (qj s.items id).at_).toNat f n o t=yq s.items s.k id (ze s.k (qj s.items id).at_).toNat f n o t:=by
   intro f
   induction f with
   | zero=>intro n o t;cases o<;>rfl
   | succ f ih=>
    intro n o t
    cases o with
    | none=>unfold yq;rw[ih,ih]
    | some hh=>unfold yq;rw[a1.at_,ih,ih]
  exact hg _ _ _ _,trivial⟩
 refine⟨⟨by rw[c2];exact h.k4,by rw[c2];exact h.k16,?_,?_,?_,?_,?_,?_,?_,by rw[c3,c7];exact h.cur,by rw[c7];exact h.rl,by rw[c5];exact h.ev,by rw[c6];exact h.dr,?_,by rw[c4];exact h.given,by rw[c1];exact h.len,?_⟩,hlen⟩
 ·rw[L.keys];exact h.nd.filter _
 ·intro x hx;rw[c4];exact h.pos x ((hk x).1 hx).1
 ·intro x hx y hy he
  have hx':=(hk x).1 hx
  have hy':=(hk y).1 hy
  rw[L.at_ x hx'.2,L.at_ y hy'.2]at he
  exact h.ats x hx'.1 y hy'.1 he
 ·intro x hx
  have hx':=(hk x).1 hx
  rw[L.at_ x hx'.2];exact h.atw x hx'.1
 ·rw[htab.1,c2]
  obtain⟨e,he,he0⟩:=h.room
  have:=h.tab.remove (items:=s.items) (fun x _=>⟨qvv h.k4 h.k16 _ _,q2U h.k4 h.k16 _ _⟩) hid he he0
  refine Tab.congr this (fun x=>(hk x).symm) fun x hx=>?_
  unfold Zf;rw[L.at_ x hx.2]
 ·have:=h.lim;unfold vj at *;rw[c2];omega
 ·rw[L.rows,L.keys,ZB]
  exact h.rows.filter _
 ·have:=h.sum;rw[c4,c5,c6];omega
 ·intro r hr
  rw[L.rows]at hr
  obtain⟨r0,hr0,rfl⟩:=List.mem_map.1 hr
  rw[c1]
  refine Int.le_trans ?_ (h.fill r0 hr0)
  refine Int.le_trans (q2R fun x hx=>L.code x ?_) (q2C _)
  have:=(List.mem_filter.1 hx).2
  simpa using this
structure vq (s s':qd) (l:List Int):Prop where
 keys:keys s'.items=(keys s.items).filter fun x=>x ∉ l
 at_:∀ x,x ∉ l->(qj s'.items x).at_=(qj s.items x).at_
 sp:∀ x,x ∉ l->(qj s'.items x).sp=(qj s.items x).sp
 rows:s'.rows=s.rows.map fun r=>r.filter fun n=>n ∉ l
theorem vq.nil(s:qd):vq s s []:=⟨(List.filter_eq_self.2 fun x _=>by simp).symm,fun _ _=>rfl,fun _ _=>rfl,by
 rw[List.map_congr_left (g:=id) fun r _=>by simp];simp⟩
theorem vq.mem{s s':qd}{l:List Int}(h:vq s s' l){x:Int}:x∈Ch.keys s'.items↔x∈Ch.keys s.items/\x ∉ l:=by rw[h.keys];simp
theorem vq.cons{s s1 s':qd}{id:Int}{l:List Int}(h:qKQ s s1 id)(g:vq s1 s' l):vq s s' (id::l):=by
 refine⟨?_,fun x hx=>?_,fun x hx=>?_,?_⟩
 ·rw[g.keys,h.keys,List.filter_filter]
  exact List.filter_congr fun x _=>by by_cases h1:x=id<;>by_cases h2:x∈l<;>simp[h1,h2]
 ·rw[List.mem_cons,not_or]at hx
  exact(g.at_ x hx.2).trans (h.at_ x hx.1)
 ·rw[List.mem_cons,not_or]at hx
  exact(g.sp x hx.2).trans (h.sp x hx.1)
 ·rw[g.rows,h.rows,List.map_map]
  refine List.map_congr_left fun r _=>?_
  simp only[Function.comp_apply]
  rw[List.filter_filter]
  exact List.filter_congr fun x _=>by by_cases h1:x=id<;>by_cases h2:x∈l<;>simp[h1,h2]
theorem vq.append{s s1 s':qd}{a b:List Int}(h:vq s s1 a)(g:vq s1 s' b):vq s s' (a++b):=by
 refine⟨?_,fun x hx=>?_,fun x hx=>?_,?_⟩
 ·rw[g.keys,h.keys,List.filter_filter]
  exact List.filter_congr fun x _=>by by_cases h1:x∈a<;>by_cases h2:x∈b<;>simp[h1,h2]
 ·rw[List.mem_append,not_or]at hx
  exact(g.at_ x hx.2).trans (h.at_ x hx.1)
 ·rw[List.mem_append,not_or]at hx
  exact(g.sp x hx.2).trans (h.sp x hx.1)
 ·rw[g.rows,h.rows,List.map_map]
  refine List.map_congr_left fun r _=>?_
  simp only[Function.comp_apply]
  rw[List.filter_filter]
  exact List.filter_congr fun x _=>by by_cases h1:x∈a<;>by_cases h2:x∈b<;>simp[h1,h2]
theorem vq.len{s s':qd}{l:List Int}(h:vq s s' l)(hn:(Ch.keys s.items).Nodup)(hl:l.Nodup)(hs:∀ x∈l,x∈Ch.keys s.items):s'.items.length+l.length=s.items.length:=by
 rw[<-qH s'.items,<-qH s.items,h.keys]
 have h1:=(List.filter_append_perm (fun x=>decide (x ∉ l)) (Ch.keys s.items)).length_eq
 rw[List.length_append]at h1
 have h2:(((Ch.keys s.items).filter fun x=>!decide (x ∉ l)).Perm l):=by
  refine(List.perm_ext_iff_of_nodup (hn.filter _) hl).2 fun x=>?_
  rw[List.mem_filter]
  constructor
  ·rintro⟨_,h⟩;simpa using h
  ·intro h;exact⟨hs x h,by simpa using h⟩
 rw[<-h1,h2.length_eq]
structure q04 (Q:qd->Prop):Prop where
 places:∀ s id,qR s->Q s->∀ p∈(lk s.hold id).getD [],p.1∈keys s.items
 forget:∀ s id order,qR s->Q s->id∈keys s.items->order.Perm ((lk s.hold id).getD [])->Q (forget1 order s id)
 cur:∀ s c,Q s->Q { s with cur:=c }
 ev:∀ s e,Q s->Q { s with ev:=e }
variable {Q:qd->Prop}
theorem zp.keep(hQ:q04 Q){s s':qd}{l:List Int}(h:zp s l s'):qR s->Q s->l.Nodup->(∀ x∈l,x∈keys s.items)->qR s'/\Q s'/\vq s s' l:=by
 induction h with
 | nil s=>exact fun hb hq _ _=>⟨hb,hq,.nil s⟩
 | @cons s s' id l order ho _ ih=>
  intro hb hq hn hs
  have hn:=List.nodup_cons.1 hn
  have hid:=hs id (.head _)
  have hp:∀ p∈order,p.1∈keys s.items:=fun p hp=>hQ.places s id hb hq p (ho.mem_iff.1 hp)
  have hL:=Ji (id:=id) hp
  obtain⟨a,b,c⟩:=ih (hb.forget1 hid hp).1 (hQ.forget s id order hb hq hid ho) hn.2 fun x hx=>by
   rw[hL.keys]
   exact List.mem_filter.2 ⟨hs x (.tail _ hx),by simp;rintro rfl;exact hn.1 hx⟩
  exact⟨a,b,.cons hL c⟩
theorem qR.row{s:qd}(h:qR s){r:List Int}(hr:r∈s.rows):r.Nodup/\∀ x∈r,x∈keys s.items:=by
 have hn:s.rows.flatten.Nodup:=h.rows.nodup_iff.2 h.nd
 refine⟨?_,fun x hx=>h.rows.mem_iff.1 (List.mem_flatten.2 ⟨r,hr,hx⟩)⟩
 exact(List.pairwise_flatten.1 hn).1 r hr
theorem zV(l:List Int):(zL l).Perm l:=List.mergeSort_perm l _
theorem qzJ{s:qd}(h:qR s):(zO s).Nodup/\(∀ x∈zO s,x∈keys s.items)/\s.rows[s.cur]?=some (s.rows[s.cur]'h.cur)/\(zO s).Perm (s.rows[s.cur]'h.cur):=by
 have e:s.rows[s.cur]?=some (s.rows[s.cur]'h.cur):=List.getElem?_eq_getElem h.cur
 have hp:(zO s).Perm (s.rows[s.cur]'h.cur):=by unfold zO;rw[e];exact zV _
 obtain⟨h1,h2⟩:=h.row (List.getElem_mem h.cur)
 exact⟨hp.nodup_iff.2 h1,fun x hx=>h2 x (hp.mem_iff.1 hx),e,hp⟩
theorem qR.setCur{s:qd}(h:qR s){c:Nat}(hc:c<s.rows.length):qR { s with cur:=c }:=
 ⟨h.k4,h.k16,h.nd,h.pos,h.ats,h.atw,h.tab,h.lim,h.rows,hc,h.rl,h.ev,h.dr,h.sum,h.given,h.len,h.fill⟩
theorem qR.next{s:qd}(h:qR s):qR (qy s):=h.setCur (Nat.mod_lt _ (by have:=h.cur;omega))
theorem qR.setEv{s:qd}(h:qR s){e:Int}(h0:0<=e)(hs:s.items.length+e+s.dr<=s.given):qR { s with ev:=e }:=
 ⟨h.k4,h.k16,h.nd,h.pos,h.ats,h.atw,h.tab,h.lim,h.rows,h.cur,h.rl,h0,h.dr,hs,h.given,h.len,h.fill⟩
theorem qR.setDr{s:qd}(h:qR s){e:Int}(h0:0<=e)(hs:s.items.length+s.ev+e<=s.given):qR { s with dr:=e }:=
 ⟨h.k4,h.k16,h.nd,h.pos,h.ats,h.atw,h.tab,h.lim,h.rows,h.cur,h.rl,h.ev,h0,hs,h.given,h.len,h.fill⟩
theorem qR.few{s:qd}(h:qR s):s.items.length<60000:=by
 have h1:=h.lim
 have h2:(2:Nat) ^ s.k<=2 ^ 16:=Nat.pow_le_pow_right (by decide) h.k16
 unfold vj at h1
 omega
theorem qR.rowLen{s:qd}(h:qR s){r:List Int}(hr:r∈s.rows):r.length<=s.items.length:=by
 obtain⟨h1,h2⟩:=h.row hr
 have:=q1P h1 h2
 rw[qH]at this;exact this
theorem qR.fit{s:qd}(h:qR s):Fit s:=by
 have hf:=h.few
 refine⟨fun r hr=>by have:=h.rowLen hr;omega,h.ev,?_,by omega,fun x hx=>?_⟩
 ·have:=h.sum;have:=h.given;have:=h.dr;omega
 ·obtain⟨i,hi,rfl⟩:=List.mem_iff_getElem.1 hx
  have hs:qk s.table i=s.table[i]:=by unfold qk;rw[List.getElem?_eq_getElem hi];rfl
  by_cases h0:s.table[i]=0
  ·rw[h0];exact Jb
  ·have:=h.pos _ (by have:=h.tab.mem i (by rw[<-h.tab.len];exact hi) (by rw[hs];exact h0);rw[hs]at this;exact this)
   have:=h.given
   exact⟨by omega,by omega⟩
theorem qvd{s:qd}(h:qR s)(hr:∀ r∈s.rows,r=[]):s.items=[]:=by
 have h1:s.rows.flatten=[]:=List.flatten_eq_nil_iff.2 hr
 have h2:=h.rows.length_eq
 rw[h1,qH]at h2
 exact List.length_eq_zero_iff.1 h2.symm
theorem zp.round(hQ:q04 Q){s s2:qd}(hb:qR s)(hq:Q s)(h:zp (qy s) (zO (qy s)) s2) :
  qR { s2 with ev:=s2.ev+(zO (qy s)).length }/\Q { s2 with ev:=s2.ev+(zO (qy s)).length }/\vq s s2 (zO (qy s))/\s2.items.length+(zO (qy s)).length=s.items.length/\
  s2.rows[(s.cur+1) % s.rows.length]?=some []:=by
 have hn:=hb.next
 obtain⟨r1,r2,r3,r4⟩:=qzJ hn
 obtain⟨a,b,c⟩:=h.keep hQ hn (hQ.cur s _ hq) r1 r2
 have hl:=c.len hn.nd r1 r2
 have hc:=h.conf
 have hl':s2.items.length+(zO (qy s)).length=s.items.length:=hl
 refine⟨a.setEv ?_ ?_,hQ.ev _ _ b,⟨c.keys,c.at_,c.sp,c.rows⟩,hl',?_⟩
 ·have:=a.ev;omega
 ·have h1:=hb.sum
  have e1:s2.ev=s.ev:=hc.2.2.2.2.1
  have e2:s2.dr=s.dr:=hc.2.2.2.2.2.1
  have e3:s2.given=s.given:=hc.2.2.2.1
  rw[e1,e2,e3];omega
 ·have e:s2.rows=s.rows.map fun r=>r.filter fun n=>n ∉ zO (qy s):=c.rows
  have r3':s.rows[(s.cur+1) % s.rows.length]?=some ((qy s).rows[(qy s).cur]'hn.cur):=r3
  rw[e,List.getElem?_map,r3',Option.map_some]
  congr 1
  refine List.filter_eq_nil_iff.2 fun x hx=>?_
  have:=r4.mem_iff.2 hx
  simp[this]
theorem EvR.of(hQ:q04 Q){n:Nat}:∀ (m g:Nat) (s:qd),qR s->Q s->(n:Int)<=s.len->m<=s.rows.length->(∀ i,m<=i->i<s.rows.length->s.rows[(s.cur+1+i) % s.rows.length]?=some [])->g+s.items.length<1000000->EvR n m g s
 | 0,g,s,hb,hq,hn,_,he,hg=>by
  refine⟨hb.fit,by omega,?_⟩
  have hcur:=hb.cur
  have hr:∀ r∈s.rows,r=[]:=fun r hr=>by
   obtain⟨j,hj,rfl⟩:=List.mem_iff_getElem.1 hr
   have hR:s.rows.length≠0:=by omega
   have hc:(s.cur+1) % s.rows.length<s.rows.length:=Nat.mod_lt _ om
   have h1:=he (D s.rows.length ((s.cur+1) % s.rows.length) j) (Nat.zero_le _) (q43 hc hj)
   have h2:(s.cur+1+D s.rows.length ((s.cur+1) % s.rows.length) j) % s.rows.length=j:=by
    rw[<-Nat.mod_add_mod];exact q66 hc hj
   rw[h2,List.getElem?_eq_getElem hj]at h1
   exact Option.some.inj h1
  have hi:=qvd hb hr
  have hf:zw s s.cur=0:=by
   unfold zw
   rw[List.getElem?_eq_getElem hcur,hr _ (List.getElem_mem hcur)];rfl
  unfold jr
  rw[hf,hi]
  have:=(qbE hb.k4).2
  simp only[List.length_nil,Bool.or_eq_false_iff,decide_eq_false_iff_not]
  unfold vj
  exact⟨by omega,by omega⟩
 | m+1,g,s,hb,hq,hn,hm,he,hg=>by
  refine⟨hb.fit,by omega,fun _ s2 hF=>?_⟩
  obtain⟨a,b,c,d,e⟩:=hF.round hQ hb hq
  have hc:=hF.conf
  have hR:s2.rows.length=s.rows.length:=hc.2.2.2.2.2.2
  have hcu:s2.cur=(s.cur+1) % s.rows.length:=hc.2.2.1
  refine EvR.of hQ m _ _ a b ?_ ?_ ?_ ?_
  ·show(n:Int)<=s2.len
   rw[hc.1];exact hn
  ·show m<=s2.rows.length
   omega
  ·intro i h1 h2
   show s2.rows[(s2.cur+1+i) % s2.rows.length]?=some []
   have h2':i<s.rows.length:=by rw[<-hR];exact h2
   rw[hR,hcu]
   have hmod:((s.cur+1) % s.rows.length+1+i) % s.rows.length=(s.cur+1+(i+1)) % s.rows.length:=by
    rw[Nat.add_assoc,Nat.mod_add_mod,Nat.add_comm 1 i]
   rw[hmod]
   by_cases hi:i+1<s.rows.length
   ·have h3:=he (i+1) om hi
    rw[c.rows,List.getElem?_map,h3];rfl
   ·have:i+1=s.rows.length:=by omega
    rw[this,Nat.add_mod_right]
    exact e
  ·show g+_+s2.items.length<_
   omega
theorem qR.evR(hQ:q04 Q){n:Nat}{s:qd}(hb:qR s)(hq:Q s)(hn:(n:Int)<=s.len):EvR n s.rows.length 0 s:=
 EvR.of hQ _ 0 s hb hq hn (Nat.le_refl _) (fun i h1 h2=>by omega) (by have:=hb.few;omega)
theorem yg.keep(hQ:q04 Q){n:Nat}{s s':qd}{gone:List Int}(h:yg n s gone s'):qR s->Q s->qR s'/\Q s'/\vq s s' gone/\jr s' n=false/\s'.items.length+gone.length=s.items.length/\s'.ev=s.ev+gone.length:=by
 induction h with
 | done hf=>exact fun hb hq=>⟨hb,hq,.nil _,hf,by simp,by simp⟩
 | @step s s2 s' gone hf hF _ ih=>
  intro hb hq
  obtain⟨a,b,c,d,e⟩:=hF.round hQ hb hq
  obtain⟨a',b',c',d',e',f'⟩:=ih a b
  have c2:vq { s2 with ev:=s2.ev+(zO (qy s)).length } s' gone:=c'
  have e2:s'.items.length+gone.length=s2.items.length:=e'
  have f2:s'.ev=s2.ev+(zO (qy s)).length+gone.length:=f'
  have hc:s2.ev=s.ev:=hF.conf.2.2.2.2.1
  refine⟨a',b',vq.append c ⟨c2.keys,c2.at_,c2.sp,c2.rows⟩,d',?_,?_⟩
  ·rw[List.length_append];omega
  ·rw[List.length_append,f2,hc];omega
theorem q3X{a b:List (Int × TR)}{l:List Int}(h:∀ x∈l,qj a x=qj b x):qT a l=qT b l:=by
 unfold qT
 rw[List.map_congr_left fun x hx=>by rw[h x hx]]
theorem q26{l:List (List Int)}{i:Nat}(hi:i<l.length)(x:Int):(l.modify i fun r=>r++[x]).flatten.Perm (l.flatten++[x]):=by
 induction l generalizing i with
 | nil=>simp at hi
 | cons r l ih=>
  cases i with
  | zero=>
   simp only[List.modify_zero_cons,List.flatten_cons,List.append_assoc]
   exact List.Perm.append_left r (List.perm_append_comm)
  | succ i=>
   simp only[List.modify_succ_cons,List.flatten_cons,List.append_assoc]
   exact List.Perm.append_left r (ih (by simpa using hi))
theorem q24(s:qd)(t:TR):(zR s t).items=pt s.items (s.given+1) t:=rfl
theorem qR.add{s:qd}{t:TR}(h:qR s)(hf:jr s t.code.length=false)(ha:j9 t.at_)(hd:∀ x∈keys s.items,(qj s.items x).at_≠t.at_)(hg:s.given<2147483647) :
  qR (zR s t)/\keys (zR s t).items=keys s.items++[s.given+1]/\(∀ x∈keys s.items,qj (zR s t).items x=qj s.items x)/\qj (zR s t).items (s.given+1)=t/\s.given+1 ∉ keys s.items:=by
 have hnew:s.given+1 ∉ keys s.items:=fun hh=>by have:=(h.pos _ hh).2;omega
 have hk:keys (zR s t).items=keys s.items++[s.given+1]:=q0a _ hnew
 have hne:∀ x∈keys s.items,x≠s.given+1:=fun x hx hh=>hnew (hh▸hx)
 have hold:∀ x∈keys s.items,qj (zR s t).items x=qj s.items x:=fun x hx=>by
  rw[q24,Jy,if_neg (hne x hx)]
 have hnw:qj (zR s t).items (s.given+1)=t:=by rw[q24,Jy,if_pos rfl]
 have hmem:∀ x,x∈keys (zR s t).items↔x∈keys s.items\/x=s.given+1:=fun x=>by rw[hk];simp
 have hg0:0<=s.given:=by have:=h.sum;have:=h.ev;have:=h.dr;omega
 unfold jr at hf
 simp only[Bool.or_eq_false_iff,decide_eq_false_iff_not]at hf
 refine⟨⟨h.k4,h.k16,?_,?_,?_,?_,?_,?_,?_,?_,?_,h.ev,h.dr,?_,?_,h.len,?_⟩,hk,hold,hnw,hnew⟩
 ·rw[hk]
  exact List.nodup_append.2 ⟨h.nd,by simp,fun a ha b hb=>by rw[List.mem_singleton.1 hb];exact hne a ha⟩
 ·intro x hx
  show 0<x/\x<=s.given+1
  rcases(hmem x).1 hx with hx | rfl
  ·have:=h.pos x hx;omega
  ·omega
 ·intro x hx y hy he
  rcases(hmem x).1 hx with hx | rfl<;>rcases(hmem y).1 hy with hy | rfl
  ·rw[hold x hx,hold y hy]at he;exact h.ats x hx y hy he
  ·rw[hold x hx,hnw]at he;exact absurd he (hd x hx)
  ·rw[hold y hy,hnw]at he;exact absurd he.symm (hd y hy)
  ·rfl
 ·intro x hx
  rcases(hmem x).1 hx with hx | rfl
  ·rw[hold x hx];exact h.atw x hx
  ·rw[hnw];exact ha
 ·obtain⟨e,he,he0⟩:=h.room
  have h0:Tab (2 ^ s.k) s.table (fun x=>x∈keys s.items) (Zf s.k (zR s t).items):=h.tab.congr (fun _=>Iff.rfl) fun x hx=>by unfold Zf;rw[hold x hx]
  have:=h0.insert (id:=s.given+1) hnew om (q2U h.k4 h.k16 _ _) he he0
  exact this.congr (fun x=>(hmem x).symm) fun x _=>rfl
 ·show(zR s t).items.length<=vj s
  rw[<-qH,hk,List.length_append,qH]
  simp only[List.length_cons,List.length_nil]
  omega
 ·rw[hk]
  exact(q26 h.cur _).trans (h.rows.append_right _)
 ·show s.cur<(s.rows.modify s.cur _).length
  rw[List.length_modify];exact h.cur
 ·show(s.rows.modify s.cur _).length<_
  rw[List.length_modify];exact h.rl
 ·show((zR s t).items.length:Int)+s.ev+s.dr<=s.given+1
  have:=h.sum
  rw[<-qH,hk,List.length_append,qH]
  simp only[List.length_cons,List.length_nil]
  omega
 ·show s.given+1<=_
  omega
 ·intro r hr
  obtain⟨i,hi,hri⟩:=List.mem_iff_getElem?.1 hr |>.imp fun i hi=>(⟨by
   have:=(List.getElem?_eq_some_iff.1 hi).1
   have e:(zR s t).rows.length=s.rows.length:=List.length_modify _ _ _
   omega,hi⟩:i<s.rows.length/\(zR s t).rows[i]?=some r)
  have e:(zR s t).rows[i]?=if s.cur=i then some (s.rows[i]++[s.given+1])else some s.rows[i]:=by
   show(s.rows.modify s.cur _)[i]?=_
   rw[List.getElem?_modify,List.getElem?_eq_getElem hi]
   split<;>rfl
  rw[e]at hri
  have hrow:∀ x∈s.rows[i],qj (zR s t).items x=qj s.items x:=fun x hx=>hold x ((h.row (List.getElem_mem hi)).2 x hx)
  have h1:qT (zR s t).items s.rows[i]=qT s.items s.rows[i]:=q3X hrow
  have h2:=h.fill _ (List.getElem_mem hi)
  show qT _ r<=s.len
  split at hri
  ·rename_i hci
   cases hri
   subst hci
   have h3:zw s s.cur=qT s.items s.rows[s.cur]:=by unfold zw qT;rw[List.getElem?_eq_getElem hi];rfl
   have h4:qT (zR s t).items (s.rows[s.cur]++[s.given+1])=qT (zR s t).items s.rows[s.cur]+t.code.length:=by
    unfold qT
    rw[List.map_append,List.sum_append]
    simp[hnw]
   rw[h4,h1,<-h3]
   omega
  ·cases hri
   rw[h1];exact h2
theorem qR.look_some{s:qd}(h:qR s){a x:Int}(hx:x∈keys s.items)(ha:(qj s.items x).at_=a) :
  ∃ i,i<2 ^ s.k/\qk s.table i=x/\(∀ m,m<D (2 ^ s.k) (ze s.k a).toNat i->qk s.table (((ze s.k a).toNat+m) % 2 ^ s.k)≠0)/\zE s a=(x,D (2 ^ s.k) (ze s.k a).toNat i+1):=by
 obtain⟨e,he,he0⟩:=h.room
 have hh:Zf s.k s.items x=(ze s.k a).toNat:=by unfold Zf;rw[ha]
 exact h.tab.look_some hx (by rw[<-hh];exact q2U h.k4 h.k16 _ _) hh ha (fun y hy hya=>h.ats y hy x hx (hya.trans ha.symm)) he he0
theorem qR.look_none{s:qd}(h:qR s){a:Int}(ha:∀ x∈keys s.items,(qj s.items x).at_≠a) :
  ∃ r,r<2 ^ s.k/\qk s.table (((ze s.k a).toNat+r) % 2 ^ s.k)=0/\(∀ m,m<r->qk s.table (((ze s.k a).toNat+m) % 2 ^ s.k)≠0)/\zE s a=(0,r+1):=by
 obtain⟨e,he,he0⟩:=h.room
 have hf:(ze s.k a).toNat<2 ^ s.k:=by
  have:=vp h.k4 h.k16 a
  have h2:((2:Int) ^ s.k)=((2 ^ s.k:Nat):Int):=by rw[Int.natCast_pow];rfl
  omega
 obtain⟨r,hr,hr1,hr2⟩:=qvN (p:=fun m=>qk s.table (((ze s.k a).toNat+m) % 2 ^ s.k)=0) (D (2 ^ s.k) (ze s.k a).toNat e) (by show qk _ _=0;rw[q66 hf he];exact he0)
 have hlt:=q43 hf he
 exact⟨r,by omega,hr,hr2,h.tab.look_none hf ha om hr hr2⟩
theorem qR.look_iff{s:qd}(h:qR s)(a:Int):(zE s a).1≠0↔∃ x∈keys s.items,(qj s.items x).at_=a:=by
 constructor
 ·intro h0
  refine Classical.byContradiction fun hno=>h0 ?_
  obtain⟨r,_,_,_,e⟩:=h.look_none (a:=a) fun x hx hxa=>hno ⟨x,hx,hxa⟩
  rw[e]
 ·rintro⟨x,hx,hxa⟩
  obtain⟨i,_,_,_,e⟩:=h.look_some hx hxa
  rw[e]
  have:=(h.pos x hx).1
  show x≠0
  omega
end Go.Fx.Ch
namespace Go.Fx.Ch
open Go.Fx.Tryz
set_option linter.all false
set_option maxRecDepth 100000
theorem qR.new{n k:Nat}{len:Int}(h1:1<=n)(hn:n<1000000)(h4:4<=k)(h16:k<=16)(hl0:0<=len)(hl:len<=1048576):qR (vO n len k):=by
 have hk:∀ x,¬ x∈keys (vO n len k).items:=fun x hx=>by cases hx
 have hf:(vO n len k).rows.flatten=[]:=List.flatten_eq_nil_iff.2 fun r hr=>(List.mem_replicate.1 hr).2
 refine⟨h4,h16,List.nodup_nil,fun x hx=>absurd hx (hk x),fun x hx=>absurd hx (hk x),fun x hx=>absurd hx (hk x),(Tab.empty (2 ^ k) fun _=>0).congr (fun x=>⟨fun h=>h.elim,fun h=>absurd h (hk x)⟩) fun x h=>h.elim,Nat.zero_le _,?_,?_,?_,Int.le_refl _,Int.le_refl _,?_,?_,hl,fun r hr=>?_⟩
 ·rw[hf];exact List.Perm.nil
 ·show 0<(List.replicate n ([]:List Int)).length
  rw[List.length_replicate];omega
 ·show(List.replicate n ([]:List Int)).length<_
  rw[List.length_replicate];omega
 ·show((0:Nat):Int)+0+0<=0
  omega
 ·show(0:Int)<=_
  omega
 ·rw[(List.mem_replicate.1 hr).2]
  exact hl0
end Go.Fx.Ch
namespace Go.Fx.Tryz
set_option maxRecDepth 100000
open Go Go.Fx Go.Proofs
end Go.Fx.Tryz
namespace Go.Fx.Ch
open Go.Fx.Tryz
end Go.Fx.Ch
namespace Go.Fx.Tryz
open Go Go.Fx Go.Fx.Ch
open Go.Proofs
set_option linter.all false
set_option maxRecDepth 20000
variable {w0 w:World} {H X N:qE} {K:KT} {s u:qd} {L L1 L2:qQ} {q q1 q2:LB}
theorem vn.one{xs:List Value}{a:Addr}{n c:Nat}(h:vn w 1 (.slice (some a) n c) n xs){i:Nat}(hi:i<n):w.cell? (a.add (i*1))=xs[i]?:=by
 rcases h.2 with⟨h1,_⟩ | ⟨a',c',h1,h2⟩
 ·cases h1
 ·cases h1
  rw[Nat.mul_one];exact h2 i om
section
variable {all:List Int} {stay:List Bool} {k n10 ac sl sc t:Nat} {aa sa:Option Addr} {at_:Int}
end
end Go.Fx.Tryz
namespace Go.Fx.Tryz
open Go Go.Fx Go.Fx.Ch
open Go.Proofs
set_option linter.all false
set_option maxRecDepth 20000
variable {w0 w:World} {H X N:qE} {K:KT} {s u:qd} {L L1 L2:qQ} {q q1 q2:LB}
section
variable {all:List Int} {stay:List Bool} {k n10 ac sl sc t:Nat} {aa sa:Option Addr} {at_:Int}
end
end Go.Fx.Tryz
namespace Go.Proofs.YtepbaneageipfaaGreatDoor
open Go
set_option maxRecDepth 100000
theorem qOy{a b:Bool}(h:a=true)(g:b=true):(a&&b)=true:=by rw[h,g];rfl
end Go.Proofs.YtepbaneageipfaaGreatDoor
namespace Go.Fx.Tryz
open Go Go.Fx Go.Fx.Ch
open Go.Proofs
open Go.ChangeShapes Go.WideShapes Go.ChangeAt Go.RowKit
set_option linter.all false
set_option maxRecDepth 100000
variable {H:Type} {enc:TypeId × Value->H} {W:World}
theorem q3N{n:Int}(h:(Lit.int .u32 n).wf=true):0<=n/\n<4294967296:=by
 simp[Lit.wf,IntKind.min,IntKind.max,IntKind.signed,IntKind.bits]at h
 omega
theorem qFM{n:Int}(h:(Lit.int .u8 n).wf=true):0<=n/\n<256:=by
 simp[Lit.wf,IntKind.min,IntKind.max,IntKind.signed,IntKind.bits]at h
 omega
theorem q0y:P.cellsOf 24=1:=kr
end Go.Fx.Tryz
namespace Go.Proofs.YtepbaneageipfaaGreatDoor
open Go Go.Fx Go.Fx.Tryz Go.Fx.Ch
open Go.ChangeShapes Go.WideShapes Go.ChangeAt Go.RowKit
set_option linter.all false
set_option maxRecDepth 100000
end Go.Proofs.YtepbaneageipfaaGreatDoor
namespace Go.Fx.Ch
open Go.Fx.Tryz
set_option linter.all false
set_option maxRecDepth 100000
structure Ag (b b':List Int) (n:Nat):Prop where
 l1:n<=b.length
 l2:n<=b'.length
 eq:∀ i,i<n->b[i]?=b'[i]?
theorem qu5{b b':List Int}{n k:Nat}{s:Rd}(h:Ag b b' n)(h1:(rd b s k).2.2=false)(h2:(rd b s k).2.1<=n):rd b' s k=rd b s k:=by
 obtain⟨_,h3⟩:=ZN h1
 rw[h3]at h2
 have:=h.l1
 have:=h.l2
 unfold rd
 rw[if_neg om,if_neg om]
 have e:(b'.drop s.1).take k=(b.drop s.1).take k:=by
  apply List.ext_getElem?
  intro i
  rw[List.getElem?_take,List.getElem?_take]
  split
  ·rw[List.getElem?_drop,List.getElem?_drop]
   exact(h.eq _ om).symm
  ·rfl
 rw[e]
def qV(f:List Int->HI × Rd->HI × Rd):Prop:=∀ (b b':List Int) (n:Nat) (s:HI × Rd),Ag b b' n->(f b s).2.2=false->(f b s).2.1<=n->f b' s=f b s/\s.2.2=false/\s.2.1<=(f b s).2.1
theorem qV.id:qV fun _ s=>s:=fun _ _ _ _ _ h _=>⟨rfl,h,Nat.le_refl _⟩
theorem qV.read(g:HI->Int->HI)(k:Nat):qV fun b s=>(g s.1 (rd b s.2 k).1,(rd b s.2 k).2):=fun b b' n s ha h1 h2=>by
 have h1:(rd b s.2 k).2.2=false:=h1
 have h2:(rd b s.2 k).2.1<=n:=h2
 refine⟨?_,(ZN h1).1,q97⟩
 show(g s.1 (rd b' s.2 k).1,(rd b' s.2 k).2)=_
 rw[qu5 ha h1 h2]
theorem qV.comp{f g:List Int->HI × Rd->HI × Rd}(hf:qV f)(hg:qV g):qV fun b s=>g b (f b s):=fun b b' n s ha h1 h2=>by
 obtain⟨g1,g2,g3⟩:=hg b b' n (f b s) ha h1 h2
 obtain⟨f1,f2,f3⟩:=hf b b' n s ha g2 (Nat.le_trans g3 h2)
 refine⟨?_,f2,Nat.le_trans f3 g3⟩
 show g b' (f b' s)=_
 rw[f1,g1]
theorem qV.decS(fs i:Nat):qV fun b s=>Ch.decS fs b i s:=by
 unfold Ch.decS
 by_cases h:has fs (q8n i)=true
 ·simp only[if_pos h]
  exact qV.read (fun x v=>q45 x i v) _
 ·simp only[if_neg h]
  exact qV.id
theorem qV.decI(fs:Nat):∀ i,qV fun b s=>Ch.decI fs b i s
 | 0=>qV.id
 | i+1=>(qV.comp (f:=fun b s=>Ch.decI fs b i s) (g:=fun b s=>Ch.decS fs b i s) (qV.decI fs i) (qV.decS fs i):qV fun b s=>Ch.decS fs b i (Ch.decI fs b i s))
theorem qV.decA(fs:Nat):qV fun b s=>Ch.decA fs b s:=by
 unfold Ch.decA
 by_cases h:has fs 256=true
 ·simp only[if_pos h]
  exact qV.read (fun x v=>{ x with i:=v }) _
 ·simp only[if_neg h]
  exact qV.id
theorem qV.decC(fs:Nat):qV fun b s=>Ch.decC fs b s:=by
 unfold Ch.decC
 by_cases h:has fs 512=true
 ·simp only[if_pos h]
  exact qV.read (fun x v=>{ x with chain:=v }) _
 ·simp only[if_neg h]
  exact qV.id
theorem qV.decV1:∀ i,qV fun b s=>Ch.decV1 b i s
 | 0=>qV.id
 | i+1=>(qV.comp (f:=fun b s=>Ch.decV1 b i s) (g:=fun b s=>(q2H s.1 i (rd b s.2 4).1,(rd b s.2 4).2)) (qV.decV1 i) (qV.read (fun x v=>q2H x i v) 4):qV fun b s=>(q2H (Ch.decV1 b i s).1 i (rd b (Ch.decV1 b i s).2 4).1,(rd b (Ch.decV1 b i s).2 4).2))
theorem qV.decV(fs:Nat):qV fun b s=>Ch.decV fs b s:=by
 unfold Ch.decV
 by_cases h:has fs 1024=true
 ·simp only[if_pos h]
  exact qV.decV1 4
 ·simp only[if_neg h]
  exact qV.id
theorem qV.head(fs:Nat):qV fun b s=>Ch.decA fs b (Ch.decI fs b 8 s):=qV.comp (qV.decI fs 8) (qV.decA fs)
theorem qV.all(fs:Nat):qV fun b s=>Ch.decV fs b (Ch.decC fs b (Ch.decA fs b (Ch.decI fs b 8 s))):=qV.comp (qV.comp (qV.head fs) (qV.decC fs)) (qV.decV fs)
theorem VN{b:List Int}{x:HI}{n:Nat}(h:decode b=some (x,n)):(rd b (0,false) 1).2=(1,false)/\1<=(rd b (0,false) 1).1/\(rd b (0,false) 1).1<46/\check x=true/\
  decV (zi (rd b (0,false) 1).1).1 b (decC (zi (rd b (0,false) 1).1).1 b (decA (zi (rd b (0,false) 1).1).1 b (decI (zi (rd b (0,false) 1).1).1 b 8 ({ op:=(rd b (0,false) 1).1 },(rd b (0,false) 1).2))))=(x,n,false):=by
 unfold decode at h
 dsimp only at h
 split at h
 ·cases h
 ·rename_i h1
  split at h
  ·cases h
  ·rename_i h2
   simp only[Option.some.injEq,Prod.mk.injEq]at h
   have h1a:=fun hh=>h1 (.inl hh)
   have h1b:(rd b (0,false) 1).2.2=false:=Bool.eq_false_iff.2 fun hh=>h1 (.inr hh)
   have h3:=Classical.not_not.1 h1a
   have hf:=Bool.eq_false_iff.2 fun hh=>h2 (.inl hh)
   have hc:¬ check _=false:=fun hh=>h2 (.inr hh)
   rw[h.1]at hc
   refine⟨Prod.ext (ZN h1b).2 h1b,h3.1,h3.2,by simpa using hc,?_⟩
   exact Prod.ext h.1 (Prod.ext h.2 hf)
theorem q4E{b:List Int}{x:HI}{n:Nat}(h1:(rd b (0,false) 1).2=(1,false))(h2:1<=(rd b (0,false) 1).1)(h3:(rd b (0,false) 1).1<46)(h4:check x=true)
  (h5:decV (zi (rd b (0,false) 1).1).1 b (decC (zi (rd b (0,false) 1).1).1 b (decA (zi (rd b (0,false) 1).1).1 b (decI (zi (rd b (0,false) 1).1).1 b 8 ({ op:=(rd b (0,false) 1).1 },(rd b (0,false) 1).2))))=(x,n,false)):decode b=some (x,n):=by
 unfold decode
 dsimp only
 rw[h5,if_neg,if_neg]
 ·simp[h4]
 ·rw[h1];simp;omega
theorem qqJ{b b':List Int}{x:HI}{n:Nat}(h:decode b=some (x,n))(ha:Ag b b' n):decode b'=some (x,n):=by
 obtain⟨h1,h2,h3,h4,h5⟩:=VN h
 have hl:=vg h
 have ho:rd b' (0,false) 1=rd b (0,false) 1:=qu5 ha (by rw[h1]) (by rw[h1];exact hl.1)
 refine q4E (by rw[ho];exact h1) (by rw[ho];exact h2) (by rw[ho];exact h3) h4 ?_
 rw[ho]
 have:=(qV.all (zi (rd b (0,false) 1).1).1 b b' n ({ op:=(rd b (0,false) 1).1 },(rd b (0,false) 1).2) ha (congrArg (fun p=>p.2.2) h5) (Nat.le_of_eq (congrArg (fun p=>p.2.1) h5))).1
 exact this.trans h5
theorem qeU{fs:Nat}{x:HI}(c:Int)(h:has fs 512=true):(Yy fs { x with chain:=c }=={ x with chain:=c })=(Yy fs x==x):=by
 have e:Yy fs { x with chain:=c }={ Yy fs x with chain:=c }:=by
  unfold Yy vP
  simp only[h,pick,if_true]
 have hc:(Yy fs x).chain=x.chain:=by
  unfold Yy
  simp only[h,pick,if_true]
 rw[e]
 generalize Yy fs x=y at *
 rw[Bool.eq_iff_iff,beq_iff_eq,beq_iff_eq]
 constructor
 ·intro hh
  cases x;cases y
  simp only[HI.mk.injEq]at hh hc ⊢
  simp_all
 ·intro hh
  rw[hh]
theorem qb6{x:HI}(c:Int)(hx:x.op=39\/x.op=40):check { x with chain:=c }=check x:=by
 have hv:yN { x with chain:=c }=yN x:=by
  have h512:has (zi x.op).1 512=true:=by rcases hx with hx | hx<;>rw[hx]<;>decide
  have hr:(zi x.op).2=17:=by rcases hx with hx | hx<;>rw[hx]<;>decide
  unfold yN
  have:=qeU (x:=x) c h512
  simp only[this,hr]
  rfl
 have h1:jx { x with chain:=c }=jx x:=by unfold jx;rw[hv];rfl
 unfold check
 rw[hv]
 have h2:yY { x with chain:=c }=yY x:=rfl
 have h3:Yg { x with chain:=c }=Yg x:=by unfold Yg;rw[h1];rfl
 rw[h1,h2,h3]
theorem q7U{b b':List Int}{x:HI}{n:Nat}(h:decode b=some (x,n))(hx:x.op=39\/x.op=40)(ha:Ag b b' (n-4))(hn:n<=b'.length):decode b'=some ({ x with chain:=le ((b'.drop (n-4)).take 4) },n):=by
 have h4':=jt h hx
 obtain⟨h1,h2,h3,h4,h5⟩:=VN h
 have hop:x.op=(rd b (0,false) 1).1:=by
  have:=congrArg (fun p=>p.1.op) h5
  simp only at this
  rw[qn7,qnm,qkS,q0B]at this
  exact this.symm
 have h512:has (zi (rd b (0,false) 1).1).1 512=true:=by rw[<-hop];rcases hx with hx | hx<;>rw[hx]<;>decide
 have h1024:¬ has (zi (rd b (0,false) 1).1).1 1024=true:=by rw[<-hop];rcases hx with hx | hx<;>rw[hx]<;>decide
 have hV:∀ b s,decV (zi (rd b' (0,false) 1).1).1 b s=s\/True:=fun _ _=>.inr trivial
 generalize hfs:(zi (rd b (0,false) 1).1).1=fs at *
 generalize hs0:(({ op:=(rd b (0,false) 1).1 },(rd b (0,false) 1).2):HI × Rd)=s0 at *
 generalize hsA:decA fs b (decI fs b 8 s0)=sA at *
 have hC:∀ d,decV fs d (decC fs d sA)=({ sA.1 with chain:=(rd d sA.2 4).1 },(rd d sA.2 4).2):=fun d=>by
  unfold decV decC
  rw[if_neg h1024,if_pos h512]
 rw[hC]at h5
 have h6:(rd b sA.2 4).2=(n,false):=congrArg (·.2) h5
 obtain⟨h7,h8⟩:=ZN (show(rd b sA.2 4).2.2=false by rw[h6])
 rw[h6]at h8
 have h8:n=sA.2.1+4:=h8
 have hloc:=qV.head fs b b' (n-4) s0 ha (by show(decA fs b (decI fs b 8 s0)).2.2=false;rw[hsA];exact h7) (by show(decA fs b (decI fs b 8 s0)).2.1<=n-4;rw[hsA];omega)
 have hA':decA fs b' (decI fs b' 8 s0)=sA:=hloc.1.trans hsA
 have hs01:s0.2.1=1:=by rw[<-hs0];show(rd b (0,false) 1).2.1=1;rw[h1]
 have hup:s0.2.1<=sA.2.1:=by
  have:=hloc.2.2
  have e:(decA fs b (decI fs b 8 s0)).2.1=sA.2.1:=by rw[hsA]
  exact Nat.le_trans this (Nat.le_of_eq e)
 have ho:rd b' (0,false) 1=rd b (0,false) 1:=qu5 ha (by rw[h1]) (by rw[h1];show 1<=n-4;omega)
 have hrd:rd b' sA.2 4=(le ((b'.drop (n-4)).take 4),(n,false)):=by
  unfold rd
  rw[if_neg om,h7]
  have:n-4=sA.2.1:=by omega
  rw[this,h8]
 refine q4E (by rw[ho];exact h1) (by rw[ho];exact h2) (by rw[ho];exact h3) ((qb6 _ hx).trans h4) ?_
 rw[ho,hfs,hs0,hA',hC,hrd]
 have hx1:({ sA.1 with chain:=(rd b sA.2 4).1 }:HI)=x:=congrArg (·.1) h5
 rw[<-hx1]
def yG(bs:List Int):Nat->List (HI × Nat)->Nat->Prop
 | a,[],b=>a=b
 | a,p::r,b=>p.2=a/\∃ n,decode (bs.drop a)=some (p.1,n)/\a+n<=bs.length/\yG bs (a+n) r b
theorem yG.whole{bs:List Int}:∀ {a:Nat} {l:List (HI × Nat)},Run bs a l↔yG bs a l bs.length
 | _,[]=>Iff.rfl
 | a,p::r=>by
  constructor
  ·rintro⟨h1,n,h2,h3,h4⟩
   exact⟨h1,n,h2,h3,yG.whole.1 h4⟩
  ·rintro⟨h1,n,h2,h3,h4⟩
   exact⟨h1,n,h2,h3,yG.whole.2 h4⟩
theorem yG.append{bs:List Int}:∀ {a:Nat} {l m:List (HI × Nat)} {c:Nat},yG bs a (l++m) c↔∃ b,yG bs a l b/\yG bs b m c
 | a,[],m,c=>⟨fun h=>⟨a,rfl,h⟩,fun⟨b,h1,h2⟩=>by have h1:a=b:=h1;rw[h1];exact h2⟩
 | a,p::l,m,c=>by
  constructor
  ·rintro⟨h1,n,h2,h3,h4⟩
   obtain⟨b,h5,h6⟩:=yG.append.1 h4
   exact⟨b,⟨h1,n,h2,h3,h5⟩,h6⟩
  ·rintro⟨b,⟨h1,n,h2,h3,h5⟩,h6⟩
   exact⟨h1,n,h2,h3,yG.append.2 ⟨b,h5,h6⟩⟩
theorem yG.le{bs:List Int}:∀ {a:Nat} {l:List (HI × Nat)} {b:Nat},yG bs a l b->a<=b
 | _,[],_,h=>Nat.le_of_eq h
 | a,p::l,b,⟨_,n,_,_,h4⟩=>by have:=yG.le h4;omega
theorem yG.congr{bs bs':List Int}(hl:bs.length=bs'.length):∀ {a:Nat} {l:List (HI × Nat)} {b:Nat},yG bs a l b->(∀ i,a<=i->i<b->bs[i]?=bs'[i]?)->yG bs' a l b
 | _,[],_,h,_=>h
 | a,p::l,b,⟨h1,n,h2,h3,h4⟩,he=>by
  have hle:=yG.le h4
  refine⟨h1,n,qqJ h2 ⟨?_,?_,fun i hi=>?_⟩,by omega,yG.congr hl h4 fun i h5 h6=>he i om h6⟩
  ·rw[List.length_drop];omega
  ·rw[List.length_drop];omega
  ·rw[List.getElem?_drop,List.getElem?_drop];exact he _ om om
def q2P:Bool->List (HI × Nat)->Prop
 | b,[]=>b=true
 | b,p::r=>b=false/\q2P (Yr p.1) r
theorem Yk(out:List (HI × Nat))(x:HI)(a:Nat):zM (out++[(x,a)])=Yr x:=by
 unfold zM
 rw[List.getLast?_append];rfl
theorem q4g{bs:List Int}:∀ (f a:Nat) (out l:List (HI × Nat)),QE bs f a out=some l->a<=bs.length->∃ r,l=out++r/\Run bs a r/\q2P (zM out) r
 | 0,_,_,_,h,_=>by cases h
 | f+1,a,out,l,h,ha=>by
  unfold QE at h
  split at h
  ·rename_i hlt
   split at h
   ·cases h
   ·rename_i x n hd
    split at h
    ·cases h
    ·rename_i hne
     have hl:=vg hd
     rw[List.length_drop]at hl
     obtain⟨r,rfl,hr,hf⟩:=q4g f (a+n) _ l h om
     rw[Yk]at hf
     exact⟨(x,a)::r,by simp,⟨rfl,n,hd,by omega,hr⟩,by simpa using hne,hf⟩
  ·rename_i hlt
   split at h
   ·rename_i he
    cases h;exact⟨[],by simp,by show a=bs.length;omega,he⟩
   ·cases h
theorem qot{bs:List Int}:∀ (f a:Nat) (out r:List (HI × Nat)),Run bs a r->q2P (zM out) r->bs.length-a<f->a<=bs.length->QE bs f a out=some (out++r)
 | 0,_,_,_,_,_,h,_=>by omega
 | f+1,a,out,[],hr,hf,h,ha=>by
  have hr:a=bs.length:=hr
  have hf:zM out=true:=hf
  unfold QE
  rw[if_neg om,if_pos hf,List.append_nil]
 | f+1,a,out,p::r,⟨h1,n,h2,h3,h4⟩,hf,h,ha=>by
  have hl:=vg h2
  have hf:zM out=false/\q2P (Yr p.1) r:=hf
  unfold QE
  rw[if_pos om,h2]
  dsimp only
  rw[if_neg (by rw[hf.1];decide)]
  rw[qot f (a+n) (out++[(p.1,a)]) r h4 (by rw[Yk];exact hf.2) om h3,List.append_assoc,<-h1]
  rfl
theorem JF{bs:List Int}{l:List (HI × Nat)}(h:jm bs=some l):Run bs 0 l/\q2P false l/\bs.length<=65536:=by
 have h65:=q2N h
 unfold jm at h
 rw[if_neg om]at h
 obtain⟨r,hr,h1,h2⟩:=q4g _ _ _ _ h (Nat.zero_le _)
 rw[List.nil_append]at hr
 subst hr
 exact⟨h1,h2,h65⟩
theorem qDT{bs:List Int}{l:List (HI × Nat)}(h1:Run bs 0 l)(h2:q2P false l)(h3:bs.length<=65536):jm bs=some l:=by
 unfold jm
 rw[if_neg om,qot _ 0 [] l h1 h2 om (Nat.zero_le _)];rfl
theorem q2P.congr{p p':HI × Nat}(hp:p.1.op=p'.1.op):∀ {b:Bool} {l1 l2:List (HI × Nat)},q2P b (l1++p::l2)->q2P b (l1++p'::l2)
 | b,[],l2,h=>⟨h.1,by have e:Yr p'.1=Yr p.1:=by(unfold Yr;rw[hp])
                      rw[e];exact h.2⟩
 | b,q::l1,l2,h=>⟨h.1,q2P.congr hp h.2⟩
theorem JG{bs:List Int}{slot:Nat}(c:Int)(h:slot+4<=bs.length):(zK bs slot c).length=bs.length:=by
 unfold zK le4
 simp only[List.length_append,List.length_take,List.length_cons,List.length_nil,List.length_drop]
 omega
theorem q9G{bs:List Int}{slot:Nat}(c:Int)(h:slot+4<=bs.length){i:Nat}(hi:i<slot):(zK bs slot c)[i]?=bs[i]?:=by
 unfold zK
 rw[List.append_assoc,List.getElem?_append_left (by rw[List.length_take];omega),List.getElem?_take,if_pos hi]
theorem qya{bs:List Int}{slot:Nat}(c:Int)(h:slot+4<=bs.length){i:Nat}(hi:slot+4<=i):(zK bs slot c)[i]?=bs[i]?:=by
 unfold zK
 have hl:(bs.take slot++le4 c).length=slot+4:=by
  unfold le4
  simp only[List.length_append,List.length_take,List.length_cons,List.length_nil]
  omega
 rw[List.getElem?_append_right om,hl,List.getElem?_drop]
 congr 1
 omega
theorem qsh{bs:List Int}{slot:Nat}(c:Int)(h:slot+4<=bs.length):((zK bs slot c).drop slot).take 4=le4 c:=by
 unfold zK
 have hl:(bs.take slot).length=slot:=by rw[List.length_take];omega
 rw[List.append_assoc,List.drop_left' hl]
 exact List.take_left' rfl
theorem qJA{c:Int}(h:j9 c):le (le4 c)=c:=by
 obtain⟨h0,h1⟩:=h
 unfold le4
 simp only[le]
 omega
theorem qgC{bs:List Int}{l1 l2:List (HI × Nat)}{p:HI × Nat}{n:Nat}{c:Int}(hc:j9 c)(h:jm bs=some (l1++p::l2))(hp:p.1.op=39\/p.1.op=40)(hd:decode (bs.drop p.2)=some (p.1,n))(hn:p.2+n<=bs.length) :
  jm (zK bs (p.2+n-4) c)=some (l1++({ p.1 with chain:=c },p.2)::l2):=by
 obtain⟨h1,h2,h3⟩:=JF h
 have h4:=jt hd hp
 have hs:p.2+n-4+4<=bs.length:=by omega
 have hl:=JG c hs
 obtain⟨b,r1,r2⟩:=yG.append.1 (yG.whole.1 h1)
 obtain⟨e1,m,e2,e3,e4⟩:=r2
 subst e1
 have hmn:m=n:=by rw[hd]at e2;injection e2 with e2;injection e2 with _ e2;exact e2.symm
 subst hmn
 refine qDT (yG.whole.2 (yG.append.2 ⟨p.2,r1.congr hl.symm fun i _ hi=>(q9G c hs om).symm,rfl,m,?_,by omega,?_⟩)) (q2P.congr (p:=p) (p':=({ p.1 with chain:=c },p.2)) rfl h2) om
 ·have:=q7U (b':=(zK bs (p.2+m-4) c).drop p.2) hd hp ⟨by rw[List.length_drop];omega,by rw[List.length_drop];omega,fun i hi=>by
   rw[List.getElem?_drop,List.getElem?_drop]
   exact(q9G c hs om).symm⟩ (by rw[List.length_drop];omega)
  rw[List.drop_drop]at this
  have e:p.2+(m-4)=p.2+m-4:=by omega
  rw[e,qsh c hs,qJA hc]at this
  exact this
 ·rw[hl]
  exact e4.congr hl.symm fun i hi _=>(qya c hs om).symm
theorem Run.mono{bs:List Int}:∀ {a:Nat} {l:List (HI × Nat)},Run bs a l->(∀ p∈l,a<=p.2)/\l.Pairwise fun p q=>p.2<q.2
 | _,[],_=>⟨by simp,List.Pairwise.nil⟩
 | a,p::r,⟨h1,n,h2,h3,h4⟩=>by
  obtain⟨i1,i2⟩:=Run.mono h4
  have:=vg h2
  refine⟨fun q hq=>?_,List.Pairwise.cons (fun q hq=>by have:=i1 q hq;omega) i2⟩
  rcases List.mem_cons.1 hq with rfl | hq
  ·omega
  ·have:=i1 q hq;omega
theorem Run.ends{bs:List Int}{l:List (HI × Nat)}(h:Run bs 0 l){i j:Nat}{p q:HI × Nat}(hij:i<j)(hi:l[i]?=some p)(hj:l[j]?=some q):jz bs.length l i<jz bs.length l j:=by
 have hp:=(h.mono).2
 obtain⟨m,d1,d2,d3⟩:=h.at hj
 have hm:=vg d1
 have hjl:=(List.getElem?_eq_some_iff.1 hj).1
 have h1:l[i+1]?=some (l[i+1]'om):=List.getElem?_eq_getElem _
 have h2:(l[i+1]'om).2<=q.2:=by
  by_cases e:i+1=j
  ·subst e
   rw[h1]at hj
   injection hj with hj
   rw[hj];exact Nat.le_refl _
  ·have:=List.pairwise_iff_getElem.1 hp (i+1) j om hjl om
   rw[List.getElem?_eq_getElem hjl]at hj
   injection hj with hj
   rw[hj]at this
   omega
 have e1:jz bs.length l i=((l[i+1]'om).2:Int):=by unfold jz;rw[h1]
 rw[e1,d2]
 omega
theorem qbx{α β:Type}{f g:α->Option β}:∀ {l:List α},(∀ x∈l,f x=g x)->l.filterMap f=l.filterMap g
 | [],_=>rfl
 | x::l,h=>by
  rw[List.filterMap_cons,List.filterMap_cons,h x (.head _),qbx fun y hy=>h y (.tail _ hy)]
theorem qaX{bs:List Int}{l:List EX}{e:EX}{c:Int}(hc:j9 c)(h:zg bs=some l)(he:e∈l):zg (zK bs e.slot.toNat c)=some (l.map fun x=>if x.slot=e.slot then { x with chain:=c }else x):=by
 obtain⟨al,i,p,n,h1,h2,h3,h4,h5,rfl⟩:=q3U h he
 have hn4:=jt h4 h3
 have hil:=(List.getElem?_eq_some_iff.1 h2).1
 have hsp:al=al.take i++p::al.drop (i+1):=by
  rw[List.getElem?_eq_getElem hil]at h2
  injection h2 with h2
  rw[<-h2]
  simp
 have hli:(al.take i).length=i:=by rw[List.length_take];omega
 have hpat:=qgC (l1:=al.take i) (l2:=al.drop (i+1)) (p:=p) (n:=n) hc (by rw[<-hsp];exact h1) h3 h4 h5
 have hslot:(((p.2+n:Nat):Int)-4).toNat=p.2+n-4:=by omega
 obtain⟨hrun,_,_⟩:=JF h1
 unfold zg at h ⊢
 rw[h1]at h
 dsimp only
 rw[hslot,hpat,JG c om]
 simp only[Option.map_some,Option.some.injEq]at h ⊢
 subst h
 generalize hal':al.take i++({ p.1 with chain:=c },p.2)::al.drop (i+1)=al'
 have hlen:al'.length=al.length:=by
  rw[<-hal']
  simp only[List.length_append,List.length_take,List.length_cons,List.length_drop]
  omega
 have hat:∀ j,al'[j]?=if j=i then some ({ p.1 with chain:=c },p.2)else al[j]?:=fun j=>by
  rw[<-hal']
  rcases Nat.lt_trichotomy j i with hj | hj | hj
  ·rw[List.getElem?_append_left om,List.getElem?_take,if_pos hj,if_neg om]
  ·subst hj
   rw[List.getElem?_append_right om,hli,Nat.sub_self,if_pos rfl];rfl
  ·rw[List.getElem?_append_right om,hli,if_neg om]
   obtain⟨d,rfl⟩:∃ d,j=i+1+d:=⟨j-(i+1),by omega⟩
   have:i+1+d-i=d+1:=by omega
   rw[this,List.getElem?_cons_succ,List.getElem?_drop]
 have hend:∀ j,jz bs.length al' j=jz bs.length al j:=fun j=>by
  unfold jz
  rw[hat]
  by_cases hj:j+1=i
  ·rw[if_pos hj,hj,h2]
  ·rw[if_neg hj]
 unfold Jz
 rw[hlen,List.map_filterMap]
 refine qbx fun j hj=>?_
 have hj:=List.mem_range.1 hj
 unfold vh
 rw[hat,hend]
 by_cases hji:j=i
 ·subst hji
  rw[if_pos rfl,h2]
  dsimp only
  have hop:¬ ((p.1.op != 39&&p.1.op != 40)=true):=by rcases h3 with h3 | h3<;>rw[h3]<;>decide
  rw[if_neg hop]
  obtain⟨m,d1,d2,_⟩:=hrun.at h2
  have hmn:m=n:=by rw[h4]at d1;injection d1 with d1;injection d1 with _ d1;exact d1.symm
  subst hmn
  rw[if_neg hop]
  simp[d2]
 ·rw[if_neg hji]
  cases hq:al[j]? with
  | none=>rfl
  | some q=>
   dsimp only
   split
   ·rfl
   ·have hne:jz bs.length al j≠((p.2+n:Nat):Int):=by
     obtain⟨m,d1,d2,_⟩:=hrun.at h2
     have hmn:m=n:=by rw[h4]at d1;injection d1 with d1;injection d1 with _ d1;exact d1.symm
     subst hmn
     rw[<-d2]
     rcases Nat.lt_or_gt_of_ne hji with hlt | hgt
     ·have:=hrun.ends hlt hq h2;omega
     ·have:=hrun.ends hgt h2 hq;omega
    simp only[Option.map_some]
    rw[if_neg om]
theorem qak{bs:List Int}{l:List EX}(h:zg bs=some l):(l.map fun e=>e.slot).Nodup:=by
 unfold zg at h
 cases h1:jm bs with
 | none=>rw[h1]at h;cases h
 | some al=>
  rw[h1]at h
  simp only[Option.map_some,Option.some.injEq]at h
  subst h
  obtain⟨hrun,_,_⟩:=JF h1
  refine List.pairwise_map.2 ?_
  unfold Jz
  refine List.pairwise_filterMap.2 (List.pairwise_lt_range.imp fun {i j} hij e he e' he'=>?_)
  have key:∀ {i:Nat} {e:EX},vh bs.length al i=some e->∃ p,al[i]?=some p/\e.slot=jz bs.length al i-4:=fun {i e} he=>by
   unfold vh at he
   split at he
   ·cases he
   ·rename_i p hp
    split at he
    ·cases he
    ·cases he;exact⟨p,hp,rfl⟩
  obtain⟨p,hp,e1⟩:=key he
  obtain⟨q,hq,e2⟩:=key he'
  have:=hrun.ends hij hp hq
  omega
abbrev Zm(h:List (Int × List (Int × Int)))(c:Int):List (Int × Int):=(lk h c).getD []
structure y9 (h:List (Int × List (Int × Int))):Prop where
 nd:(keys h).Nodup
 each:∀ c l,lk h c=some l->l≠[]/\l.Nodup
theorem y9.nil:y9 []:=⟨List.nodup_nil,fun c l h=>by cases h⟩
theorem y9.nodup{h:List (Int × List (Int × Int))}(hh:y9 h)(c:Int):(Zm h c).Nodup:=by
 unfold Zm
 cases hl:lk h c with
 | none=>exact List.nodup_nil
 | some l=>exact(hh.each c l hl).2
theorem q44{V:Type}{m:List (Int × V)}{k:Int}{v:V}(h:(keys m).Nodup):(keys (pt m k v)).Nodup:=by
 by_cases hk:k∈keys m
 ·rw[qlp v hk];exact h
 ·rw[q0a v hk]
  exact List.nodup_append.2 ⟨h,by simp,fun a ha b hb=>by rw[List.mem_singleton.1 hb];rintro rfl;exact hk ha⟩
theorem y9.dl{h:List (Int × List (Int × Int))}(hh:y9 h)(c:Int):y9 (dl h c):=by
 refine⟨by rw[q0G];exact hh.nd.filter _,fun c' l hl=>?_⟩
 rw[qsg]at hl
 split at hl
 ·cases hl
 ·exact hh.each c' l hl
theorem y9.pt{h:List (Int × List (Int × Int))}(hh:y9 h){c:Int}{v:List (Int × Int)}(h1:v≠[])(h2:v.Nodup):y9 (pt h c v):=by
 refine⟨q44 hh.nd,fun c' l hl=>?_⟩
 rw[qn9]at hl
 split at hl
 ·cases hl;exact⟨h1,h2⟩
 ·exact hh.each c' l hl
theorem y9.release{h:List (Int × List (Int × Int))}(hh:y9 h)(p:Int × Int)(c:Int):y9 (zd h p c):=by
 unfold zd
 split
 ·exact hh.dl c
 ·rename_i hne
  exact hh.pt hne ((hh.nodup c).filter _)
theorem y9.hold{h:List (Int × List (Int × Int))}(hh:y9 h)(p:Int × Int)(c:Int):y9 (q01 h p c):=by
 unfold q01
 split
 ·exact hh
 ·split
  ·rename_i hm
   exact hh.pt (List.ne_nil_of_mem hm) (hh.nodup c)
  ·rename_i hm
   exact hh.pt (by simp) (List.nodup_append.2 ⟨hh.nodup c,by simp,fun a ha b hb=>by rw[List.mem_singleton.1 hb];rintro rfl;exact hm ha⟩)
theorem vo(h:List (Int × List (Int × Int)))(p:Int × Int)(c c':Int)(q:Int × Int):q∈Zm (zd h p c) c'↔q∈Zm h c'/\¬ (c'=c/\q=p):=by
 unfold zd Zm
 split
 ·rename_i he
  rw[qsg]
  by_cases hc:c'=c
  ·subst hc
   rw[if_pos rfl]
   have:=List.filter_eq_nil_iff.1 he q
   constructor
   ·intro hh;cases hh
   ·rintro⟨h1,h2⟩
    have:=this h1
    simp at this
    exact absurd ⟨rfl,this⟩ h2
  ·rw[if_neg hc]
   exact⟨fun hh=>⟨hh,fun h2=>hc h2.1⟩,fun hh=>hh.1⟩
 ·rw[qn9]
  by_cases hc:c'=c
  ·subst hc
   rw[if_pos rfl]
   show q∈List.filter _ _↔_
   rw[List.mem_filter]
   simp
  ·rw[if_neg hc]
   exact⟨fun hh=>⟨hh,fun h2=>hc h2.1⟩,fun hh=>hh.1⟩
theorem qtV(h:List (Int × List (Int × Int)))(p:Int × Int){c:Int}(hc0:c≠0)(c':Int)(q:Int × Int):q∈Zm (q01 h p c) c'↔q∈Zm h c'\/(c'=c/\q=p):=by
 unfold q01 Zm
 rw[if_neg hc0,qn9]
 by_cases hc:c'=c
 ·subst hc
  rw[if_pos rfl]
  show q∈(if _ then _ else _)↔_
  split
  ·rename_i hm
   constructor
   ·exact Or.inl
   ·rintro(hh | ⟨_,rfl⟩)
    ·exact hh
    ·exact hm
  ·rw[List.mem_append,List.mem_singleton]
   simp
 ·rw[if_neg hc]
  constructor
  ·exact Or.inl
  ·rintro(hh | ⟨h1,_⟩)
   ·exact hh
   ·exact absurd h1 hc
structure qP (s:qd):Prop where
 dec:∀ id∈keys s.items,∃ l,zg (qj s.items id).code=some l
 up:∀ id∈keys s.items,∀ e∈qC s.items id,e.chain≠0->e.chain∈keys s.items/\(qj s.items e.chain).at_=e.to/\vK e=true
 held:∀ c p,p∈Zm s.hold c↔c≠0/\p.1∈keys s.items/\∃ e∈qC s.items p.1,e.slot=p.2/\e.chain=c
 ok:y9 s.hold
theorem j6{items:List (Int × TR)}{id:Int}{l:List EX}(h:zg (qj items id).code=some l):qC items id=l:=by unfold qC;rw[h];rfl
theorem q7n{items:List (Int × TR)}{p:Int × Int}{c:Int}(hc:j9 c){l:List EX}(hl:zg (qj items p.1).code=some l){e:EX}(he:e∈qC items p.1)(hs:e.slot=p.2)(x:Int) :
  zg (qj (zf items p c) x).code=if x=p.1 then some ((qC items p.1).map fun y=>if y.slot=p.2 then { y with chain:=c }else y)else zg (qj items x).code:=by
 rw[QP]
 split
 ·rename_i hx
  subst hx
  have hel:e∈l:=by rw[j6 hl]at he;exact he
  have hany:(l.any fun y=>y.slot==p.2)=true:=List.any_eq_true.2 ⟨e,hel,by simpa using hs⟩
  show zg (ju (qj items p.1).code p.2 c)=_
  unfold ju
  rw[hl]
  dsimp only
  rw[if_pos hany,<-hs,qaX hc hl hel,j6 hl]
 ·rfl
theorem Qi{items:List (Int × TR)}{id:Int}{l:List EX}(hl:zg (qj items id).code=some l){e f:EX}(he:e∈qC items id)(hf:f∈qC items id)(hs:e.slot=f.slot):e=f:=by
 rw[j6 hl]at he hf
 have hn:=qak hl
 obtain⟨i,hi,rfl⟩:=List.mem_iff_getElem.1 he
 obtain⟨j,hj,rfl⟩:=List.mem_iff_getElem.1 hf
 have hi':i<(l.map fun e=>e.slot).length:=by rw[List.length_map];exact hi
 have hj':j<(l.map fun e=>e.slot).length:=by rw[List.length_map];exact hj
 have:(l.map fun e=>e.slot)[i]=(l.map fun e=>e.slot)[j]:=by rw[List.getElem_map,List.getElem_map];exact hs
 have:=(List.getElem_inj hn).1 this
 subst this;rfl
theorem qP.step{s:qd}(h:qP s){p:Int × Int}{c:Int}(hc:j9 c){e:EX}(hp:p.1∈keys s.items)(he:e∈qC s.items p.1)(hs:e.slot=p.2)(hto:c≠0->c∈keys s.items/\(qj s.items c).at_=e.to/\vK e=true)
  {hold':List (Int × List (Int × Int))} (hok:y9 hold') (hh:∀ c' q,q∈Zm hold' c'↔if q=p then c'=c/\c≠0 else q∈Zm s.hold c') :
  qP { s with items:=zf s.items p c,hold:=hold' }:=by
 obtain⟨l,hl⟩:=h.dec p.1 hp
 have hk:keys (zf s.items p c)=keys s.items:=jQ c hp
 have hat:∀ x,(qj (zf s.items p c) x).at_=(qj s.items x).at_:=(Jf.patch c hp).at_
 have hx:=q7n hc hl he hs
 have hex:∀ x,qC (zf s.items p c) x=if x=p.1 then(qC s.items p.1).map fun y=>if y.slot=p.2 then { y with chain:=c }else y else qC s.items x:=fun x=>by
  unfold qC
  rw[hx x]
  split
  ·rfl
  ·rfl
 refine⟨fun id hid=>?_,fun id hid f hf hf0=>?_,fun c' q=>?_,hok⟩
 ·have hid:id∈keys s.items:=by rw[<-hk];exact hid
  show ∃ l,zg (qj (zf s.items p c) id).code=some l
  rw[hx id]
  split
  ·exact⟨_,rfl⟩
  ·exact h.dec id hid
 ·have hid:id∈keys s.items:=by rw[<-hk];exact hid
  have hf:f∈qC (zf s.items p c) id:=hf
  show f.chain∈keys (zf s.items p c)/\(qj (zf s.items p c) f.chain).at_=f.to/\_
  rw[hk,hat]
  rw[hex id]at hf
  split at hf
  ·rename_i hi
   obtain⟨g,hg,rfl⟩:=List.mem_map.1 hf
   by_cases hgs:g.slot=p.2
   ·have hge:g=e:=Qi hl hg he (hgs.trans hs.symm)
    subst hge
    rw[if_pos hgs]at hf0 ⊢
    exact hto hf0
   ·rw[if_neg hgs]at hf0 ⊢
    exact h.up p.1 hp g hg hf0
  ·exact h.up id hid f hf hf0
 ·show q∈Zm hold' c'↔c'≠0/\q.1∈keys (zf s.items p c)/\∃ f∈qC (zf s.items p c) q.1,f.slot=q.2/\f.chain=c'
  rw[hh,hk,hex]
  by_cases hqp:q=p
  ·subst hqp
   rw[if_pos rfl,if_pos rfl]
   constructor
   ·rintro⟨rfl,h0⟩
    exact⟨h0,hp,{ e with chain:=c' },List.mem_map.2 ⟨e,he,by rw[if_pos hs]⟩,hs,rfl⟩
   ·rintro⟨h0,_,f,hf,hf1,hf2⟩
    obtain⟨g,hg,rfl⟩:=List.mem_map.1 hf
    by_cases hgs:g.slot=q.2
    ·rw[if_pos hgs]at hf2
     exact⟨hf2.symm,by rw[show c=c' from hf2];exact h0⟩
    ·rw[if_neg hgs]at hf1;exact absurd hf1 hgs
  ·rw[if_neg hqp,h.held]
   split
   ·rename_i hq1
    constructor
    ·rintro⟨h0,h1,f,hf,hf1,hf2⟩
     rw[hq1]at hf
     have hne:f.slot≠p.2:=fun hh=>hqp (Prod.ext hq1 (hf1.symm.trans hh))
     exact⟨h0,h1,f,List.mem_map.2 ⟨f,hf,by rw[if_neg hne]⟩,hf1,hf2⟩
    ·rintro⟨h0,h1,f,hf,hf1,hf2⟩
     obtain⟨g,hg,rfl⟩:=List.mem_map.1 hf
     have hgs:g.slot≠p.2:=fun hh=>by
      rw[if_pos hh]at hf1
      exact hqp (Prod.ext hq1 (hf1.symm.trans hh))
     rw[if_neg hgs]at hf1 hf2
     exact⟨h0,h1,g,by rw[hq1];exact hg,hf1,hf2⟩
   ·exact Iff.rfl
theorem qP.one{s:qd}(h:qP s){c c':Int}{p:Int × Int}(h1:p∈Zm s.hold c)(h2:p∈Zm s.hold c'):c=c':=by
 obtain⟨_,hp,e,he,hs,hc⟩:=(h.held c p).1 h1
 obtain⟨_,_,f,hf,ht,hd⟩:=(h.held c' p).1 h2
 obtain⟨l,hl⟩:=h.dec p.1 hp
 have:=Qi hl he hf (hs.trans ht.symm)
 rw[<-hc,<-hd,this]
theorem qP.free1{s:qd}(h:qP s){p:Int × Int}{id:Int}(hp:p∈Zm s.hold id):qP { s with items:=zf s.items p 0,hold:=zd s.hold p id }:=by
 obtain⟨h0,h1,e,he,hs,hc⟩:=(h.held id p).1 hp
 refine h.step (c:=0) Jb h1 he hs (fun hh=>absurd rfl hh) (h.ok.release p id) fun c' q=>?_
 rw[vo]
 by_cases hqp:q=p
 ·subst hqp
  rw[if_pos rfl]
  constructor
  ·rintro⟨h2,h3⟩
   exact absurd ⟨h.one h2 hp,rfl⟩ h3
  ·rintro⟨_,hh⟩;exact absurd rfl hh
 ·rw[if_neg hqp]
  exact⟨fun hh=>hh.1,fun hh=>⟨hh,fun hx=>hqp hx.2⟩⟩
theorem qP.free{id:Int}:∀ {order:List (Int × Int)} {s:qd},qP s->order.Nodup->(∀ p∈order,p∈Zm s.hold id)->qP (qO id order s)/\∀ c q,q∈Zm (qO id order s).hold c↔q∈Zm s.hold c/\¬ (c=id/\q∈order)
 | [],s,h,_,_=>⟨h,fun c q=>⟨fun hh=>⟨hh,fun hx=>by cases hx.2⟩,fun hh=>hh.1⟩⟩
 | p::order,s,h,hn,ho=>by
  have hn:=List.nodup_cons.1 hn
  have h1:=h.free1 (ho p (.head _))
  obtain⟨a,b⟩:=qP.free (id:=id) (order:=order) h1 hn.2 fun q hq=>by
   show q∈Zm (zd s.hold p id) id
   rw[vo]
   exact⟨ho q (.tail _ hq),fun hx=>hn.1 (hx.2▸hq)⟩
  refine⟨a,fun c q=>?_⟩
  refine(b c q).trans ?_
  show q∈Zm (zd s.hold p id) c/\_↔_
  rw[vo,List.mem_cons]
  constructor
  ·rintro⟨⟨h2,h3⟩,h4⟩
   exact⟨h2,fun hx=>hx.2.elim (fun e=>h3 ⟨hx.1,e⟩) fun e=>h4 ⟨hx.1,e⟩⟩
  ·rintro⟨h2,h3⟩
   exact⟨⟨h2,fun hx=>h3 ⟨hx.1,.inl hx.2⟩⟩,fun hx=>h3 ⟨hx.1,.inr hx.2⟩⟩
theorem YF{id:Int}:∀ {l:List EX} {s:qd},y9 s.hold->y9 (qM id l s).hold/\∀ c q,q∈Zm (qM id l s).hold c↔q∈Zm s.hold c/\¬ ∃ x∈l,x.chain≠0/\c=x.chain/\q=(id,x.slot)
 | [],s,h=>⟨h,fun c q=>⟨fun hh=>⟨hh,fun⟨x,hx,_⟩=>by cases hx⟩,fun hh=>hh.1⟩⟩
 | x::l,s,h=>by
  unfold qM
  split
  ·rename_i hx0
   obtain⟨a,b⟩:=YF (id:=id) (l:=l) (s:=s) h
   refine⟨a,fun c q=>(b c q).trans ?_⟩
   constructor
   ·rintro⟨h1,h2⟩
    refine⟨h1,fun⟨y,hy,hy0,hy1⟩=>?_⟩
    rcases List.mem_cons.1 hy with rfl | hy
    ·exact hy0 hx0
    ·exact h2 ⟨y,hy,hy0,hy1⟩
   ·rintro⟨h1,h2⟩
    exact⟨h1,fun⟨y,hy,hy0⟩=>h2 ⟨y,.tail _ hy,hy0⟩⟩
  ·rename_i hx0
   obtain⟨a,b⟩:=YF (id:=id) (l:=l) (s:={ s with hold:=zd s.hold (id,x.slot) x.chain }) (h.release _ _)
   refine⟨a,fun c q=>(b c q).trans ?_⟩
   show q∈Zm (zd s.hold (id,x.slot) x.chain) c/\_↔_
   rw[vo]
   constructor
   ·rintro⟨⟨h1,h3⟩,h2⟩
    refine⟨h1,fun⟨y,hy,hy0,hy1⟩=>?_⟩
    rcases List.mem_cons.1 hy with rfl | hy
    ·exact h3 hy1
    ·exact h2 ⟨y,hy,hy0,hy1⟩
   ·rintro⟨h1,h2⟩
    exact⟨⟨h1,fun hx=>h2 ⟨x,.head _,hx0,hx⟩⟩,fun⟨y,hy,hy0⟩=>h2 ⟨y,.tail _ hy,hy0⟩⟩
theorem qP.forget1{s:qd}(h:qP s){id:Int}{order:List (Int × Int)}(ho:order.Perm (Zm s.hold id)):qP (Ch.forget1 order s id):=by
 obtain⟨f1,f2⟩:=h.free (id:=id) (ho.nodup_iff.2 (h.ok.nodup id)) fun p hp=>ho.mem_iff.1 hp
 obtain⟨a1,a2,a3⟩:=jU id (qC (qO id order s).items id) (qO id order s)
 obtain⟨d1,d2⟩:=YF (id:=id) (l:=qC (qO id order s).items id) f1.ok
 unfold Ch.forget1
 dsimp only
 generalize hs1:qO id order s=s1 at *
 have hfree:∀ q,q ∉ Zm s1.hold id:=fun q hq=>by
  have:=(f2 id q).1 hq
  exact this.2 ⟨rfl,ho.mem_iff.2 this.1⟩
 have hitem:∀ x,x≠id->qj (dl (qM id (qC s1.items id) s1).items id) x=qj s1.items x:=fun x hx=>by rw[QM _ hx,a1]
 have hkey:∀ x,x∈keys (dl (qM id (qC s1.items id) s1).items id)↔x∈keys s1.items/\x≠id:=fun x=>by rw[q0G,a1];simp
 have hex:∀ x,x≠id->qC (dl (qM id (qC s1.items id) s1).items id) x=qC s1.items x:=fun x hx=>congrArg (fun t:TR=>(zg t.code).getD []) (hitem x hx)
 refine⟨fun x hx=>?_,fun x hx e he h0=>?_,fun c p=>?_,d1⟩
 ·have hx:=(hkey x).1 hx
  show ∃ l,zg (qj (dl _ id) x).code=some l
  rw[hitem x hx.2]
  exact f1.dec x hx.1
 ·have hx:=(hkey x).1 hx
  have he:e∈qC (dl (qM id (qC s1.items id) s1).items id) x:=he
  rw[hex x hx.2]at he
  obtain⟨g1,g2,g3⟩:=f1.up x hx.1 e he h0
  have hne:e.chain≠id:=fun hh=>hfree (x,e.slot) ((f1.held id (x,e.slot)).2 ⟨by rw[<-hh];exact h0,hx.1,e,he,rfl,hh⟩)
  refine⟨(hkey _).2 ⟨g1,hne⟩,?_,g3⟩
  show(qj (dl _ id) e.chain).at_=_
  rw[hitem _ hne];exact g2
 ·show p∈Zm (qM id (qC s1.items id) s1).hold c↔c≠0/\p.1∈keys (dl (qM id (qC s1.items id) s1).items id)/\_
  rw[d2,f1.held,hkey]
  constructor
  ·rintro⟨⟨g0,g1,e,he,hs,hc⟩,hno⟩
   have hne:p.1≠id:=fun hh=>by
    rw[hh]at he
    exact hno ⟨e,he,by rw[hc];exact g0,hc.symm,Prod.ext hh hs.symm⟩
   refine⟨g0,⟨g1,hne⟩,e,?_,hs,hc⟩
   show e∈qC (dl _ id) p.1
   rw[hex _ hne];exact he
  ·rintro⟨g0,⟨g1,hne⟩,e,he,hs,hc⟩
   have he:e∈qC (dl (qM id (qC s1.items id) s1).items id) p.1:=he
   rw[hex _ hne]at he
   exact⟨⟨g0,g1,e,he,hs,hc⟩,fun⟨x,_,_,_,hx⟩=>hne (by rw[hx])⟩
theorem Z9:q04 qP:=
 ⟨fun s id _ hq p hp=>((hq.held id p).1 hp).2.1,fun s id order _ hq _ ho=>hq.forget1 ho,fun s c hq=>⟨hq.dec,hq.up,hq.held,hq.ok⟩,fun s e hq=>⟨hq.dec,hq.up,hq.held,hq.ok⟩⟩
theorem qP.setDr{s:qd}(h:qP s)(e:Int):qP { s with dr:=e }:=⟨h.dec,h.up,h.held,h.ok⟩
theorem qP.new(n:Nat)(len:Int)(k:Nat):qP (vO n len k):=by
 refine⟨fun id hid=>(by cases hid),fun id hid=>(by cases hid),fun c p=>?_,y9.nil⟩
 constructor
 ·intro hh;cases hh
 ·rintro⟨_,h1,_⟩;cases h1
theorem qP.add{s:qd}{t:TR}(h:qP s){l:List EX}(hl:zg t.code=some l)(h0:∀ e∈l,e.chain=0)(hk:keys (zR s t).items=keys s.items++[s.given+1])(ho:∀ x∈keys s.items,qj (zR s t).items x=qj s.items x)(hn:qj (zR s t).items (s.given+1)=t)(hnew:s.given+1 ∉ keys s.items):qP (zR s t):=by
 have hmem:∀ x,x∈keys (zR s t).items↔x∈keys s.items\/x=s.given+1:=fun x=>by rw[hk];simp
 have hex:∀ x∈keys s.items,qC (zR s t).items x=qC s.items x:=fun x hx=>by unfold qC;rw[ho x hx]
 have hexn:qC (zR s t).items (s.given+1)=l:=by unfold qC;rw[hn,hl];rfl
 refine⟨fun x hx=>?_,fun x hx e he he0=>?_,fun c p=>?_,h.ok⟩
 ·rcases(hmem x).1 hx with hx | rfl
  ·rw[ho x hx];exact h.dec x hx
  ·rw[hn];exact⟨l,hl⟩
 ·rcases(hmem x).1 hx with hx | rfl
  ·rw[hex x hx]at he
   obtain⟨g1,g2,g3⟩:=h.up x hx e he he0
   exact⟨(hmem _).2 (.inl g1),by rw[ho _ g1];exact g2,g3⟩
  ·rw[hexn]at he
   exact absurd (h0 e he) he0
 ·show p∈Zm s.hold c↔_
  rw[h.held]
  constructor
  ·rintro⟨g0,g1,e,he,hs⟩
   exact⟨g0,(hmem _).2 (.inl g1),e,by rw[hex _ g1];exact he,hs⟩
  ·rintro⟨g0,g1,e,he,hs⟩
   rcases(hmem _).1 g1 with g1 | g1
   ·exact⟨g0,g1,e,by rw[<-hex _ g1];exact he,hs⟩
   ·rw[g1,hexn]at he
    exact absurd (hs.2.symm.trans (h0 e he)) g0
theorem qR.akin{s:qd}(h:qR s){items:List (Int × TR)}(ha:Jf items s.items)(hold:List (Int × List (Int × Int))):qR { s with items:=items,hold:=hold }:=by
 have hlen:items.length=s.items.length:=by rw[<-qH,<-qH s.items,ha.keys]
 refine⟨h.k4,h.k16,?_,?_,?_,?_,?_,?_,?_,h.cur,h.rl,h.ev,h.dr,?_,h.given,h.len,?_⟩
 ·show(keys items).Nodup
  rw[ha.keys];exact h.nd
 ·show ∀ x∈keys items,_
  rw[ha.keys];exact h.pos
 ·show ∀ x∈keys items,∀ y∈keys items,(qj items x).at_=(qj items y).at_->x=y
  rw[ha.keys]
  intro x hx y hy he
  rw[ha.at_,ha.at_]at he
  exact h.ats x hx y hy he
 ·show ∀ x∈keys items,j9 (qj items x).at_
  rw[ha.keys]
  intro x hx
  rw[ha.at_];exact h.atw x hx
 ·show Tab (2 ^ s.k) s.table (fun x=>x∈keys items) (Zf s.k items)
  rw[ha.keys]
  exact h.tab.congr (fun _=>Iff.rfl) fun x _=>by unfold Zf;rw[ha.at_]
 ·show items.length<=_
  rw[hlen];exact h.lim
 ·show s.rows.flatten.Perm (keys items)
  rw[ha.keys];exact h.rows
 ·show(items.length:Int)+s.ev+s.dr<=s.given
  rw[hlen];exact h.sum
 ·intro r hr
  show qT items r<=s.len
  exact Int.le_trans (q2R fun x _=>ha.code x) (h.fill r hr)
theorem qR.look_is{s:qd}(h:qR s){a:Int}(h0:(zE s a).1≠0):(zE s a).1∈keys s.items/\(qj s.items (zE s a).1).at_=a:=by
 obtain⟨x,hx,ha⟩:=(h.look_iff a).1 h0
 obtain⟨i,_,_,_,e⟩:=h.look_some hx ha
 rw[e]
 exact⟨hx,ha⟩
theorem QJ{s:qd}{id slot:Int}(h:¬ (zD s id slot).2≠0):id∈keys s.items/\(zD s id slot).1∈qC s.items id/\(zD s id slot).1.slot=slot:=by
 unfold zD at h ⊢
 split at h
 ·exact absurd (by simp) h
 ·rename_i t ht
  split at h
  ·exact absurd (by simp) h
  ·rename_i e he
   exact⟨q2J.2 ⟨t,ht⟩,List.mem_of_find?_eq_some he,by simpa using List.find?_some he⟩
theorem q9V{s:qd}(hb:qR s)(hc:qP s)(id slot:Int):qR (zJ s id slot).1/\qP (zJ s id slot).1:=by
 unfold zJ
 split
 ·exact⟨hb,hc⟩
 ·rename_i h0
  obtain⟨h1,h2,h3⟩:=QJ h0
  split
  ·exact⟨hb,hc⟩
  ·rename_i hno
   have hn1:=fun hh=>hno (.inl hh)
   have hn2:vK (zD s id slot).1=true:=by
    cases hcf:vK (zD s id slot).1 with
    | true=>rfl
    | false=>exact absurd (.inr hcf) hno
   obtain⟨g1,g2⟩:=hb.look_is hn1
   have hw:j9 (zE s (zD s id slot).1.to).1:=by
    have:=hb.pos _ g1
    have:=hb.given
    exact⟨by omega,by omega⟩
   refine⟨hb.akin (Jf.patch _ h1) _,?_⟩
   refine hc.step (p:=(id,slot)) hw h1 h2 h3 (fun _=>⟨g1,g2,hn2⟩) (hc.ok.hold _ _) fun c' q=>?_
   rw[qtV _ _ hn1]
   by_cases hqp:q=(id,slot)
   ·subst hqp
    rw[if_pos rfl]
    constructor
    ·rintro(hh | ⟨hh,_⟩)
     ·obtain⟨k0,k1,f,kf,ks,kc⟩:=(hc.held _ _).1 hh
      obtain⟨l,hl⟩:=hc.dec id h1
      have:f=(zD s id slot).1:=Qi hl kf h2 (ks.trans h3.symm)
      subst this
      obtain⟨m1,m2,_⟩:=hc.up id h1 _ h2 (by rw[kc];exact k0)
      rw[kc]at m1 m2
      exact⟨hb.ats _ m1 _ g1 (m2.trans g2.symm),hn1⟩
     ·exact⟨hh,hn1⟩
    ·rintro⟨hh,_⟩;exact .inr ⟨hh,rfl⟩
   ·rw[if_neg hqp]
    constructor
    ·rintro(hh | ⟨_,hh⟩)
     ·exact hh
     ·exact absurd hh hqp
    ·exact Or.inl
theorem q47{s:qd}(hb:qR s)(hc:qP s)(id slot:Int):qR (zq s id slot).1/\qP (zq s id slot).1:=by
 unfold zq
 split
 ·exact⟨hb,hc⟩
 ·rename_i h0
  obtain⟨h1,h2,h3⟩:=QJ h0
  refine⟨hb.akin (Jf.patch _ h1) _,?_⟩
  refine hc.step (p:=(id,slot)) Jb h1 h2 h3 (fun hh=>absurd rfl hh) (hc.ok.release _ _) fun c' q=>?_
  rw[vo]
  by_cases hqp:q=(id,slot)
  ·subst hqp
   rw[if_pos rfl]
   constructor
   ·rintro⟨hh,hno⟩
    obtain⟨k0,k1,f,kf,ks,kc⟩:=(hc.held _ _).1 hh
    obtain⟨l,hl⟩:=hc.dec id h1
    have:f=(zD s id slot).1:=Qi hl kf h2 (ks.trans h3.symm)
    subst this
    exact absurd ⟨kc.symm,rfl⟩ hno
   ·rintro⟨_,hh⟩;exact absurd rfl hh
  ·rw[if_neg hqp]
   exact⟨fun hh=>hh.1,fun hh=>⟨hh,fun hx=>hqp hx.2⟩⟩
def yH(R:Int->TR->Prop):Prop:=∀ (x:Int) (t:TR) (l:List EX) (e:EX) (c:Int),R x t->j9 c->zg t.code=some l->e∈l->R x { t with code:=zK t.code e.slot.toNat c }
def Ja(R:Int->TR->Prop)(s:qd):Prop:=∀ x∈keys s.items,R x (qj s.items x)
variable {R:Int->TR->Prop}
theorem Ja.patch(hR:yH R){s:qd}(hc:qP s)(h:Ja R s){p:Int × Int}{c:Int}(hw:j9 c)(hp:p.1∈keys s.items){e:EX}(he:e∈qC s.items p.1)(hs:e.slot=p.2)(hold:List (Int × List (Int × Int))):Ja R { s with items:=zf s.items p c,hold:=hold }:=by
 intro x hx
 have hx:x∈keys (zf s.items p c):=hx
 rw[jQ c hp]at hx
 show R x (qj (zf s.items p c) x)
 rw[QP]
 split
 ·rename_i hxp
  subst hxp
  obtain⟨l,hl⟩:=hc.dec p.1 hp
  have hel:e∈l:=by rw[j6 hl]at he;exact he
  have hany:(l.any fun y=>y.slot==p.2)=true:=List.any_eq_true.2 ⟨e,hel,by simpa using hs⟩
  have e1:ju (qj s.items p.1).code p.2 c=zK (qj s.items p.1).code e.slot.toNat c:=by
   unfold ju
   rw[hl]
   dsimp only
   rw[if_pos hany,hs]
  rw[e1]
  exact hR p.1 _ l e c (h p.1 hp) hw hl hel
 ·exact h x hx
theorem Ja.free(hR:yH R){id:Int}:∀ {order:List (Int × Int)} {s:qd},qP s->Ja R s->order.Nodup->(∀ p∈order,p∈Zm s.hold id)->Ja R (qO id order s)
 | [],s,_,h,_,_=>h
 | p::order,s,hc,h,hn,ho=>by
  have hn:=List.nodup_cons.1 hn
  obtain⟨h0,h1,e,he,hs,_⟩:=(hc.held id p).1 (ho p (.head _))
  refine Ja.free hR (id:=id) (order:=order) (hc.free1 (ho p (.head _))) (Ja.patch hR hc h Jb h1 he hs _) hn.2 fun q hq=>?_
  show q∈Zm (zd s.hold p id) id
  rw[vo]
  exact⟨ho q (.tail _ hq),fun hx=>hn.1 (hx.2▸hq)⟩
theorem Ja.forget1(hR:yH R){s:qd}(hc:qP s)(h:Ja R s){id:Int}{order:List (Int × Int)}(ho:order.Perm (Zm s.hold id)):Ja R (Ch.forget1 order s id):=by
 have hf:=Ja.free hR (id:=id) hc h (ho.nodup_iff.2 (hc.ok.nodup id)) fun p hp=>ho.mem_iff.1 hp
 obtain⟨a1,_,_⟩:=jU id (qC (qO id order s).items id) (qO id order s)
 unfold Ch.forget1
 dsimp only
 intro x hx
 have hx:x∈keys (dl (qM id (qC (qO id order s).items id) (qO id order s)).items id):=hx
 rw[q0G,a1]at hx
 obtain⟨hx,hne⟩:=List.mem_filter.1 hx
 have hne:x≠id:=by simpa using hne
 show R x (qj (dl _ id) x)
 rw[QM _ hne,a1]
 exact hf x hx
structure QR (R:Int->TR->Prop) (s:qd):Prop where
 ch:qP s
 all:Ja R s
theorem q1f(hR:yH R):q04 (QR R):=
 ⟨fun s id hb hq p hp=>Z9.places s id hb hq.ch p hp,fun s id order hb hq hid ho=>⟨hq.ch.forget1 ho,hq.all.forget1 hR hq.ch ho⟩,fun s c hq=>⟨Z9.cur s c hq.ch,hq.all⟩,fun s e hq=>⟨Z9.ev s e hq.ch,hq.all⟩⟩
theorem QR.setDr{s:qd}(h:QR R s)(e:Int):QR R { s with dr:=e }:=⟨h.ch.setDr e,h.all⟩
theorem qeY(hR:yH R){s:qd}(hb:qR s)(h:QR R s)(id slot:Int):qR (zJ s id slot).1/\QR R (zJ s id slot).1:=by
 obtain⟨h1,h2⟩:=q9V hb h.ch id slot
 refine⟨h1,h2,?_⟩
 unfold zJ
 split
 ·exact h.all
 ·rename_i h0
  obtain⟨g1,g2,g3⟩:=QJ h0
  split
  ·exact h.all
  ·rename_i hno
   have hn1:=fun hh=>hno (.inl hh)
   obtain⟨k1,_⟩:=hb.look_is hn1
   have:=hb.pos _ k1
   have:=hb.given
   exact h.all.patch hR h.ch (p:=(id,slot)) ⟨by omega,by omega⟩ g1 g2 g3 _
theorem q6E(hR:yH R){s:qd}(hb:qR s)(h:QR R s)(id slot:Int):qR (zq s id slot).1/\QR R (zq s id slot).1:=by
 obtain⟨h1,h2⟩:=q47 hb h.ch id slot
 refine⟨h1,h2,?_⟩
 unfold zq
 split
 ·exact h.all
 ·rename_i h0
  obtain⟨g1,g2,g3⟩:=QJ h0
  exact h.all.patch hR h.ch (p:=(id,slot)) Jb g1 g2 g3 _
theorem q4F{s:qd}{t:TR}(h:yv s t=0):(∃ l,zg t.code=some l/\∀ e∈l,e.chain=0)/\y6 t.sp=true/\(zE s t.at_).1=0/\(t.code.length:Int)<=s.len/\s.given≠2147483647:=by
 unfold yv at h
 cases hx:zg t.code with
 | none=>rw[hx]at h;cases h
 | some l=>
  rw[hx]at h
  dsimp only at h
  by_cases h1:y6 t.sp=false\/(l.any fun e=>e.chain != 0)=true
  ·rw[if_pos h1]at h;cases h
  ·rw[if_neg h1]at h
   by_cases h2:(zE s t.at_).1≠0
   ·rw[if_pos h2]at h;cases h
   ·rw[if_neg h2]at h
    by_cases h3:(t.code.length:Int) > s.len\/s.given=2147483647
    ·rw[if_pos h3]at h;cases h
    ·have ha:y6 t.sp=true:=by
      cases hs:y6 t.sp with
      | true=>rfl
      | false=>exact absurd (.inl hs) h1
     refine⟨⟨l,rfl,fun e he=>Classical.byContradiction fun hne=>h1 (.inr (List.any_eq_true.2 ⟨e,he,by simpa using hne⟩))⟩,ha,Classical.not_not.1 h2,?_,fun hh=>h3 (.inr hh)⟩
     have:=fun hh=>h3 (.inl hh)
     omega
structure q0U (R:Int->TR->Prop) (s:qd) (t:TR) (gone:List Int) (s1:qd):Prop where
 base1:qR s1
 q1:QR R s1
 left:vq s s1 gone
 full:jr s1 t.code.length=false
 cnt:s1.items.length+gone.length=s.items.length
 ev:s1.ev=s.ev+gone.length
 giv:s1.given=s.given
 base:qR (zR s1 t)
 ch:qP (zR s1 t)
 keys:keys (zR s1 t).items=keys s1.items++[s1.given+1]
 old:∀ x∈Ch.keys s1.items,qj (zR s1 t).items x=qj s1.items x
 new:qj (zR s1 t).items (s1.given+1)=t
 fresh:s1.given+1 ∉ Ch.keys s1.items
theorem qsP(hR:yH R){s s1:qd}{t:TR}{gone:List Int}(hb:qR s)(hq:QR R s)(ha:j9 t.at_)(h0:yv s t=0)(hE:yg t.code.length s gone s1):q0U R s t gone s1:=by
 obtain⟨⟨l,hl,hl0⟩,hsp,hlk,hlen,hgv⟩:=q4F h0
 obtain⟨b1,q1,L,hf,hc,hev⟩:=hE.keep (q1f hR) hb hq
 have hcf:=hE.conf
 have hgiv:=hb.given
 have hfr:∀ x∈keys s1.items,(qj s1.items x).at_≠t.at_:=fun x hx he=>by
  obtain⟨hx1,hx2⟩:=L.mem.1 hx
  rw[L.at_ x hx2]at he
  exact(hb.look_iff t.at_).2 ⟨x,hx1,he⟩ hlk
 obtain⟨c1,c2,c3,c4,c5⟩:=b1.add hf ha hfr (by rw[hcf.2.2.1];omega)
 exact⟨b1,q1,L,hf,hc,hev,hcf.2.2.1,c1,q1.ch.add hl hl0 c2 c3 c4 c5,c2,c3,c4,c5⟩
theorem q0U.all{s s1:qd}{t:TR}{gone:List Int}(h:q0U R s t gone s1)(ht:R (s1.given+1) t):QR R (zR s1 t):=by
 refine⟨h.ch,fun x hx=>?_⟩
 rw[h.keys]at hx
 rcases List.mem_append.1 hx with hx | hx
 ·rw[h.old x hx];exact h.q1.all x hx
 ·rw[List.mem_singleton.1 hx,h.new];exact ht
theorem qru(hR:yH R){s s':qd}{l:List Int}(hb:qR s)(hq:QR R s)(hF:zp s l s')(hn:l.Nodup)(hs:∀ x∈l,x∈keys s.items) :
  qR { s' with dr:=s'.dr+l.length }/\QR R { s' with dr:=s'.dr+l.length }/\vq s s' l/\s'.items.length+l.length=s.items.length/\s'.given=s.given/\s'.dr=s.dr/\s'.ev=s.ev:=by
 obtain⟨a,b,c⟩:=hF.keep (q1f hR) hb hq hn hs
 have hl:=c.len hb.nd hn hs
 have hcf:=hF.conf
 refine⟨a.setDr ?_ ?_,b.setDr _,c,hl,hcf.2.2.2.1,hcf.2.2.2.2.2.1,hcf.2.2.2.2.1⟩
 ·have:=a.dr;omega
 ·have h1:=hb.sum
  rw[hcf.2.2.2.1,hcf.2.2.2.2.1,hcf.2.2.2.2.2.1];omega
theorem yH.len(m:Nat):yH fun _ t=>t.code.length<=m:=fun x t l e c h hw hl he=>by
 have hs:=vU hl he
 show(zK t.code e.slot.toNat c).length<=m
 rw[JG c om]
 exact h
end Go.Fx.Ch
namespace Go.Fx.Tryz
set_option maxRecDepth 100000
open Go Go.Fx Go.Proofs
def Jp:=qm Tryz.f24
def qNT:=Tryz.f24.results.toList
abbrev jW K:=qr P qNT K
def f24 a b c d w K:=CS P Jp none [4] [4] (jW K) (qz 23 [(VS a b c),(VI d)]) w
def qti a b c d w K:=SC Jp 1 [4] [4] (jW K) 23 [(0,VS a b c),(1,VI d)] w
abbrev qHc K:=kq Jp 1 [4] [4] (jW K)
def quM a b c d w K:=SC Jp 3 [4] [4] (jW K) 23 [(4,VB false),(0,VS a b c),(1,VI d)] w
abbrev qt7 K:=kq Jp 3 [4] [4] (jW K)
abbrev qK7 K:=kq Jp 6 [0,4] [4] (qt7 K)
def qwc a b c d w K:=SG Jp 7 [4] [4] (jW K) 23 [(0,VS a b c),(4,VB d)] w
abbrev q2j K:=kq Jp 7 [4] [4] (jW K)
abbrev qKk K:=kq Jp 14 [] [4] (q2j K)
def qtr a b c d e w K:=SC Jp 29 [] [4] (q2j K) 23 [(5,VI a),(0,VS b c d),(4,VB e)] w
abbrev qfu K:=qo 0 (q2j K)
def qDv K Y4 e w:=zt (fun e w=>CS P (cA Jp 116) none [5,0,4] [4] (qu [5,0,4] Y4 (qfu K)) e w) e w
abbrev Vg K Y4:=qu [5,0,4] Y4 (qfu K)
def qoC a b c d f w K Y4:=SG Jp 116 [5,0,4] [4] (Vg K Y4) 23 [(5,VI a),(0,VS b c d),(4,VB f)] w
abbrev quX K Y4:=kq Jp 116 [5,0,4] [4] (Vg K Y4)
abbrev qHH K Y4:=kq Jp 232 [0,5,4] [4] (quX K Y4)
def qu6 a b c d f w K Y4:=SG Jp 233 [5,0,4] [4] (Vg K Y4) 23 [(0,VS a b c),(5,VI d),(4,VB f)] w
abbrev qt3 K Y4:=kq Jp 233 [5,0,4] [4] (Vg K Y4)
abbrev qkq K Y4:=qo 1 (qt3 K Y4)
abbrev qAX K Y4:=kq Jp 932 [0,4,5] [4,0,5] (qkq K Y4)
def qs5 a b c d f w K Y4:=SG Jp 467 [5,0,4] [4] (Vg K Y4) 23 [(0,VS a b c),(4,VB d),(5,VI f)] w
theorem qrT:qs5 a c d e f w K Y4=(Y4 (qi.mk 23 [(5,(Value.int .i64 (IntKind.wrap .i64 (f+1)))),(0,(Value.slice a c d)),(4,(Value.bool e))] []) w):=qB kr
theorem qrd:qu6 d e f c g w K Y4=(qh d (fun j=>0<=c/\c<(e:Nat)/\qU 3 ((j.add (Int.toNat c*9)).add 1) w (fun k=>q9 P 36 [(Value.agg k)] w (fun l h=>∃ i:Bool,l=(.bool i)/\qp (!i) (K (Value.bool false) h) (qs5 d e f g c h K Y4))))):=qB (qG [0,4,5] (qt3 K Y4) (Q8 1 [4,0,5] (qkq K Y4) (qG [22,0,5,4] (qAX K Y4) kr)))
def qte w K:=SG Jp 15 [4] [4] (jW K) 23 [] w
abbrev qAK K:=kq Jp 15 [4] [4] (jW K)
theorem qr9:qte w K=(K (Value.bool true) w):=qB (qG [4] (qAK K) kr)
theorem qeq:qoC c e d f g w K Y4=(qp (decide (c<((d:Nat):Int))) (qu6 e d f c g w K Y4) (qte w K)):=qB (qG [0,5,4] (quX K Y4) (qG [13,0,5,4] (qHH K Y4) kr))
theorem qpc:qtr a c d e f w K=(qK (qDv K) (qi.mk 23 [(5,(Value.int .i64 a)),(0,(Value.slice c d e)),(4,(Value.bool f))] []) w):=Eq.trans (b:=CS P (cA Jp 29) none [] [4] (q2j K) (qi.mk 23 [(5,(VI a)),(0,(VS c d e)),(4,(VB f))] []) w) kr (Eq.trans (Zc 0 [4] (qfu K) kr) ((qS (b:=(cA Jp 116)) (X':=[4]) (H:=[5,0,4]) kr kr kr).trans kr))
theorem qpT:qwc c d e f w K=(qtr 0 c d e f w K):=qB (qG [] (q2j K) (qG [5,0,4] (qKk K) kr))
theorem qqU:quM d c e f w K=(qp (decide ((((c:Nat):Int):Int) > f)) (K (Value.bool false) w) (qwc d c e false w K)):=Eq.trans (b:=CS P (cA Jp 3) none [4] [4] (jW K) (qi.mk 23 [(4,(VB false)),(0,(VS d c e)),(1,(VI f))] []) w) kr (Eq.trans (qZ [0,4] (qt7 K) kr) (Eq.trans (qZ [9,0,4] (qK7 K) kr) kr))
theorem qpi:qti c d e f w K=(quM c d e f w K):=Eq.trans (b:=CS P (cA Jp 1) none [4] [4] (jW K) (qi.mk 23 [(0,(VS c d e)),(1,(VI f))] []) w) kr (Eq.trans (qZ [0,4,1] (qHc K) kr) kr)
theorem qGi:f24 a b c d w K=(qti a b c d w K):=kr
theorem qKh a b c d w K(h:f24 a b c d w K):q9 P 24 [(Value.slice a b c),(Value.int .i64 d)] w K:=qA Jp Tryz.func24 h
def c26:=qm Tryz.f26
def qOs:=Tryz.f26.results.toList
abbrev qwA K:=qr P qOs K
def f26 a w K:=CS P c26 none [2] [2] (qwA K) (qz 21 [(Value.agg a)]) w
def q6d a w K:=SG c26 15 [2] [2] (qwA K) 21 [(2,VB a)] w
theorem qq6:q6d a w K=(K (Value.bool a) w):=kr
theorem qFY:f26 b w K=(qv b 27 w (fun c d=>qU 3 (Addr.mk c 0 none) d (fun h=>q9 P 16 [(Value.agg h)] d (fun i a=>∃ e:Option Addr,∃ f:Int,i=(.tuple #[(Value.pointer e),(Value.int .i64 f)])/\qp (f==1) (qp e.isNone (qU 3 (Addr.mk c 0 none) a (fun j=>q9 P 69 [(Value.agg j)] a (fun k l=>∃ g:Bool,k=(.bool g)/\q6d (!g) l K))) (q6d false a K)) (q6d false a K))))):=kr
theorem qHM a w K(h:f26 a w K):q9 P 26 [(Value.agg a)] w K:=qA c26 Tryz.func26 h
def c32:=qm Tryz.f32
def qO7:=Tryz.f32.results.toList
abbrev Qs K:=qr P qO7 K
def f32 a b w K:=CS P c32 none [] [] (Qs K) (qz 39 [(VP a),(Value.agg b)]) w
def qxw a b w K:=SC c32 1 [] [] (Qs K) 39 [(0,VP a),(1,Value.agg b)] w
abbrev qHq K:=kq c32 1 [] [] (Qs K)
def qx3 a b c w K:=SC c32 3 [] [] (Qs K) 39 [(3,VQ a),(0,VP b),(1,Value.agg c)] w
abbrev qFV K:=kq c32 3 [] [] (Qs K)
def quF a b c d e f w K:=SC c32 7 [] [] (Qs K) 39 [(6,Value.int .u8 a),(5,Value.int .u8 b),(4,VQ c),(3,VQ d),(0,VP e),(1,Value.agg f)] w
abbrev qwi K:=qo 0 (Qs K)
abbrev qKq K:=kq c32 14 [] [] (qwi K)
theorem qpH:quF d f g c e h w K=(qp (d==0) (qU 3 (c.add 1) w (fun m=>q9 P 18 [(Value.pointer e),(Value.agg m)] w (fun n o=>∃ p:Int,∃ (q:OA) (r s:Nat),∃ t:Int,n=(.tuple #[(Value.int .u32 p),(Value.slice q r s),(Value.int .i64 t)])/\K (Value.tuple #[]) o))) (qp (d==4) (∃ i:Int,w.cell? (c.add 5)=some (.int .u32 i)/\∃ j:Int,w.cell? (c.add 6)=some (.int .i64 j)/\q9 P 41 [(Value.pointer e),(Value.int .u32 i),(Value.int .i64 j)] w (fun u v=>∃ x:Bool,∃ y:Int,u=(.tuple #[(Value.bool x),(Value.int .i64 y)])/\K (Value.tuple #[]) v)) (qp (d==5) (∃ k:Int,w.cell? (c.add 5)=some (.int .u32 k)/\∃ l:Int,w.cell? (c.add 6)=some (.int .i64 l)/\q9 P 42 [(Value.pointer e),(Value.int .u32 k),(Value.int .i64 l)] w (fun z a0=>∃ b0:Int,z=(.int .i64 b0)/\K (Value.tuple #[]) a0)) (qp (d==6) (qU 2 (c.add 7) w (fun c0=>q9 P 20 [(Value.pointer e),(Value.agg c0)] w (fun d0 e0=>∃ (f0:OA) (g0 h0:Nat),d0=(.slice f0 g0 h0)/\K (Value.tuple #[]) e0))) (qp (d==7) (q9 P 31 [(Value.pointer e)] w (fun i0 j0=>i0=(.tuple #[])/\K (Value.tuple #[]) j0)) (K (Value.tuple #[]) w)))))):=Eq.trans (b:=CS P (cA c32 7) none [] [] (Qs K) (qi.mk 39 [(6,(Value.int .u8 d)),(5,(Value.int .u8 f)),(4,(VP (some g))),(3,(VP (some c))),(0,(VP e)),(1,(Value.agg h))] []) w) kr (Eq.trans (Zc 0 [] (qwi K) kr) (Eq.trans (qZ [7,3,0,6] (qKq K) kr) kr))
theorem qpz:qx3 c d e w K=(∃ f:Int,w.cell? c=some (.int .u8 f)/\(10:Int)≠0/\quF (f.tmod 10) f c c d e w K):=Eq.trans (b:=CS P (cA c32 3) none [] [] (Qs K) (qi.mk 39 [(3,(VP (some c))),(0,(VP d)),(1,(Value.agg e))] []) w) kr (Eq.trans (qZ [3,0,6] (qFV K) kr) kr)
theorem qqD:qxw d c w K=(qv c 67 w (fun e f=>qx3 (Addr.mk e 0 none) d c f K)):=Eq.trans (b:=CS P (cA c32 1) none [] [] (Qs K) (qi.mk 39 [(0,(VP d)),(1,(Value.agg c))] []) w) kr (Eq.trans (qZ [3,0] (qHq K) kr) kr)
theorem qJp:f32 a b w K=(qxw a b w K):=kr
theorem qJR a b w K(h:f32 a b w K):q9 P 32 [(Value.pointer a),(Value.agg b)] w K:=qA c32 Tryz.func32 h
def Jj:=qm Tryz.f25
def qNr:=Tryz.f25.results.toList
abbrev vw K:=qr P qNr K
def f25 a b c d w K:=CS P Jj none [4,5] [4,5] (vw K) (qz 33 [(Value.agg a),(VS b c d)]) w
def qv8 a b c d w K:=SC Jj 1 [4,5] [4,5] (vw K) 33 [(0,Value.agg a),(1,VS b c d)] w
abbrev qHT K:=kq Jj 1 [4,5] [4,5] (vw K)
def quE a b c d e f w K:=SC Jj 3 [4,5] [4,5] (vw K) 33 [(5,VB false),(4,VP a),(2,VQ b),(0,Value.agg c),(1,VS d e f)] w
abbrev qIn K:=kq Jj 3 [4,5] [4,5] (vw K)
def qtR a b c d e f g h i j k l m n o w K:=SC Jj 7 [4,5] [4,5] (vw K) 33 [(7,VI a),(6,VP b),(13,VI c),(12,VP d),(9,(Value.tuple #[(VP e),(VI f)])),(11,(Value.tuple #[(VP g),(VI h)])),(10,Value.agg i),(5,VB false),(4,VP j),(2,VQ k),(0,Value.agg l),(1,VS m n o)] w
abbrev qfZ K:=kq Jj 7 [4,5] [4,5] (vw K)
abbrev qGI K:=kq Jj 14 [1,6,4,5] [4,5] (qfZ K)
def qeK a b c d f g h w K:=SG Jj 29 [1,6,4,5] [4,5] (qfZ K) 33 [(19,VB a),(1,VS b c d),(6,VP f),(4,VP g),(5,VB h)] w
def quD a b c d f g w K:=SG Jj 15 [4,5] [4,5] (vw K) 33 [(1,VS a b c),(6,VP d),(4,VP f),(5,VB g)] w
abbrev q21 K:=kq Jj 15 [4,5] [4,5] (vw K)
abbrev qKb K:=kq Jj 30 [6] [4,5] (q21 K)
def qsl a b c d e f g w K:=SC Jj 61 [6] [4,5] (q21 K) 33 [(8,VI a),(1,VS b c d),(6,VP e),(4,VP f),(5,VB g)] w
abbrev qe2 K:=qo 0 (q21 K)
def qE7 K Y6 e w:=zt (fun e w=>CS P (cA Jj 244) none [8,1,6,4,5] [4,5,6] (qu [8,1,6,4,5] Y6 (qe2 K)) e w) e w
abbrev Jd K Y6:=qu [8,1,6,4,5] Y6 (qe2 K)
def qmC a b c d f g h w K Y6:=SG Jj 244 [8,1,6,4,5] [4,5,6] (Jd K Y6) 33 [(8,VI a),(1,VS b c d),(6,VP f),(4,VP g),(5,VB h)] w
abbrev qxn K Y6:=kq Jj 244 [8,1,6,4,5] [4,5,6] (Jd K Y6)
abbrev qJ5 K Y6:=kq Jj 488 [1,6,4,5,8] [4,5,6] (qxn K Y6)
def qxM a b c d f g h w K Y6:=SG Jj 489 [8,1,6,4,5] [4,5,6] (Jd K Y6) 33 [(1,VS a b c),(6,VP d),(4,VP f),(5,VB g),(8,VI h)] w
abbrev qj1 K Y6:=kq Jj 489 [8,1,6,4,5] [4,5,6] (Jd K Y6)
abbrev qz1 K Y6:=qo 1 (qj1 K Y6)
def qsV a b c d f g h w K Y6:=SG Jj 979 [8,1,6,4,5] [4,5,6] (Jd K Y6) 33 [(1,VS a b c),(6,VP d),(4,VP f),(5,VB g),(8,VI h)] w
theorem qpn:qsV a c d e f g h w K Y6=(Y6 (qi.mk 33 [(8,(Value.int .i64 (IntKind.wrap .i64 (h+1)))),(1,(Value.slice a c d)),(6,(Value.pointer e)),(4,(Value.pointer f)),(5,(Value.bool g))] []) w):=qB kr
theorem qri:qxM d e g f h i c w K Y6=(qh d (fun j=>0<=c/\c<(e:Nat)/\qU 9 (j.add (Int.toNat c*9)) w (fun k=>q9 P 32 [(Value.pointer f),(Value.agg k)] w (fun l m=>l=(.tuple #[])/\qsV d e g f h i c m K Y6)))):=qB (qG [1,6,4,5,8] (qj1 K Y6) (Q8 1 [4,5,6,1,8] (qz1 K Y6) kr))
def qx9 a w K:=SG Jj 31 [4,5] [4,5] (vw K) 33 [(6,VP a)] w
abbrev qBP K:=kq Jj 31 [4,5] [4,5] (vw K)
theorem qpM:qx9 c w K=(K (Value.tuple #[(Value.pointer c),(Value.bool true)]) w):=qB (qG [4,5] (qBP K) kr)
theorem qiC:qmC c f d g e h i w K Y6=(qp (decide (c<((d:Nat):Int))) (qxM f d g e h i c w K Y6) (qx9 e w K)):=qB (qG [1,6,4,5,8] (qxn K Y6) (qG [23,1,6,4,5,8] (qJ5 K Y6) kr))
theorem qrI:qsl a c d e f g h w K=(qK (qE7 K) (qi.mk 33 [(8,(Value.int .i64 a)),(1,(Value.slice c d e)),(6,(Value.pointer f)),(4,(Value.pointer g)),(5,(Value.bool h))] []) w):=Eq.trans (b:=CS P (cA Jj 61) none [6] [4,5] (q21 K) (qi.mk 33 [(8,(VI a)),(1,(VS c d e)),(6,(VP f)),(4,(VP g)),(5,(VB h))] []) w) kr (Eq.trans (Zc 0 [4,5,6] (qe2 K) kr) ((qS (b:=(cA Jj 244)) (X':=[4,5,6]) (H:=[8,1,6,4,5]) kr kr kr).trans kr))
theorem qqe:quD c d e f g h w K=(qsl 0 c d e f g h w K):=qB (qG [6] (q21 K) (qG [8,1,6,4,5] (qKb K) kr))
theorem q4V:qeK a c d e f g h w K=(qp a (K (Value.tuple #[(Value.pointer none),(Value.bool false)]) w) (quD c d e f g h w K)):=qB kr
theorem q4x:qtR h c i j k l m n o d p q e f g w K=(qp (h != 0) (qeK true e f g c d false w K) (qeK c.isNone e f g c d false w K)):=Eq.trans (b:=CS P (cA Jj 7) none [4,5] [4,5] (vw K) (qi.mk 33 [(7,(VI h)),(6,(VP c)),(13,(VI i)),(12,(VP j)),(9,(Value.tuple #[(VP k),(VI l)])),(11,(Value.tuple #[(VP m),(VI n)])),(10,(Value.agg o)),(5,(VB false)),(4,(VP d)),(2,(VP (some p))),(0,(Value.agg q)),(1,(VS e f g))] []) w) kr (Eq.trans (qZ [1,6,4,5] (qfZ K) kr) (Eq.trans (qZ [19,1,6,4,5] (qGI K) kr) kr))
theorem qr0:quE f c g h i j w K=(qU 3 c w (fun k=>q9 P 16 [(Value.agg k)] w (fun l m=>∃ d:Option Addr,∃ e:Int,l=(.tuple #[(Value.pointer d),(Value.int .i64 e)])/\qtR e d e d d e d e k f c g h i j m K))):=Eq.trans (b:=CS P (cA Jj 3) none [4,5] [4,5] (vw K) (qi.mk 33 [(5,(VB false)),(4,(VP f)),(2,(VP (some c))),(0,(Value.agg g)),(1,(VS h i j))] []) w) kr (Eq.trans (qZ [1,6,4,5,7] (qIn K) kr) kr)
theorem qqo:qv8 c d e f w K=(qv c 27 w (fun g h=>quE none (Addr.mk g 0 none) c d e f h K)):=Eq.trans (b:=CS P (cA Jj 1) none [4,5] [4,5] (vw K) (qi.mk 33 [(0,(Value.agg c)),(1,(VS d e f))] []) w) kr (Eq.trans (qZ [1,4,5,2] (qHT K) kr) kr)
theorem qIz:f25 a b c d w K=(qv8 a b c d w K):=kr
theorem qK8 a b c d w K(h:f25 a b c d w K):q9 P 25 [(Value.agg a),(Value.slice b c d)] w K:=qA Jj Tryz.func25 h
end Go.Fx.Tryz
namespace Go.Fx.Tryz
open Go Go.Fx Go.Fx.Ch
open Go.Proofs
set_option linter.all false
set_option maxRecDepth 20000
structure yr where
 kd:Int
 tat:Int
 sa:Option Addr
 sl:Nat
 sc:Nat
 ca:Option Addr
 cl:Nat
 cc:Nat
 at_:Int
 id:Int
 slot:Int
 s1:Int
 s2:Int
 sp:List (Int × Int)
 code:List Int
def yr.cs(a:yr):List Value:=[.int .u8 a.kd,U a.tat,.slice a.sa a.sl a.sc,.slice a.ca a.cl a.cc,U a.at_,U a.id,J a.slot,U a.s1,J a.s2]
def yr.tr(a:yr):TR:=⟨a.tat,a.sp,a.code⟩
def vz(a:yr):Bool:=decide (a.cl<=5000)&&decide (a.sl<=200)
def q3Y(l:List yr)(m:Nat):Bool:=decide (l.length<=m)&&l.all vz
structure q39 (w0:World) (H:qE) (a:yr):Prop where
 kd:0<=a.kd/\a.kd<256
 tat:j9 a.tat
 at_:j9 a.at_
 tr:vz a=true->a.sp.length=a.sl/\a.code.length=a.cl/\jZ w0 H (.slice a.sa a.sl a.sc) a.sp/\yl w0 H (.slice a.ca a.cl a.cc) a.code
structure QQ (w0:World) (H:qE) (ov:Value) (l:List yr):Prop where
 row:∀ w',St w0 w' H->vn w' 9 ov l.length (l.map yr.cs).flatten
 each:∀ a∈l,q39 w0 H a
 len:l.length<9223372036854775808
inductive q2q (s:qd) (a:yr):qd->Prop
 | put {gone:List Int} {s1:qd}:a.kd % 10=0->yv s a.tr=0->yg a.tr.code.length s gone s1->q2q s a (zR s1 a.tr)
 | putNo:a.kd % 10=0->yv s a.tr≠0->q2q s a s
 | chain:a.kd % 10=4->q2q s a (zJ s a.id a.slot).1
 | unchain:a.kd % 10=5->q2q s a (zq s a.id a.slot).1
 | drop {s':qd}:a.kd % 10=6->zp s (jX s (a.s1,a.s2)) s'->q2q s a { s' with dr:=s'.dr+(jX s (a.s1,a.s2)).length }
 | flush {s':qd}:a.kd % 10=7->zp s (vF s) s'->q2q s a { s' with dr:=s'.dr+(vF s).length }
 | other:a.kd % 10≠0->a.kd % 10≠4->a.kd % 10≠5->a.kd % 10≠6->a.kd % 10≠7->q2q s a s
variable {w0 w:World} {H X:qE} {K:KT} {s:qd} {L:qQ} {q:LB} {R:Int->TR->Prop}
theorem vn.elem{α:Type}{f:α->List Value}{m:Nat}(hf:∀ x,(f x).length=m){l:List α}{a:Addr}{n c:Nat}(hn:l.length=n)(h:vn w m (.slice (some a) n c) n (l.map f).flatten){i:Nat}(hi:i<l.length){j:Nat}(hj:j<m):w.cell? ((a.add (i*m)).add j)=(f l[i])[j]?:=by
 subst hn
 rcases h.2 with⟨h1,_⟩ | ⟨a',c',h1,h2⟩
 ·cases h1
 ·cases h1
  have hle:i*m+m<=l.length*m:=by rw[<-Nat.succ_mul];exact Nat.mul_le_mul_right _ hi
  rw[jk,h2 _ om]
  have:=congrArg (fun x=>x[j]?) (v7 f m hf l hi)
  simp only[List.getElem?_take,hj,if_true,List.getElem?_drop]at this
  exact this
theorem vn.whole{α:Type}{f:α->List Value}{m:Nat}(hf:∀ x,(f x).length=m){l:List α}{a:Addr}{n c:Nat}(hn:l.length=n)(h:vn w m (.slice (some a) n c) n (l.map f).flatten){i:Nat}(hi:i<l.length){Q:Array Value->Prop}(hQ:Q (f l[i]).toArray):qU m (a.add (i*m)) w Q:=by
 refine⟨_,by rw[List.size_toArray];exact hf _,fun j hj=>?_,hQ⟩
 rw[vn.elem hf hn h hi hj]
 simp
theorem vn.part{α:Type}{f:α->List Value}{m:Nat}(hf:∀ x,(f x).length=m){l:List α}{a:Addr}{n c:Nat}(hn:l.length=n)(h:vn w m (.slice (some a) n c) n (l.map f).flatten){i:Nat}(hi:i<l.length){off k:Nat}(hk:off+k<=m){Q:Array Value->Prop}(hQ:Q (((f l[i]).drop off).take k).toArray):qU k ((a.add (i*m)).add off) w Q:=by
 refine⟨_,?_,fun j hj=>?_,hQ⟩
 ·rw[List.size_toArray,List.length_take,List.length_drop,hf];omega
 ·rw[jk,vn.elem hf hn h hi om]
  simp[hj]
theorem QQ.ptr{aa:Option Addr}{ac:Nat}{l:List yr}(h:QQ w0 H (.slice aa l.length ac) l){i:Nat}(hi:i<l.length)(hw:St w0 w H):∃ ad,aa=some ad:=by
 rcases(h.row w hw).2 with⟨_,h2⟩ | ⟨a,c,h1,_⟩
 ·omega
 ·injection h1 with h1 _ _;exact⟨a,h1⟩
theorem qHz{aa:Option Addr}{ac m:Nat}{l:List yr}(h:St w0 w (X++H))(hX:qF w0 X)(hl:QQ w0 H (.slice aa l.length ac) l)(hK:∀ w',St w0 w' (X++H)->K (.bool (q3Y l m)) w'):q9 P 24 [.slice aa l.length ac,J m] w K:=by
 refine qKh _ _ _ _ _ _ ?_
 rw[qGi,qpi,qqU,qg]
 refine⟨fun hb=>?_,fun hb=>?_⟩
 ·have hb:=of_decide_eq_true hb
  have e:q3Y l m=false:=by unfold q3Y;rw[decide_eq_false om,Bool.false_and]
  rw[e]at hK;exact hK w h
 have hb:=of_decide_eq_false hb
 have hm:decide (l.length<=m)=true:=decide_eq_true om
 have hlen:=hl.len
 rw[qpT,qpc]
 refine⟨fun n e' w'=>∃ i:Nat,i<=l.length/\n=l.length-i/\e'=qi.mk 23 [(5,J i),(0,.slice aa l.length ac),(4,.bool false)] []/\(l.take i).all vz=true/\St w0 w' (X++H),⟨_,0,by omega,rfl,rfl,rfl,h⟩,?_⟩
 rintro n e' w1 ⟨i,hi,rfl,rfl,hall,hs⟩
 show qoC ..
 rw[qeq,qg]
 refine⟨fun hlt=>?_,fun hge=>?_⟩
 ·have hlt:=of_decide_eq_true hlt
  have hi:i<l.length:=by omega
  have hs0:=hs.sub hX
  obtain⟨ad,rfl⟩:=hl.ptr hi hs0
  rw[qrd]
  refine⟨by omega,by omega,?_⟩
  rw[Int.toNat_natCast]
  refine vn.part (f:=yr.cs) (m:=9) (fun _=>rfl) rfl (hl.row w1 hs0) hi om ?_
  refine qBn (a:=U l[i].tat) (sa:=l[i].sa) (sl:=l[i].sl) (sc:=l[i].sc) (ca:=l[i].ca) (cl:=l[i].cl) (cc:=l[i].cc) hs fun w2 h2=>⟨_,rfl,?_⟩
  have htake:(l.take (i+1)).all vz=vz l[i]:=by
   rw[List.take_succ_eq_append_getElem hi,List.all_append,hall,Bool.true_and];simp
  rw[qg]
  refine⟨fun hn=>?_,fun hn=>?_⟩
  ·have hn:vz l[i]=false:=by rw[Bool.not_eq_true']at hn;exact hn
   have e:q3Y l m=false:=by
    unfold q3Y
    rw[List.all_eq_false.2 ⟨l[i],List.getElem_mem hi,by rw[hn];decide⟩,Bool.and_false]
   rw[e]at hK;exact hK w2 h2
  ·have hn:vz l[i]=true:=by rw[Bool.not_eq_false']at hn;exact hn
   rw[qrT]
   refine⟨_,?_,i+1,by omega,rfl,?_,by rw[htake];exact hn,h2⟩
   ·omega
   ·rw[qc om om];rfl
 ·have hge:=of_decide_eq_false hge
  have hin:i=l.length:=by omega
  subst hin
  rw[List.take_length]at hall
  rw[qr9]
  have e:q3Y l m=true:=by unfold q3Y;rw[hm,hall];rfl
  rw[e]at hK;exact hK w1 hs
theorem jZ.more{ov:Value}{l:List SP}(h:jZ w0 H ov l)(hX:qF w0 X):jZ w0 (X++H) ov l:=⟨fun w' h'=>h.row w' (h'.sub hX),h.len⟩
theorem yl.more{ov:Value}{l:List Int}(h:yl w0 H ov l)(hX:qF w0 X):yl w0 (X++H) ov l:=⟨fun w' h'=>h.row w' (h'.sub hX),h.byte,h.len,h.cap⟩
theorem qix{l:List yr}{m:Nat}(h:q3Y l m=true):l.length<=m/\∀ a∈l,vz a=true:=by
 unfold q3Y at h
 rw[Bool.and_eq_true]at h
 exact⟨of_decide_eq_true h.1,fun a ha=>List.all_eq_true.1 h.2 a ha⟩
theorem qGq{a:yr}(ha:q39 w0 H a)(hlt:vz a=true)(hR:yH R)(hb:qR s)(hq:QR R s)(hL:L.Ok w0 q s)(hg:zA H)(hX:qF w0 X)(h:St w0 w (L.bl q s++(X++H)))
  (hK:∀ (w':World) (s':qd) (L':qQ) (X':qE),q2q s a s'->L'.Ok w0 q s'->qF w0 X'->St w0 w' (L'.bl q s'++(X'++H))->K (.tuple [].toArray) w'):q9 P 32 [.pointer (some ⟨q.cb,0,none⟩),.agg a.cs.toArray] w K:=by
 refine qJR _ _ _ _ ?_
 rw[qJp,qqD]
 refine h.newC fun n4 w5 hn4 h5=>?_
 have h5:St w0 w5 ((n4,Cs a.cs 67)::(L.bl q s++(X++H))):=h5
 have h6:St w0 w5 (L.bl q s++(((n4,Cs a.cs 67)::X)++H)):=h5.perm (qn fun c=>by simp only[List.map_append,List.map_cons,List.sum_append,List.sum_cons];omega)
 have hX2:qF w0 ((n4,Cs a.cs 67)::X):=fun v hv=>by
  rcases List.mem_cons.1 hv with rfl | hv
  ·exact hn4
  ·exact hX v hv
 have hg2:zA (((n4,Cs a.cs 67)::X)++H):=hg.mono fun u hu=>List.mem_append_right _ hu
 have hkd:=ha.kd
 have e10:a.kd.tmod 10=a.kd % 10:=Int.tmod_eq_emod_of_nonneg hkd.1
 rw[qpz]
 refine⟨a.kd,h5.cell (k:=0) rfl,by decide,?_⟩
 rw[qpH,e10]
 obtain⟨hsl,hcl,hS,hB⟩:=ha.tr hlt
 have hsum:=hb.sum
 have hev:=hb.ev
 have hdr:=hb.dr
 have hgv:=hb.given
 have hfew:=hb.few
 have hput:∀ {w':World} {s':qd} {L':qQ} {X':qE},q2q s a s'->L'.Ok w0 q s'->qF w0 X'->St w0 w' (X'++(L'.bl q s'++(((n4,Cs a.cs 67)::X)++H)))->K (.tuple [].toArray) w':=fun {w' s' L' X'} h1 h2 h3 h4=>
  hK w' s' L' (X'++((n4,Cs a.cs 67)::X)) h1 h2 (qF.append h3 hX2) (h4.perm (qn fun c=>by simp only[List.map_append,List.map_cons,List.sum_append,List.sum_cons];omega))
 rw[qg]
 refine⟨fun h0=>?_,fun h0=>?_⟩
 ·have h0:a.kd % 10=0:=by simpa using h0
  refine⟨#[U a.tat,.slice a.sa a.sl a.sc,.slice a.ca a.cl a.cc],rfl,fun i hi=>?_,?_⟩
  ·rw[qa,qa,h5.cell (k:=0) rfl]
   have:i=0\/i=1\/i=2:=by omega
   rcases this with rfl | rfl | rfl<;>rfl
  refine qiS (t:=a.tr) (sv:=.slice a.sa a.sl a.sc) (cv:=.slice a.ca a.cl a.cc) h6 hL hg2 (hS.more hX2) (hB.more hX2) ha.tat om hgv (fun he=>?_) (fun he w' hs'=>?_) (fun he w' L' gone s1 ov N hE hok hSl hN hs'=>?_)
  ·obtain⟨_,_,_,hlen,_⟩:=q4F he
   exact⟨_,hb.evR (q1f hR) hq hlen⟩
  ·exact⟨_,_,_,_,_,rfl,hK w' s L ((n4,Cs a.cs 67)::X) (.putNo h0 he) hL hX2 hs'⟩
  ·obtain⟨oa,oc,e⟩:=hSl.form
   subst e
   exact⟨_,_,_,_,_,rfl,hput (.put h0 he hE) hok hN hs'⟩
 ·have h0:a.kd % 10≠0:=by simpa using h0
  rw[qg]
  refine⟨fun h1=>?_,fun h1=>?_⟩
  ·have h1:a.kd % 10=4:=by simpa using h1
   refine⟨a.id,by rw[qa,h5.cell (k:=0) rfl];rfl,a.slot,by rw[qa,h5.cell (k:=0) rfl];rfl,?_⟩
   exact Vl (id:=a.id) (slot:=a.slot) h6 hL hg2 hb.fit.table fun w' L' hok hs'=>⟨_,_,rfl,hK w' _ L' _ (.chain h1) hok hX2 hs'⟩
  ·have h1:a.kd % 10≠4:=by simpa using h1
   rw[qg]
   refine⟨fun h2=>?_,fun h2=>?_⟩
   ·have h2:a.kd % 10=5:=by simpa using h2
    refine⟨a.id,by rw[qa,h5.cell (k:=0) rfl];rfl,a.slot,by rw[qa,h5.cell (k:=0) rfl];rfl,?_⟩
    exact qgA (id:=a.id) (slot:=a.slot) h6 hL hg2 fun w' L' hok hs'=>⟨_,rfl,hK w' _ L' _ (.unchain h2) hok hX2 hs'⟩
   ·have h2:a.kd % 10≠5:=by simpa using h2
    rw[qg]
    refine⟨fun h3=>?_,fun h3=>?_⟩
    ·have h3:a.kd % 10=6:=by simpa using h3
     refine⟨#[U a.s1,J a.s2],rfl,fun i hi=>?_,?_⟩
     ·rw[qa,qa,h5.cell (k:=0) rfl]
      have:i=0\/i=1:=by omega
      rcases this with rfl | rfl<;>rfl
     refine qlF (r:=(a.s1,a.s2)) h6 hL hg2 om hdr om fun w' L' s' ov N hF hok hSl hN hs'=>?_
     obtain⟨oa,oc,e⟩:=hSl.form
     subst e
     exact⟨_,_,_,rfl,hput (.drop h3 hF) hok hN hs'⟩
    ·have h3:a.kd % 10≠6:=by simpa using h3
     rw[qg]
     refine⟨fun h4=>?_,fun h4=>?_⟩
     ·have h4:a.kd % 10=7:=by simpa using h4
      exact qvZ h6 hL hg2 om hdr om fun w' L' s' hF hok hs'=>⟨rfl,hK w' _ L' _ (.flush h4 hF) hok hX2 hs'⟩
     ·have h4:a.kd % 10≠7:=by simpa using h4
      exact hK w5 s L _ (.other h0 h1 h2 h3 h4) hL hX2 h6
end Go.Fx.Tryz
namespace Go.Fx.Tryz
open Go Go.Fx Go.Fx.Ch
open Go.Proofs
open Go.ChangeShapes Go.WideShapes Go.ChangeAt Go.RowKit
set_option linter.all false
set_option maxRecDepth 100000
variable {H:Type} {enc:TypeId × Value->H} {W:World}
theorem Jx{α:Type} [Inhabited α] {f:α->List Value} {Q:α->Prop} {t e:TypeId} {m:Nat} {base:Nat} {spare:Nat->Bool} {held:Bool} (ht:P.underlying t=some (.slice e)) (hc:P.cellsOf e=m) (hm:∀ a,(f a).length=m) (hpos:0<m)
  (hel:∀ {fuel:Nat} {cs:List Value} {x:DataW H × List MemPlace},DataW.trod enc P W base spare held fuel e cs=some x->∃ a,cs=f a/\Q a) {v:Value} {fuel:Nat} {x:DataW H × List MemPlace} (h:DataW.trod enc P W base spare held fuel t [v]=some x) :
  ∃ l:List α,vn W m v l.length (l.map f).flatten/\(∀ a∈l,Q a)/\l.length<=maxLen/\∃ a n c,v=.slice a n c/\n<=c:=by
 rcases Deep.open_slice ht h with⟨hcs,_⟩ | ⟨a,len,cap,mm,n,D,Pl,hcs,_,hle,hcm,hmm,_,hall⟩
 ·have hv:v=.slice none 0 0:=by simpa using hcs
  exact⟨[],⟨by simp,.inl ⟨hv,rfl⟩⟩,by simp,Nat.zero_le _,none,0,0,hv,Nat.le_refl _⟩
 ·have hv:v=.slice (some a) len cap:=by simpa using hcs
  have hlm:len<=mm:=by rw[hmm];split<;>omega
  obtain⟨E,hE⟩:=Deep.choose_lt (α:=α) (n:=len) (p:=fun i e=>Q e/\∀ j,j<m->W.cell? (a.add (i*m+j))=(f e)[j]?) (fun i hi=>by
   obtain⟨cs',h1,h2⟩:=hall i om
   obtain⟨e,rfl,he⟩:=hel h2
   rw[hc]at h1
   obtain⟨_,_,h3⟩:=World.cells?_some h1
   exact⟨e,he,fun j hj=>by rw[<-h3 j hj,jk]⟩)
  have hlen:((List.range len).map E).length=len:=by simp
  refine⟨(List.range len).map E,⟨?_,.inr ⟨a,cap,by rw[hlen];exact hv,fun i hi=>?_⟩⟩,fun y hy=>?_,by rw[hlen];omega,some a,len,cap,hv,hle⟩
  ·generalize (List.range len).map E=l
   induction l with
   | nil=>simp
   | cons y l ih=>
    simp only[List.map_cons,List.flatten_cons,List.length_append,List.length_cons,ih,hm,Nat.add_mul]
    omega
  ·rw[hlen]at hi
   have hq:i / m<len:=Nat.div_lt_of_lt_mul (by rw[Nat.mul_comm];exact hi)
   have hr:i % m<m:=Nat.mod_lt _ hpos
   have h1:=(hE (i / m) hq).2 (i % m) hr
   have e1:i / m*m+i % m=i:=Nat.div_add_mod' i m
   rw[e1]at h1
   have h2:=congrArg (fun l=>l[i % m]?) (v7 f m hm ((List.range len).map E) (i:=i / m) (by rw[hlen];exact hq))
   simp only[List.getElem?_take,hr,if_true,List.getElem?_drop,e1]at h2
   rw[h1,h2]
   simp
  ·obtain⟨i,hi,rfl⟩:=List.mem_map.1 hy
   exact(hE i (List.mem_range.1 hi)).1
theorem q6c:P.cellsOf 36=2:=kr
theorem qkj:P.cellsOf 5=1:=kr
theorem qkA:P.cellsOf 67=9:=kr
theorem qBI:P.cellsOf 41=3:=kr
theorem q7h:P.cellsOf 3=1:=kr
theorem qCr:P.cellsOf 37=1:=kr
theorem qAS:P.cellsOf 38=1:=kr
theorem qEr:P.cellsOf 27=3:=kr
section
variable {base:Nat} {spare:Nat->Bool} {held:Bool} {fuel:Nat} {x:DataW H × List MemPlace}
theorem q4N{cs:List Value}(h:DataW.trod enc P W base spare held fuel 36 cs=some x):∃ r:SP,cs=QN r/\j9 r.1:=by
 obtain⟨xs,n,_,_,hl,hlen,hf⟩:=DataW.trod_struct Tryz.underlying36 h
 rw[q6c]at hl
 match cs,hl with
 | [c0,c1],_=>
 have hx:∀ i,i<2->∃ y,xs[i]?=some y:=fun i hi=>⟨xs[i]'(by rw[hlen];exact hi),List.getElem?_eq_getElem _⟩
 obtain⟨y0,e0⟩:=hx 0 om
 obtain⟨y1,e1⟩:=hx 1 om
 obtain⟨k0,g0,_,w0⟩:=DataW.trod_int Tryz.underlying24 ((hf 0 _ rfl).trans e0)
 obtain⟨k1,g1,_⟩:=DataW.trod_int Tryz.underlying3 ((hf 1 _ rfl).trans e1)
 simp[q0y,q7h]at g0 g1
 subst g0 g1
 exact⟨(k0,k1),rfl,q3N w0⟩
theorem qoY{cs:List Value}(h:DataW.trod enc P W base spare held fuel 5 cs=some x):∃ b:Int,cs=[B b]/\(0<=b/\b<256):=by
 obtain⟨k,g,_,w⟩:=DataW.trod_int Tryz.underlying5 h
 exact⟨k,g,qFM w⟩
theorem qw3(l:List Int):(l.map fun b=>[B b]).flatten=l.map B:=by
 induction l with
 | nil=>rfl
 | cons b l ih=>simp only[List.map_cons,List.flatten_cons,ih];rfl
structure qL5 (W:World) (sv cv:Value) (sp:List SP) (code:List Int):Prop where
 rsp:vn W 2 sv sp.length (sp.map QN).flatten
 rcode:vn W 1 cv code.length (code.map B)
 byte:∀ b∈code,0<=b/\b<256
 cap:∀ a n c,cv=.slice a n c->n<=c
theorem qEf{a1 a2 a3:Value}(h:DataW.trod enc P W base spare held fuel 41 [a1,a2,a3]=some x):∃ (at_:Int) (sa ca:Option Addr) (sc cc:Nat) (sp:List SP) (code:List Int),a1=U at_/\a2=.slice sa sp.length sc/\a3=.slice ca code.length cc/\j9 at_/\qL5 W (.slice sa sp.length sc) (.slice ca code.length cc) sp code:=by
 obtain⟨xs2,m2,_,_,_,hxs2,hf2⟩:=DataW.trod_struct Tryz.underlying41 h
 have hx2:∀ i,i<3->∃ y,xs2[i]?=some y:=fun i hi=>⟨xs2[i]'(by rw[hxs2];exact hi),List.getElem?_eq_getElem _⟩
 obtain⟨z0,q0⟩:=hx2 0 om
 obtain⟨z1,q1⟩:=hx2 1 om
 obtain⟨z2,q2⟩:=hx2 2 om
 have r0:DataW.trod enc P W base spare held m2 24 (([a1,a2,a3].drop 0).take (P.cellsOf 24))=some z0:=(hf2 0 _ rfl).trans q0
 rw[q0y]at r0
 have r1:DataW.trod enc P W base spare held m2 37 (([a1,a2,a3].drop 1).take (P.cellsOf 37))=some z1:=(hf2 1 _ rfl).trans q1
 rw[qCr]at r1
 have r2:DataW.trod enc P W base spare held m2 38 (([a1,a2,a3].drop 2).take (P.cellsOf 38))=some z2:=(hf2 2 _ rfl).trans q2
 rw[qAS]at r2
 have r0:DataW.trod enc P W base spare held m2 24 [a1]=some z0:=r0
 have r1:DataW.trod enc P W base spare held m2 37 [a2]=some z1:=r1
 have r2:DataW.trod enc P W base spare held m2 38 [a3]=some z2:=r2
 obtain⟨k1,g1,_,w1⟩:=DataW.trod_int Tryz.underlying24 r0
 simp only[List.cons.injEq,and_true]at g1
 obtain⟨sp,hsp,_,_,sa,sn,sc,e2,_⟩:=Jx (f:=QN) (Q:=fun _=>True) Tryz.underlying37 q6c q5Q om (fun h=>by obtain⟨r,h1,_⟩:=q4N h;exact⟨r,h1,trivial⟩) r1
 obtain⟨code,hcode,hb,_,ca,cn,cc,e3,hcc⟩:=Jx (f:=fun b:Int=>[B b]) (Q:=fun b=>0<=b/\b<256) Tryz.underlying38 qkj (fun _=>rfl) om (fun h=>qoY h) r2
 subst e2;subst e3
 obtain⟨_,_,e⟩:=hsp.form
 injection e with _ e _
 subst e
 obtain⟨_,_,e⟩:=hcode.form
 injection e with _ e _
 subst e
 rw[qw3]at hcode
 exact⟨k1,sa,ca,sc,cc,sp,code,g1,rfl,rfl,q3N w1,hsp,hcode,hb,fun a n c e=>by injection e with _ e1 e2;subst e1;subst e2;exact hcc⟩
structure q4M (W:World) (a:yr):Prop where
 kd:0<=a.kd/\a.kd<256
 tat:j9 a.tat
 at_:j9 a.at_
 s1:j9 a.s1
 id:j9 a.id
 sl:a.sp.length=a.sl
 cl:a.code.length=a.cl
 tr:qL5 W (.slice a.sa a.sl a.sc) (.slice a.ca a.cl a.cc) a.sp a.code
instance:Inhabited yr:=⟨⟨0,0,none,0,0,none,0,0,0,0,0,0,0,[],[]⟩⟩
theorem qv7{cs:List Value}(h:DataW.trod enc P W base spare held fuel 67 cs=some x):∃ a:yr,cs=a.cs/\q4M W a:=by
 obtain⟨xs,m,_,_,hl,hxs,hf⟩:=DataW.trod_struct Tryz.underlying67 h
 rw[qkA]at hl
 match cs,hl with
 | [a0,a1,a2,a3,a4,a5,a6,a7,a8],_=>
 have hx:∀ i,i<6->∃ y,xs[i]?=some y:=fun i hi=>⟨xs[i]'(by rw[hxs];exact hi),List.getElem?_eq_getElem _⟩
 obtain⟨y0,e0⟩:=hx 0 om
 obtain⟨y1,e1⟩:=hx 1 om
 obtain⟨y2,e2⟩:=hx 2 om
 obtain⟨y3,e3⟩:=hx 3 om
 obtain⟨y4,e4⟩:=hx 4 om
 obtain⟨y5,e5⟩:=hx 5 om
 have t0:DataW.trod enc P W base spare held m 5 (([a0,a1,a2,a3,a4,a5,a6,a7,a8].drop 0).take (P.cellsOf 5))=some y0:=(hf 0 _ rfl).trans e0
 rw[qkj]at t0
 have t1:DataW.trod enc P W base spare held m 41 (([a0,a1,a2,a3,a4,a5,a6,a7,a8].drop 1).take (P.cellsOf 41))=some y1:=(hf 1 _ rfl).trans e1
 rw[qBI]at t1
 have t2:DataW.trod enc P W base spare held m 24 (([a0,a1,a2,a3,a4,a5,a6,a7,a8].drop 4).take (P.cellsOf 24))=some y2:=(hf 2 _ rfl).trans e2
 rw[q0y]at t2
 have t3:DataW.trod enc P W base spare held m 24 (([a0,a1,a2,a3,a4,a5,a6,a7,a8].drop 5).take (P.cellsOf 24))=some y3:=(hf 3 _ rfl).trans e3
 rw[q0y]at t3
 have t4:DataW.trod enc P W base spare held m 3 (([a0,a1,a2,a3,a4,a5,a6,a7,a8].drop 6).take (P.cellsOf 3))=some y4:=(hf 4 _ rfl).trans e4
 rw[q7h]at t4
 have t5:DataW.trod enc P W base spare held m 36 (([a0,a1,a2,a3,a4,a5,a6,a7,a8].drop 7).take (P.cellsOf 36))=some y5:=(hf 5 _ rfl).trans e5
 rw[q6c]at t5
 have t0:DataW.trod enc P W base spare held m 5 [a0]=some y0:=t0
 have t1:DataW.trod enc P W base spare held m 41 [a1,a2,a3]=some y1:=t1
 have t2:DataW.trod enc P W base spare held m 24 [a4]=some y2:=t2
 have t3:DataW.trod enc P W base spare held m 24 [a5]=some y3:=t3
 have t4:DataW.trod enc P W base spare held m 3 [a6]=some y4:=t4
 have t5:DataW.trod enc P W base spare held m 36 [a7,a8]=some y5:=t5
 obtain⟨k0,g0,_,w0⟩:=DataW.trod_int Tryz.underlying5 t0
 obtain⟨at_,sa,ca,sc,cc,sp,code,b1,b2,b3,b4,b5⟩:=qEf t1
 obtain⟨k4,g4,_,w4⟩:=DataW.trod_int Tryz.underlying24 t2
 obtain⟨k5,g5,_,w5⟩:=DataW.trod_int Tryz.underlying24 t3
 obtain⟨k6,g6,_⟩:=DataW.trod_int Tryz.underlying3 t4
 obtain⟨r,g7,w7⟩:=q4N t5
 simp only[List.cons.injEq,and_true,QN]at g0 g4 g5 g6 g7
 refine⟨⟨k0,at_,sa,sp.length,sc,ca,code.length,cc,k4,k5,k6,r.1,r.2,sp,code⟩,?_,⟨qFM w0,b4,q3N w4,w7,q3N w5,rfl,rfl,b5⟩⟩
 unfold yr.cs
 rw[g0,b1,b2,b3,g4,g5,g6,g7.1,g7.2]
theorem yr.cs_len(a:yr):a.cs.length=9:=rfl
end
theorem qpP{base:Nat}{spare:Nat->Bool}{held:Bool}{v:Value}{d:DataW H}{p:List MemPlace}(hv:∃ a len cap,v=.slice a len cap)(h:DataW.Trod enc P W base spare held 50 v d p)(hu:P.underlying 50=some (.slice 67)) :
  ∃ l:List yr,vn W 9 v l.length (l.map yr.cs).flatten/\(∀ a∈l,q4M W a)/\l.length<=maxLen:=by
 obtain⟨fuel,hf⟩:=h
 obtain⟨a0,len0,cap0,rfl⟩:=hv
 obtain⟨l,h1,h2,h3,_⟩:=Jx (f:=yr.cs) (Q:=q4M W) hu qkA yr.cs_len om (fun h=>qv7 h) hf
 exact⟨l,h1,h2,h3⟩
theorem q4M.ok{X:qE}(hun:∀ w',St W w' X->St W w' []){a:yr}(h:q4M W a):q39 W X a:=by
 refine⟨h.kd,h.tat,h.at_,fun hl=>⟨h.sl,h.cl,⟨fun w' h'=>?_,?_⟩,⟨fun w' h'=>?_,h.tr.byte,?_,fun a n c e=>by have:=h.tr.cap a n c e;exact this⟩⟩⟩
 ·exact vn.old h.tr.rsp (qF.nil W) (hun w' h')
 ·unfold vz at hl
  rw[Bool.and_eq_true]at hl
  have:=of_decide_eq_true hl.2
  rw[h.sl];omega
 ·exact vn.old h.tr.rcode (qF.nil W) (hun w' h')
 ·unfold vz at hl
  rw[Bool.and_eq_true]at hl
  have:=of_decide_eq_true hl.1
  rw[h.cl];omega
theorem qD6{X:qE}(hun:∀ w',St W w' X->St W w' []){v:Value}{l:List yr}(hr:vn W 9 v l.length (l.map yr.cs).flatten)(ha:∀ a∈l,q4M W a)(hl:l.length<=maxLen):QQ W X v l:=
 ⟨fun w' h'=>vn.old hr (qF.nil W) (hun w' h'),fun a h=>(ha a h).ok hun,(by have h2:maxLen=9223372036854775807:=(by decide);omega)⟩
theorem qqE{base:Nat}{spare:Nat->Bool}{held:Bool}{v:Value}{d:DataW H}{p:List MemPlace}{r:Reach}{b0:Nat}(hval:Value.okWide P W r b0 27 v)(h:DataW.Trod enc P W base spare held 27 v d p):∃ sec len slots:Int,v=.agg #[J sec,J len,J slots]:=by
 obtain⟨cs0,rfl,hsz⟩:=okWide_struct Tryz.underlying27 hval
 obtain⟨fuel,hf⟩:=h
 obtain⟨xs,n,_,_,hl,hlen,hf⟩:=DataW.trod_struct (cs:=cs0.toList) Tryz.underlying27 hf
 rw[qEr]at hl
 match hc:cs0.toList,hl with
 | [c0,c1,c2],_=>
 rw[hc]at hf
 have hx:∀ i,i<3->∃ y,xs[i]?=some y:=fun i hi=>⟨xs[i]'(by rw[hlen];exact hi),List.getElem?_eq_getElem _⟩
 obtain⟨y0,e0⟩:=hx 0 om
 obtain⟨y1,e1⟩:=hx 1 om
 obtain⟨y2,e2⟩:=hx 2 om
 obtain⟨k0,g0,_⟩:=DataW.trod_int Tryz.underlying3 ((hf 0 _ rfl).trans e0)
 obtain⟨k1,g1,_⟩:=DataW.trod_int Tryz.underlying3 ((hf 1 _ rfl).trans e1)
 obtain⟨k2,g2,_⟩:=DataW.trod_int Tryz.underlying3 ((hf 2 _ rfl).trans e2)
 simp[q7h]at g0 g1 g2
 subst g0 g1 g2
 exact⟨k0,k1,k2,by rw[<-Array.toArray_toList (xs:=cs0),hc]⟩
theorem readable50:P.readableRec 50=true:=kr
theorem qEh:50<P.types.size:=of_decide_eq_true kr
theorem readable27:P.readableRec 27=true:=kr
theorem qEU:27<P.types.size:=of_decide_eq_true kr
end Go.Fx.Tryz
namespace Go.Fx.Ch
open Go.Fx.Tryz
set_option linter.all false
set_option maxRecDepth 100000
def yh(s:qd):List Int:=(s.rows.drop (s.cur+1)++s.rows.take (s.cur+1)).flatten
def zk(s:qd):Prop:=(yh s).Pairwise (· < ·)
theorem q0e{s s':qd}(p:Int->Bool)(h:s'.rows=s.rows.map fun r=>r.filter p)(hc:s'.cur=s.cur):yh s'=(yh s).filter p:=by
 unfold yh
 rw[h,hc,<-List.map_drop,<-List.map_take,<-List.map_append,ZB]
theorem q4H(s:qd):(yh s).Perm s.rows.flatten:=by
 unfold yh
 rw[List.flatten_append]
 refine(List.perm_append_comm).trans ?_
 rw[<-List.flatten_append,List.take_append_drop]
theorem zk.filter{s s':qd}(h:zk s)(p:Int->Bool)(hr:s'.rows=s.rows.map fun r=>r.filter p)(hc:s'.cur=s.cur):zk s':=by
 unfold zk
 rw[q0e p hr hc]
 exact List.Pairwise.filter _ h
theorem zk.same{s s':qd}(h:zk s)(hr:s'.rows=s.rows)(hc:s'.cur=s.cur):zk s':=by
 unfold zk yh
 rw[hr,hc];exact h
theorem qp6{s:qd}(hc:s.cur<s.rows.length):∃ T,yh s=(s.rows[(qy s).cur]?).getD []++T/\yh (qy s)=T++(s.rows[(qy s).cur]?).getD []:=by
 have hn:(qy s).cur=(s.cur+1) % s.rows.length:=rfl
 by_cases h:s.cur+1<s.rows.length
 ·have hm:(qy s).cur=s.cur+1:=by rw[hn,Nat.mod_eq_of_lt h]
  refine⟨(s.rows.drop (s.cur+2)++s.rows.take (s.cur+1)).flatten,?_,?_⟩
  ·unfold yh
   rw[hm,List.getElem?_eq_getElem h,List.drop_eq_getElem_cons h]
   simp only[List.cons_append,List.flatten_cons,List.flatten_append,Option.getD_some,List.append_assoc]
  ·unfold yh
   rw[hm,List.getElem?_eq_getElem h]
   show(s.rows.drop (s.cur+1+1)++s.rows.take (s.cur+1+1)).flatten=_
   rw[List.take_succ_eq_append_getElem h]
   simp only[List.flatten_append,List.flatten_cons,List.flatten_nil,List.append_nil,Option.getD_some,List.append_assoc]
 ·have he:s.cur+1=s.rows.length:=by omega
  have hm:(qy s).cur=0:=by rw[hn,he,Nat.mod_self]
  have h0:0<s.rows.length:=by omega
  refine⟨(s.rows.drop 1).flatten,?_,?_⟩
  ·unfold yh
   rw[hm,List.getElem?_eq_getElem h0,he,List.drop_length,List.take_length]
   have:=List.drop_eq_getElem_cons h0
   rw[List.drop_zero]at this
   rw[List.nil_append,Option.getD_some,<-List.flatten_cons,<-this]
  ·unfold yh
   rw[hm,List.getElem?_eq_getElem h0]
   show(s.rows.drop (0+1)++s.rows.take (0+1)).flatten=_
   rw[List.take_succ_eq_append_getElem h0]
   simp
theorem q7X{l:List Int}(h:l.Pairwise (· < ·)):zL l=l:=by
 unfold zL
 refine List.mergeSort_of_pairwise (h.imp fun hab=>?_)
 simp;omega
theorem qfL{s s2:qd}(hc:s.cur<s.rows.length)(ho:zk s)(hr:s2.rows=s.rows.map fun r=>r.filter fun n=>n ∉ zO (qy s))(hcu:s2.cur=(qy s).cur):yh s=zO (qy s)++yh s2/\zk s2:=by
 obtain⟨T,h1,h2⟩:=qp6 hc
 have hp:=ho
 unfold zk at hp
 rw[h1,List.pairwise_append]at hp
 obtain⟨p1,p2,p3⟩:=hp
 have hrow:zO (qy s)=(s.rows[(qy s).cur]?).getD []:=by
  show zL ((s.rows[(qy s).cur]?).getD [])=_
  exact q7X p1
 have hring:yh s2=T:=by
  have e:=q0e (s:=qy s) (s':=s2) (fun n=>n ∉ zO (qy s)) hr hcu
  rw[e,h2,hrow,List.filter_append]
  have e1:T.filter (fun n=>decide (n ∉ (s.rows[(qy s).cur]?).getD []))=T:=List.filter_eq_self.2 fun x hx=>by
   have:x ∉ (s.rows[(qy s).cur]?).getD []:=fun hm=>by have:=p3 x hm x hx;omega
   exact decide_eq_true this
  have e2:((s.rows[(qy s).cur]?).getD []).filter (fun n=>decide (n ∉ (s.rows[(qy s).cur]?).getD []))=[]:=List.filter_eq_nil_iff.2 fun x hx=>by simp[hx]
  rw[e1,e2,List.append_nil]
 refine⟨by rw[hring,hrow];exact h1,?_⟩
 unfold zk
 rw[hring];exact p2
variable {R:Int->TR->Prop}
theorem yg.ring{Q:qd->Prop}(hQ:q04 Q){n:Nat}{s s':qd}{gone:List Int}(h:yg n s gone s'):qR s->Q s->zk s->yh s=gone++yh s'/\zk s'/\∀ r∈s.rows,(∀ x∈r,x∈gone)\/∀ x∈r,x ∉ gone:=by
 induction h with
 | done _=>exact fun _ _ ho=>⟨rfl,ho,fun r _=>.inr fun x _ hx=>by cases hx⟩
 | @step s s2 s' gone hf hF _ ih=>
  intro hb hq ho
  obtain⟨a,b,c,d,e⟩:=hF.round hQ hb hq
  have hcf:=hF.conf
  obtain⟨r1,r2⟩:=qfL hb.cur ho c.rows hcf.2.2.1
  obtain⟨i1,i2,i3⟩:=ih a b (zk.same r2 rfl rfl)
  have hring2:yh { s2 with ev:=s2.ev+(zO (qy s)).length }=yh s2:=rfl
  refine⟨?_,i2,fun r hr=>?_⟩
  ·rw[r1,List.append_assoc,<-i1,hring2]
  ·obtain⟨i,hi,rfl⟩:=List.mem_iff_getElem.1 hr
   have hnx:=hb.next
   by_cases hic:i=(qy s).cur
   ·refine .inl fun x hx=>List.mem_append_left _ ?_
    have:zO (qy s)=zL s.rows[i]:=by
     unfold zO
     show zL ((s.rows[(qy s).cur]?).getD [])=_
     rw[<-hic,List.getElem?_eq_getElem hi];rfl
    rw[this]
    exact(zV _).mem_iff.2 hx
   ·have hdis:∀ x∈s.rows[i],x ∉ zO (qy s):=fun x hx hm=>by
     have hcl:(qy s).cur<s.rows.length:=hnx.cur
     have:zO (qy s)=zL s.rows[(qy s).cur]:=by
      unfold zO
      show zL ((s.rows[(qy s).cur]?).getD [])=_
      rw[List.getElem?_eq_getElem hcl];rfl
     rw[this]at hm
     have hm:=(zV _).mem_iff.1 hm
     have hn:s.rows.flatten.Nodup:=hb.rows.nodup_iff.2 hb.nd
     have hp:=(List.pairwise_flatten.1 hn).2
     rcases Nat.lt_or_gt_of_ne hic with hlt | hgt
     ·exact(List.pairwise_iff_getElem.1 hp i _ hi hcl hlt x hx x hm) rfl
     ·exact(List.pairwise_iff_getElem.1 hp _ i hcl hi hgt x hm x hx) rfl
    have hsame:s.rows[i].filter (fun n=>decide (n ∉ zO (qy s)))=s.rows[i]:=List.filter_eq_self.2 fun x hx=>decide_eq_true (hdis x hx)
    have hm2:s.rows[i]∈s2.rows:=by
     rw[c.rows]
     exact List.mem_map.2 ⟨s.rows[i],hr,hsame⟩
    rcases i3 _ hm2 with hall | hnone
    ·exact .inl fun x hx=>List.mem_append_right _ (hall x hx)
    ·exact .inr fun x hx hm=>(List.mem_append.1 hm).elim (hdis x hx) (hnone x hx)
theorem qvy{s:qd}(hc:s.cur<s.rows.length)(t:TR):yh (zR s t)=yh s++[s.given+1]:=by
 have e:(zR s t).rows=s.rows.modify s.cur fun r=>r++[s.given+1]:=rfl
 have ec:(zR s t).cur=s.cur:=rfl
 unfold yh
 rw[e,ec]
 have h1:(s.rows.modify s.cur fun r=>r++[s.given+1]).drop (s.cur+1)=s.rows.drop (s.cur+1):=by
  apply List.ext_getElem?
  intro i
  have hne:¬ s.cur=s.cur+1+i:=by omega
  rw[List.getElem?_drop,List.getElem?_drop,List.getElem?_modify]
  simp only[hne,if_false]
  cases s.rows[s.cur+1+i]?<;>rfl
 have h2:(s.rows.modify s.cur fun r=>r++[s.given+1]).take (s.cur+1)=s.rows.take s.cur++[s.rows[s.cur]++[s.given+1]]:=by
  have hl:s.cur<(s.rows.modify s.cur fun r=>r++[s.given+1]).length:=by rw[List.length_modify];exact hc
  rw[List.take_succ_eq_append_getElem hl]
  congr 1
  ·apply List.ext_getElem?
   intro i
   rw[List.getElem?_take,List.getElem?_take]
   split
   ·have hne:¬ s.cur=i:=by omega
    rw[List.getElem?_modify]
    simp only[hne,if_false]
    cases s.rows[i]?<;>rfl
   ·rfl
  ·rw[List.getElem_modify,if_pos rfl]
 rw[h1,h2,List.take_succ_eq_append_getElem hc]
 simp only[List.flatten_append,List.flatten_cons,List.flatten_nil,List.append_nil,List.append_assoc]
theorem qR.ring{s:qd}(h:qR s):∀ x∈yh s,0<x/\x<=s.given:=fun x hx=>h.pos x (h.rows.mem_iff.1 ((q4H s).mem_iff.1 hx))
theorem zk.add{s:qd}(hb:qR s)(ho:zk s)(t:TR):zk (zR s t):=by
 unfold zk
 rw[qvy hb.cur]
 exact List.pairwise_append.2 ⟨ho,List.pairwise_singleton _ _,fun x hx y hy=>by
  rw[List.mem_singleton.1 hy]
  have:=(hb.ring x hx).2
  omega⟩
theorem zk.new{n:Nat}{len:Int}{k:Nat}:zk (vO n len k):=by
 have hf:(vO n len k).rows.flatten=[]:=List.flatten_eq_nil_iff.2 fun r hr=>(List.mem_replicate.1 hr).2
 have:yh (vO n len k)=[]:=by
  have:=(q4H (vO n len k)).length_eq
  rw[hf]at this
  exact List.length_eq_zero_iff.1 this
 unfold zk
 rw[this];exact List.Pairwise.nil
theorem qtE{s:qd}(h:qR s):(vF s).Nodup/\∀ x∈vF s,x∈keys s.items:=⟨(zV _).nodup_iff.2 h.nd,fun x hx=>(zV _).mem_iff.1 hx⟩
theorem qw6{s:qd}(h:qR s)(r:Int × Int):(jX s r).Nodup/\∀ x∈jX s r,x∈keys s.items:=by
 refine⟨(zV _).nodup_iff.2 (h.nd.filter _),fun x hx=>?_⟩
 exact(List.mem_filter.1 ((zV _).mem_iff.1 hx)).1
structure PI (R:Int->TR->Prop) (n:Nat) (len:Int) (k m:Nat) (s:qd):Prop where
 base:qR s
 q:QR R s
 ord:zk s
 rl:s.rows.length=n
 len:s.len=len
 k:s.k=k
 giv:s.given<=m
 tot:(s.items.length:Int)+s.ev+s.dr=s.given
theorem PI.new{n k:Nat}{len:Int}(h1:1<=n)(hn:n<=16)(h4:4<=k)(h16:k<=16)(hl0:0<=len)(hl:len<=1048576)(hb:qR (vO n len k)):PI R n len k 0 (vO n len k):=
 ⟨hb,⟨qP.new n len k,fun x hx=>by cases hx⟩,zk.new,List.length_replicate,rfl,rfl,Int.le_refl _,rfl⟩
theorem q9K{s:qd}(id slot:Int):(zJ s id slot).1.items.length=s.items.length/\(zJ s id slot).1.ev=s.ev/\(zJ s id slot).1.dr=s.dr:=by
 unfold zJ
 split
 ·exact⟨rfl,rfl,rfl⟩
 ·rename_i h0
  obtain⟨h1,_,_⟩:=QJ h0
  split
  ·exact⟨rfl,rfl,rfl⟩
  ·refine⟨?_,rfl,rfl⟩
   show(zf s.items (id,slot) _).length=_
   rw[<-qH,jQ _ h1,qH]
theorem q42{s:qd}(id slot:Int):(zq s id slot).1.items.length=s.items.length/\(zq s id slot).1.ev=s.ev/\(zq s id slot).1.dr=s.dr:=by
 unfold zq
 split
 ·exact⟨rfl,rfl,rfl⟩
 ·rename_i h0
  obtain⟨h1,_,_⟩:=QJ h0
  refine⟨?_,rfl,rfl⟩
  show(zf s.items (id,slot) _).length=_
  rw[<-qH,jQ _ h1,qH]
theorem q9E(s:qd)(id slot:Int):(zJ s id slot).1.rows=s.rows/\(zJ s id slot).1.cur=s.cur/\(zJ s id slot).1.len=s.len/\(zJ s id slot).1.k=s.k/\(zJ s id slot).1.given=s.given:=by
 unfold zJ
 split
 ·exact⟨rfl,rfl,rfl,rfl,rfl⟩
 ·split
  ·exact⟨rfl,rfl,rfl,rfl,rfl⟩
  ·exact⟨rfl,rfl,rfl,rfl,rfl⟩
theorem q3V(s:qd)(id slot:Int):(zq s id slot).1.rows=s.rows/\(zq s id slot).1.cur=s.cur/\(zq s id slot).1.len=s.len/\(zq s id slot).1.k=s.k/\(zq s id slot).1.given=s.given:=by
 unfold zq
 split
 ·exact⟨rfl,rfl,rfl,rfl,rfl⟩
 ·exact⟨rfl,rfl,rfl,rfl,rfl⟩
theorem PI.put{n k m:Nat}{len:Int}{s s1:qd}{t:TR}{gone:List Int}(hR:yH R)(h:PI R n len k m s)(ha:j9 t.at_)(h0:yv s t=0)(hE:yg t.code.length s gone s1)(ht:R (s1.given+1) t):PI R n len k (m+1) (zR s1 t)/\q0U R s t gone s1/\yh s=gone++yh s1/\∀ r∈s.rows,(∀ x∈r,x∈gone)\/∀ x∈r,x ∉ gone:=by
 have hd:=qsP hR h.base h.q ha h0 hE
 have hcf:=hE.conf
 obtain⟨r1,r2,r3⟩:=hE.ring (q1f hR) h.base h.q h.ord
 refine⟨⟨hd.base,hd.all ht,r2.add hd.base1 t,?_,?_,?_,?_,?_⟩,hd,r1,r3⟩
 ·show(s1.rows.modify s1.cur _).length=n
  rw[List.length_modify,hcf.2.2.2.2];exact h.rl
 ·show s1.len=len
  rw[hcf.1];exact h.len
 ·show s1.k=k
  rw[hcf.2.1];exact h.k
 ·show s1.given+1<=_
  have:=h.giv
  rw[hcf.2.2.1];omega
 ·show((zR s1 t).items.length:Int)+s1.ev+s1.dr=s1.given+1
  have h1:=congrArg List.length hd.keys
  rw[qH,List.length_append,qH]at h1
  simp only[List.length_cons,List.length_nil]at h1
  have h2:=hd.cnt
  have h3:=hd.ev
  have h4:=h.tot
  rw[hcf.2.2.1,hcf.2.2.2.1];omega
theorem PI.gone{n k m:Nat}{len:Int}{s s':qd}{l:List Int}(hR:yH R)(h:PI R n len k m s)(hF:zp s l s')(hn:l.Nodup)(hs:∀ x∈l,x∈keys s.items):PI R n len k m { s' with dr:=s'.dr+l.length }:=by
 obtain⟨b1,b2,b3,b4,b5,b6,b7⟩:=qru hR h.base h.q hF hn hs
 have hcf:=hF.conf
 refine⟨b1,b2,zk.filter (s:=s) h.ord (fun x=>x ∉ l) b3.rows hcf.2.2.1,?_,?_,?_,?_,?_⟩
 ·show s'.rows.length=n
  rw[hcf.2.2.2.2.2.2];exact h.rl
 ·show s'.len=len
  rw[hcf.1];exact h.len
 ·show s'.k=k
  rw[hcf.2.1];exact h.k
 ·show s'.given<=m
  rw[hcf.2.2.2.1];exact h.giv
 ·show(s'.items.length:Int)+s'.ev+(s'.dr+l.length)=s'.given
  have:=h.tot
  rw[b5,b6,b7];omega
theorem PI.mono{n k m m':Nat}{len:Int}{s:qd}(h:PI R n len k m s)(hm:m<=m'):PI R n len k m' s:=⟨h.base,h.q,h.ord,h.rl,h.len,h.k,by have:=h.giv;omega,h.tot⟩
theorem PI.act{n k m:Nat}{len:Int}{s s':qd}{a:yr}(hR:yH R)(h:PI R n len k m s)(ha:j9 a.tat)(hRt:∀ x,R x a.tr)(hA:q2q s a s'):PI R n len k (m+1) s':=by
 cases hA with
 | put h1 h2 h3=>exact(h.put hR (t:=a.tr) ha h2 h3 (hRt _)).1
 | putNo _ _=>exact h.mono om
 | chain _=>
  obtain⟨b,q⟩:=qeY hR h.base h.q a.id a.slot
  obtain⟨c1,c2,c3,c4,c5⟩:=q9E s a.id a.slot
  obtain⟨d1,d2,d3⟩:=q9K (s:=s) a.id a.slot
  exact⟨b,q,zk.same h.ord c1 c2,by rw[c1];exact h.rl,by rw[c3];exact h.len,by rw[c4];exact h.k,by rw[c5];have:=h.giv;omega,by rw[c5,d1,d2,d3];exact h.tot⟩
 | unchain _=>
  obtain⟨b,q⟩:=q6E hR h.base h.q a.id a.slot
  obtain⟨c1,c2,c3,c4,c5⟩:=q3V s a.id a.slot
  obtain⟨d1,d2,d3⟩:=q42 (s:=s) a.id a.slot
  exact⟨b,q,zk.same h.ord c1 c2,by rw[c1];exact h.rl,by rw[c3];exact h.len,by rw[c4];exact h.k,by rw[c5];have:=h.giv;omega,by rw[c5,d1,d2,d3];exact h.tot⟩
 | drop _ hF=>
  obtain⟨d1,d2⟩:=qw6 h.base (a.s1,a.s2)
  exact(h.gone hR hF d1 d2).mono om
 | flush _ hF=>
  obtain⟨d1,d2⟩:=qtE h.base
  exact(h.gone hR hF d1 d2).mono om
 | other=>exact h.mono om
end Go.Fx.Ch
namespace Go.Fx.Tryz
set_option maxRecDepth 100000
open Go Go.Fx Go.Proofs
def c69:=qm Tryz.f69
def qP2:=Tryz.f69.results.toList
abbrev Q5 K:=qr P qP2 K
def f69 a w K:=CS P c69 none [2] [2] (Q5 K) (qz 30 [(Value.agg a)]) w
def qsH a w K:=SC c69 1 [2] [2] (Q5 K) 30 [(0,Value.agg a)] w
abbrev qGz K:=kq c69 1 [2] [2] (Q5 K)
def qsd a b w K:=SC c69 3 [2] [2] (Q5 K) 30 [(2,VB false),(1,VQ a),(0,Value.agg b)] w
abbrev qh1 K:=kq c69 3 [2] [2] (Q5 K)
abbrev qKA K:=kq c69 6 [1,2] [2] (qh1 K)
def JD a b c w K:=SG c69 13 [1,2] [2] (qh1 K) 30 [(21,VB a),(1,VQ b),(2,VB c)] w
def qsy a b w K:=SG c69 7 [2] [2] (Q5 K) 30 [(1,VQ a),(2,VB b)] w
abbrev q3B K:=kq c69 7 [2] [2] (Q5 K)
abbrev qIF K:=kq c69 14 [] [2] (q3B K)
def qsk a b c w K:=SC c69 29 [] [2] (q3B K) 30 [(3,VI a),(1,VQ b),(2,VB c)] w
abbrev qeh K:=qo 0 (q3B K)
def qzn K Y5 e w:=zt (fun e w=>CS P (cA c69 116) none [3,1,2] [2] (qu [3,1,2] Y5 (qeh K)) e w) e w
abbrev Vo K Y5:=qu [3,1,2] Y5 (qeh K)
def qjS a b c w K Y5:=SG c69 116 [3,1,2] [2] (Vo K Y5) 30 [(3,VI a),(1,VQ b),(2,VB c)] w
abbrev qtJ K Y5:=kq c69 116 [3,1,2] [2] (Vo K Y5)
abbrev qK4 K Y5:=kq c69 232 [1,3,2] [2] (qtJ K Y5)
def qu1 a b c w K Y5:=SG c69 233 [3,1,2] [2] (Vo K Y5) 30 [(1,VQ a),(3,VI b),(2,VB c)] w
abbrev qwW K Y5:=kq c69 233 [3,1,2] [2] (Vo K Y5)
abbrev qjL K Y5:=qo 1 (qwW K Y5)
abbrev qCR K Y5:=kq c69 932 [1,2,3] [2,1,3] (qjL K Y5)
def qvb a b c w K Y5:=SG c69 467 [3,1,2] [2] (Vo K Y5) 30 [(1,VQ a),(2,VB b),(3,VI c)] w
theorem qrn:qvb a c d w K Y5=(Y5 (qi.mk 30 [(3,(Value.int .i64 (IntKind.wrap .i64 (d*2)))),(1,(Value.pointer (some a))),(2,(Value.bool c))] []) w):=qB kr
theorem qrO:qu1 c d e w K Y5=(∃ f:Int,w.cell? (c.add 2)=some (.int .i64 f)/\qp (f==d) (K (Value.bool true) w) (qvb c e d w K Y5)):=qB (qG [1,2,3] (qwW K Y5) (Q8 1 [2,1,3] (qjL K Y5) (qG [29,1,3,2] (qCR K Y5) kr)))
def qtK w K:=SG c69 15 [2] [2] (Q5 K) 30 [] w
abbrev qBN K:=kq c69 15 [2] [2] (Q5 K)
theorem qqZ:qtK w K=(K (Value.bool false) w):=qB (qG [2] (qBN K) kr)
theorem qd5:qjS c d e w K Y5=(qp (decide (c<=65536)) (qu1 d c e w K Y5) (qtK w K)):=qB (qG [1,3,2] (qtJ K Y5) (qG [23,1,3,2] (qK4 K Y5) kr))
theorem qrF:qsk a c d w K=(qK (qzn K) (qi.mk 30 [(3,(Value.int .i64 a)),(1,(Value.pointer (some c))),(2,(Value.bool d))] []) w):=Eq.trans (b:=CS P (cA c69 29) none [] [2] (q3B K) (qi.mk 30 [(3,(VI a)),(1,(VP (some c))),(2,(VB d))] []) w) kr (Eq.trans (Zc 0 [2] (qeh K) kr) ((qS (b:=(cA c69 116)) (X':=[2]) (H:=[3,1,2]) kr kr kr).trans kr))
theorem qoQ:qsy c d w K=(qsk 16 c d w K):=qB (qG [] (q3B K) (qG [3,1,2] (qIF K) kr))
theorem q4j:JD a c d w K=(qp a (K (Value.bool false) w) (qsy c d w K)):=qB kr
theorem qrG:qsd c d w K=(∃ e:Int,w.cell? c=some (.int .i64 e)/\qp (decide (e<1)) (JD true c false w K) (∃ f:Int,w.cell? c=some (.int .i64 f)/\qp (decide (f > 16)) (JD true c false w K) (∃ g:Int,w.cell? (c.add 1)=some (.int .i64 g)/\qp (decide (g<256)) (JD true c false w K) (∃ h:Int,w.cell? (c.add 1)=some (.int .i64 h)/\JD (decide (h > 1048576)) c false w K)))):=Eq.trans (b:=CS P (cA c69 3) none [2] [2] (Q5 K) (qi.mk 30 [(2,(VB false)),(1,(VP (some c))),(0,(Value.agg d))] []) w) kr (Eq.trans (qZ [1,2] (qh1 K) kr) (Eq.trans (qZ [21,1,2] (qKA K) kr) kr))
theorem qqf:qsH c w K=(qv c 27 w (fun d e=>qsd (Addr.mk d 0 none) c e K)):=Eq.trans (b:=CS P (cA c69 1) none [2] [2] (Q5 K) (qi.mk 30 [(0,(Value.agg c))] []) w) kr (Eq.trans (qZ [1,2] (qGz K) kr) kr)
theorem qI9:f69 a w K=(qsH a w K):=kr
theorem qJs a w K(h:f69 a w K):q9 P 69 [(Value.agg a)] w K:=qA c69 Tryz.func69 h
def c38:=qm Tryz.f38
def qNp:=Tryz.f38.results.toList
abbrev qg5 K:=qr P qNp K
def f38 a b w K:=CS P c38 none [4] [4] (qg5 K) (qz 21 [(Value.int .u32 a),(VI b)]) w
abbrev qIe K:=kq c38 7 [4] [4] (qg5 K)
abbrev qt0 K:=qo 0 (qIe K)
def qzK K Y0 e w:=zt (fun e w=>CS P (cA c38 116) none [6,5,4,0,1] [4,5,0] (qu [6,5,4,0,1] Y0 (qt0 K)) e w) e w
abbrev q5l K Y0:=qu [6,5,4,0,1] Y0 (qt0 K)
def ql7 a b c d f w K Y0:=SG c38 116 [6,5,4,0,1] [4,5,0] (q5l K Y0) 21 [(6,VI a),(5,VI b),(4,VI c),(0,Value.int .u32 d),(1,VI f)] w
def qwj a b c d f w K Y0:=SG c38 233 [6,5,4,0,1] [4,5,0] (q5l K Y0) 21 [(4,VI a),(0,Value.int .u32 b),(1,VI c),(6,VI d),(5,VI f)] w
def qyk a b c d f w K Y0:=SG c38 467 [6,5,4,0,1] [4,5,0] (q5l K Y0) 21 [(5,VI a),(4,VI b),(0,Value.int .u32 c),(1,VI d),(6,VI f)] w
theorem qqP:qyk a b c d e w K Y0=(Y0 (qi.mk 21 [(6,(Value.int .i64 (IntKind.wrap .i64 (e*2)))),(5,(Value.int .i64 a)),(4,(Value.int .i64 b)),(0,(Value.int .u32 c)),(1,(Value.int .i64 d))] []) w):=kr
theorem qrE:qwj a b c d e w K Y0=(qyk (IntKind.wrap .i64 (e+1)) a b c d w K Y0):=kr
def qt4 a b w K:=SG c38 15 [4] [4] (qg5 K) 21 [(5,VI a),(0,Value.int .u32 b)] w
theorem qpK:qt4 a b w K=((4:Int)≠0/\0<=(IntKind.wrap .i64 ((32:Int)-a))/\K (Value.int .i64 (IntKind.wrap .i64 ((IntKind.wrap .u32 ((IntKind.wrap .u32 (b.tdiv 4))*2654435761)).fdiv (2 ^ (min (Int.toNat (IntKind.wrap .i64 ((32:Int)-a))) (IntKind.bits .u32)))))) w):=kr
theorem qhK:ql7 a b e c d w K Y0=(qp (decide (a<d)) (qwj e c d a b w K Y0) (qt4 b c w K)):=kr
theorem qHb:f38 a b w K=(qK (qzK K) (qi.mk 21 [(6,(Value.int .i64 1)),(5,(Value.int .i64 0)),(4,(Value.int .i64 0)),(0,(Value.int .u32 a)),(1,(Value.int .i64 b))] []) w):=kr
theorem qGB a b w K(h:f38 a b w K):q9 P 38 [(Value.int .u32 a),(Value.int .i64 b)] w K:=qA c38 Tryz.func38 h
end Go.Fx.Tryz
