/- A part of the proof. -/
import Derived.Test.YtepbaneageipfaaGreatDoorKdEc
import Derived.Test.YtepbaneageipfaaGreatDoorKaEc
import Derived.KernelRfl
import Derived.Laws.BytesArg
import Derived.Test.YtepbaneageipfaaGreatDoorRows
import Derived.Deep.Slices
import Derived.ProofKit
import Derived.LaidMore
import Derived.OpenShut
import Derived.JoinedOf
import Derived.Carry
import Derived.Stop.Joined
import Derived.Lay
set_option linter.all false
set_option autoImplicit true
set_option relaxedAutoImplicit true
noncomputable section
namespace Go.Fx.Tryz
open Go Go.Fx Go.Fx.Ch
open Go.Proofs
set_option linter.all false
set_option maxRecDepth 100000
@[irreducible] def q0d:Array Oper:=match cA Q8 60 with
 | .region _ ops _=>ops
 | _=>#[]
def qGj (i : Nat) : Oper := q0d.getD i { dst := none, op := .move (.tmp 0), type := 0, pos := "", after := #[], guard := none }
@[irreducible] def q7n(x18 x19:Int)(a20 a21:Addr):qi:=qi.mk 104 [(2,(Value.int .i64 x18)),(1,(Value.int .i64 x19)),(7,(Value.pointer (some a20))),(3,(Value.pointer (some a21)))] []
def qC(i:Nat)(e:qi)(w:World)(K:YT):Prop:=Zo P none q0d (qGj i) e w K
def Yi(i:Nat)(e:qi)(w:World)(K:YT):Prop:=qpD P none q0d (q0d.toList.drop i) e w K
theorem q4j:q0d.size=39:=kr
theorem qt{i j:Nat}{e:qi}{w:World}{K:YT}(hj:i+1=j)(hi:i<39)(h:qC i e w fun e w=>Yi j e w K):Yi i e w K:=by
 subst hj
 unfold Yi
 have hl:q0d.toList.drop i=qGj i::q0d.toList.drop (i+1):=by
  have hi2:i<q0d.toList.length:=by rw[Array.length_toList,q4j];exact hi
  rw[List.drop_eq_getElem_cons hi2]
  congr 1
  unfold qGj
  rw[Array.getElem_toList,Array.getD_eq_getD_getElem?,Array.getElem?_eq_getElem (by simpa using hi2)]
  rfl
 rw[hl]
 exact h
theorem qvx{e:qi}{w:World}{K:YT}(h:K e w):Yi 39 e w K:=by
 unfold Yi
 have hl:q0d.toList.drop 39=[]:=List.drop_eq_nil_of_le (by rw[Array.length_toList,q4j];exact Nat.le_refl _)
 rw[hl]
 exact h
theorem q9h(wq:World):(Instr.build 117 ([]:List (Nat × Value)).toArray).run P wq=.ok (.agg #[U 0,U 0,U 0,U 0]) wq:=kr
theorem q1t(wq:World):(do eqGuard .neq 117 (.tmp 65) (.tmp 66) (.agg #[U 0,U 0,U 0,U 0]) (.agg #[U 0,U 0,U 0,U 0]);binOp .neq 117 (.agg #[U 0,U 0,U 0,U 0]) (.agg #[U 0,U 0,U 0,U 0]):Sem Value).run P wq=.ok (.bool false) wq:=kr
@[irreducible] def Ea1(x18 x19:Int)(a20 a21:Addr):qi:=((q7n x18 x19 a20 a21).put (some 31) (.pointer (some (a20.add 1))))
@[irreducible] def Ea2(x18 x19:Int)(a20 a21:Addr):qi:=((Ea1 x18 x19 a20 a21).put (some 32) (.bool false))
@[irreducible] def Ea3(x18 x19:Int)(a20 a21:Addr):qi:=((Ea2 x18 x19 a20 a21).put (some 33) (.bool true))
@[irreducible] def Ea4(x18 x19:Int)(a20 a21:Addr):qi:=((Ea3 x18 x19 a20 a21).put (some 34) (.bool true))
@[irreducible] def Ea5(x18 x19:Int)(a20 a21:Addr):qi:=(((Ea4 x18 x19 a20 a21).put (some 34) (.bool true)).put (some 35) (.pointer (some (a21.add 2))))
@[irreducible] def Ea6(x18 x19:Int)(a20 a21:Addr):qi:=(((Ea5 x18 x19 a20 a21).put (some 34) (.bool true)).put (some 36) (.int .i64 0))
@[irreducible] def Ea7(x18 x19:Int)(a20 a21:Addr):qi:=(((Ea6 x18 x19 a20 a21).put (some 34) (.bool true)).put (some 37) (.bool false))
@[irreducible] def Ea8(x18 x19:Int)(a20 a21:Addr):qi:=((Ea7 x18 x19 a20 a21).put (some 38) (.bool false))
@[irreducible] def Ea9(x18 x19:Int)(a20 a21:Addr):qi:=((Ea8 x18 x19 a20 a21).put (some 39) (.bool false))
@[irreducible] def qve(x18 x19:Int)(a20 a21:Addr):qi:=(((Ea9 x18 x19 a20 a21).put (some 39) (.bool false)).put (some 40) (.pointer (some (a20.add 8))))
@[irreducible] def qEX(x18 x19:Int)(a20 a21:Addr):qi:=(((qve x18 x19 a20 a21).put (some 39) (.bool false)).put (some 41) (.bool true))
@[irreducible] def qFS(x18 x19:Int)(a20 a21:Addr):qi:=(((qEX x18 x19 a20 a21).put (some 39) (.bool false)).put (some 42) (.bool false))
@[irreducible] def qGH(x18 x19:Int)(a20 a21:Addr):qi:=(((qFS x18 x19 a20 a21).put (some 39) (.bool false)).put (some 43) (.bool false))
@[irreducible] def qE7(x18 x19:Int)(a20 a21:Addr):qi:=(((qGH x18 x19 a20 a21).put (some 43) (.bool false)).put (some 44) undef)
@[irreducible] def qED(x18 x19:Int)(a20 a21:Addr):qi:=(((qE7 x18 x19 a20 a21).put (some 43) (.bool false)).put (some 45) undef)
@[irreducible] def qHH(x18 x19:Int)(a20 a21:Addr):qi:=(((qED x18 x19 a20 a21).put (some 43) (.bool false)).put (some 46) undef)
@[irreducible] def qFr(x18 x19:Int)(a20 a21:Addr):qi:=(((qHH x18 x19 a20 a21).put (some 39) (.bool false)).put (some 47) (.bool false))
@[irreducible] def qE5(x18 x19:Int)(a20 a21:Addr):qi:=((qFr x18 x19 a20 a21).put (some 48) (.bool false))
@[irreducible] def qGz(x18 x19:Int)(a20 a21:Addr):qi:=((qE5 x18 x19 a20 a21).put (some 49) (.bool false))
@[irreducible] def qut(x18 x19:Int)(a20 a21:Addr):qi:=(((qGz x18 x19 a20 a21).put (some 49) (.bool false)).put (some 50) (.pointer (some (a20.add 9))))
@[irreducible] def qI8(x18 x19:Int)(a20 a21:Addr):qi:=(((qut x18 x19 a20 a21).put (some 49) (.bool false)).put (some 51) (.bool false))
@[irreducible] def qGr(x18 x19:Int)(a20 a21:Addr):qi:=(((qI8 x18 x19 a20 a21).put (some 49) (.bool false)).put (some 52) (.bool true))
@[irreducible] def qFO(x18 x19:Int)(a20 a21:Addr):qi:=(((qGr x18 x19 a20 a21).put (some 49) (.bool false)).put (some 53) (.bool true))
@[irreducible] def qsp(x18 x19:Int)(a20 a21:Addr):qi:=(((qFO x18 x19 a20 a21).put (some 53) (.bool true)).put (some 54) (.pointer (some (a21.add 10))))
@[irreducible] def qIe(x18 x19:Int)(a20 a21:Addr):qi:=(((qsp x18 x19 a20 a21).put (some 53) (.bool true)).put (some 55) (.int .u32 0))
@[irreducible] def qHD(x18 x19:Int)(a20 a21:Addr):qi:=(((qIe x18 x19 a20 a21).put (some 53) (.bool true)).put (some 56) (.bool false))
@[irreducible] def qHq(x18 x19:Int)(a20 a21:Addr):qi:=(((qHD x18 x19 a20 a21).put (some 49) (.bool false)).put (some 57) (.bool false))
@[irreducible] def qHO(x18 x19:Int)(a20 a21:Addr):qi:=((qHq x18 x19 a20 a21).put (some 58) (.bool false))
@[irreducible] def qIi(x18 x19:Int)(a20 a21:Addr):qi:=((qHO x18 x19 a20 a21).put (some 59) (.bool false))
@[irreducible] def qsv(x18 x19:Int)(a20 a21:Addr):qi:=(((qIi x18 x19 a20 a21).put (some 59) (.bool false)).put (some 60) (.pointer (some (a20.add 10))))
@[irreducible] def qG5(x18 x19:Int)(a20 a21:Addr):qi:=(((qsv x18 x19 a20 a21).put (some 59) (.bool false)).put (some 61) (.bool false))
@[irreducible] def qFl(x18 x19:Int)(a20 a21:Addr):qi:=(((qG5 x18 x19 a20 a21).put (some 59) (.bool false)).put (some 62) (.bool true))
@[irreducible] def qEy(x18 x19:Int)(a20 a21:Addr):qi:=(((qFl x18 x19 a20 a21).put (some 59) (.bool false)).put (some 63) (.bool true))
@[irreducible] def qvt(x18 x19:Int)(a20 a21:Addr):qi:=(((qEy x18 x19 a20 a21).put (some 63) (.bool true)).put (some 64) (.pointer (some (a21.add 11))))
@[irreducible] def qtm(x18 x19:Int)(a20 a21:Addr):qi:=(((qvt x18 x19 a20 a21).put (some 63) (.bool true)).put (some 65) (.agg #[U 0,U 0,U 0,U 0]))
@[irreducible] def qtZ(x18 x19:Int)(a20 a21:Addr):qi:=(((qtm x18 x19 a20 a21).put (some 63) (.bool true)).put (some 66) (.agg #[U 0,U 0,U 0,U 0]))
@[irreducible] def qI7(x18 x19:Int)(a20 a21:Addr):qi:=(((qtZ x18 x19 a20 a21).put (some 63) (.bool true)).put (some 67) (.bool false))
@[irreducible] def qGT(x18 x19:Int)(a20 a21:Addr):qi:=(((qI7 x18 x19 a20 a21).put (some 59) (.bool false)).put (some 68) (.bool false))
@[irreducible] def qHX(x18 x19:Int)(a20 a21:Addr):qi:=((qGT x18 x19 a20 a21).put (some 69) (.bool false))
theorem ta0(x18 x19:Int)(a20 a21:Addr)(w:World)(K:YT):qC 0 (q7n x18 x19 a20 a21) w K=K (Ea1 x18 x19 a20 a21) w:=kr
theorem ta1(x18 x19:Int)(a20 a21:Addr)(w:World)(K:YT):qC 1 (Ea1 x18 x19 a20 a21) w K=(∃ b:Bool,w.cell? (a20.add 1)=some (.bool b)/\K ((Ea1 x18 x19 a20 a21).put (some 32) (.bool b)) w):=kr
theorem ta2(x18 x19:Int)(a20 a21:Addr)(w:World)(K:YT):qC 2 (Ea2 x18 x19 a20 a21) w K=K (Ea3 x18 x19 a20 a21) w:=kr
theorem ta3(x18 x19:Int)(a20 a21:Addr)(w:World)(K:YT):qC 3 (Ea3 x18 x19 a20 a21) w K=K (Ea4 x18 x19 a20 a21) w:=kr
theorem ta4(x18 x19:Int)(a20 a21:Addr)(w:World)(K:YT):qC 4 (Ea4 x18 x19 a20 a21) w K=K (Ea5 x18 x19 a20 a21) w:=kr
theorem ta5(x18 x19:Int)(a20 a21:Addr)(w:World)(K:YT):qC 5 (Ea5 x18 x19 a20 a21) w K=(∃ x:Int,w.cell? (a21.add 2)=some (.int .i64 x)/\K (((Ea5 x18 x19 a20 a21).put (some 34) (.bool true)).put (some 36) (.int .i64 x)) w):=kr
theorem ta6(x18 x19:Int)(a20 a21:Addr)(w:World)(K:YT):qC 6 (Ea6 x18 x19 a20 a21) w K=K (Ea7 x18 x19 a20 a21) w:=kr
theorem ta7(x18 x19:Int)(a20 a21:Addr)(w:World)(K:YT):qC 7 (Ea7 x18 x19 a20 a21) w K=K (Ea8 x18 x19 a20 a21) w:=kr
theorem ta8(x18 x19:Int)(a20 a21:Addr)(w:World)(K:YT):qC 8 (Ea8 x18 x19 a20 a21) w K=K (Ea9 x18 x19 a20 a21) w:=kr
theorem ta9(x18 x19:Int)(a20 a21:Addr)(w:World)(K:YT):qC 9 (Ea9 x18 x19 a20 a21) w K=K (qve x18 x19 a20 a21) w:=kr
theorem qM9(x18 x19:Int)(a20 a21:Addr)(w:World)(K:YT):qC 10 (qve x18 x19 a20 a21) w K=(∃ b:Bool,w.cell? (a20.add 8)=some (.bool b)/\K (((qve x18 x19 a20 a21).put (some 39) (.bool false)).put (some 41) (.bool b)) w):=kr
theorem qLq(x18 x19:Int)(a20 a21:Addr)(w:World)(K:YT):qC 11 (qEX x18 x19 a20 a21) w K=K (qFS x18 x19 a20 a21) w:=kr
theorem qN0(x18 x19:Int)(a20 a21:Addr)(w:World)(K:YT):qC 12 (qFS x18 x19 a20 a21) w K=K (qGH x18 x19 a20 a21) w:=kr
theorem qLZ(x18 x19:Int)(a20 a21:Addr)(w:World)(K:YT):qC 13 (qGH x18 x19 a20 a21) w K=K (qE7 x18 x19 a20 a21) w:=kr
theorem qN1(x18 x19:Int)(a20 a21:Addr)(w:World)(K:YT):qC 14 (qE7 x18 x19 a20 a21) w K=K (qED x18 x19 a20 a21) w:=kr
theorem qMp(x18 x19:Int)(a20 a21:Addr)(w:World)(K:YT):qC 15 (qED x18 x19 a20 a21) w K=K (qHH x18 x19 a20 a21) w:=kr
theorem qLl(x18 x19:Int)(a20 a21:Addr)(w:World)(K:YT):qC 16 (qHH x18 x19 a20 a21) w K=K (qFr x18 x19 a20 a21) w:=kr
theorem qL7(x18 x19:Int)(a20 a21:Addr)(w:World)(K:YT):qC 17 (qFr x18 x19 a20 a21) w K=K (qE5 x18 x19 a20 a21) w:=kr
theorem qKQ(x18 x19:Int)(a20 a21:Addr)(w:World)(K:YT):qC 18 (qE5 x18 x19 a20 a21) w K=K (qGz x18 x19 a20 a21) w:=kr
theorem qLT(x18 x19:Int)(a20 a21:Addr)(w:World)(K:YT):qC 19 (qGz x18 x19 a20 a21) w K=K (qut x18 x19 a20 a21) w:=kr
theorem qMd(x18 x19:Int)(a20 a21:Addr)(w:World)(K:YT):qC 20 (qut x18 x19 a20 a21) w K=(∃ b:Bool,w.cell? (a20.add 9)=some (.bool b)/\K (((qut x18 x19 a20 a21).put (some 49) (.bool false)).put (some 51) (.bool b)) w):=kr
theorem qLK(x18 x19:Int)(a20 a21:Addr)(w:World)(K:YT):qC 21 (qI8 x18 x19 a20 a21) w K=K (qGr x18 x19 a20 a21) w:=kr
theorem qLC(x18 x19:Int)(a20 a21:Addr)(w:World)(K:YT):qC 22 (qGr x18 x19 a20 a21) w K=K (qFO x18 x19 a20 a21) w:=kr
theorem qLE(x18 x19:Int)(a20 a21:Addr)(w:World)(K:YT):qC 23 (qFO x18 x19 a20 a21) w K=K (qsp x18 x19 a20 a21) w:=kr
theorem qMh(x18 x19:Int)(a20 a21:Addr)(w:World)(K:YT):qC 24 (qsp x18 x19 a20 a21) w K=(∃ x:Int,w.cell? (a21.add 10)=some (.int .u32 x)/\K (((qsp x18 x19 a20 a21).put (some 53) (.bool true)).put (some 55) (.int .u32 x)) w):=kr
theorem qML(x18 x19:Int)(a20 a21:Addr)(w:World)(K:YT):qC 25 (qIe x18 x19 a20 a21) w K=K (qHD x18 x19 a20 a21) w:=kr
theorem qMG(x18 x19:Int)(a20 a21:Addr)(w:World)(K:YT):qC 26 (qHD x18 x19 a20 a21) w K=K (qHq x18 x19 a20 a21) w:=kr
theorem qL9(x18 x19:Int)(a20 a21:Addr)(w:World)(K:YT):qC 27 (qHq x18 x19 a20 a21) w K=K (qHO x18 x19 a20 a21) w:=kr
theorem qM4(x18 x19:Int)(a20 a21:Addr)(w:World)(K:YT):qC 28 (qHO x18 x19 a20 a21) w K=K (qIi x18 x19 a20 a21) w:=kr
theorem qLd(x18 x19:Int)(a20 a21:Addr)(w:World)(K:YT):qC 29 (qIi x18 x19 a20 a21) w K=K (qsv x18 x19 a20 a21) w:=kr
theorem qMR(x18 x19:Int)(a20 a21:Addr)(w:World)(K:YT):qC 30 (qsv x18 x19 a20 a21) w K=(∃ b:Bool,w.cell? (a20.add 10)=some (.bool b)/\K (((qsv x18 x19 a20 a21).put (some 59) (.bool false)).put (some 61) (.bool b)) w):=kr
theorem qMx(x18 x19:Int)(a20 a21:Addr)(w:World)(K:YT):qC 31 (qG5 x18 x19 a20 a21) w K=K (qFl x18 x19 a20 a21) w:=kr
theorem qMO(x18 x19:Int)(a20 a21:Addr)(w:World)(K:YT):qC 32 (qFl x18 x19 a20 a21) w K=K (qEy x18 x19 a20 a21) w:=kr
theorem qM8(x18 x19:Int)(a20 a21:Addr)(w:World)(K:YT):qC 33 (qEy x18 x19 a20 a21) w K=K (qvt x18 x19 a20 a21) w:=kr
theorem qLg(x18 x19:Int)(a20 a21:Addr)(w:World)(K:YT):qC 34 (qvt x18 x19 a20 a21) w K=qS 4 (a21.add 11) w (fun cs=>K (((qvt x18 x19 a20 a21).put (some 63) (.bool true)).put (some 65) (.agg cs)) w):=kr
theorem qLW(x18 x19:Int)(a20 a21:Addr)(w:World)(K:YT):qC 35 (qtm x18 x19 a20 a21) w K=(∃ cs:Array Value,(∀ wq,(Instr.build 117 ([]:List (Nat × Value)).toArray).run P wq=.ok (.agg cs) wq)/\K (((qtm x18 x19 a20 a21).put (some 63) (.bool true)).put (some 66) (.agg cs)) w):=kr
theorem qMu(x18 x19:Int)(a20 a21:Addr)(w:World)(K:YT):qC 36 (qtZ x18 x19 a20 a21) w K=(∃ b:Bool,(∀ wq,(do eqGuard .neq 117 (.tmp 65) (.tmp 66) (.agg #[U 0,U 0,U 0,U 0]) (.agg #[U 0,U 0,U 0,U 0]);binOp .neq 117 (.agg #[U 0,U 0,U 0,U 0]) (.agg #[U 0,U 0,U 0,U 0]):Sem Value).run P wq=.ok (.bool b) wq)/\K (((qtZ x18 x19 a20 a21).put (some 63) (.bool true)).put (some 67) (.bool b)) w):=kr
theorem qLt(x18 x19:Int)(a20 a21:Addr)(w:World)(K:YT):qC 37 (qI7 x18 x19 a20 a21) w K=K (qGT x18 x19 a20 a21) w:=kr
theorem qLa(x18 x19:Int)(a20 a21:Addr)(w:World)(K:YT):qC 38 (qGT x18 x19 a20 a21) w K=K (qHX x18 x19 a20 a21) w:=kr
theorem qa1(x18 x19:Int)(a20 a21:Addr):(Ea1 x18 x19 a20 a21).put (some 32) (.bool false)=Ea2 x18 x19 a20 a21:=kr
theorem qa5(x18 x19:Int)(a20 a21:Addr):((Ea5 x18 x19 a20 a21).put (some 34) (.bool true)).put (some 36) (.int .i64 0)=Ea6 x18 x19 a20 a21:=kr
theorem qMY(x18 x19:Int)(a20 a21:Addr):((qve x18 x19 a20 a21).put (some 39) (.bool false)).put (some 41) (.bool true)=qEX x18 x19 a20 a21:=kr
theorem qLX(x18 x19:Int)(a20 a21:Addr):((qut x18 x19 a20 a21).put (some 49) (.bool false)).put (some 51) (.bool false)=qI8 x18 x19 a20 a21:=kr
theorem qM0(x18 x19:Int)(a20 a21:Addr):((qsp x18 x19 a20 a21).put (some 53) (.bool true)).put (some 55) (.int .u32 0)=qIe x18 x19 a20 a21:=kr
theorem qLy(x18 x19:Int)(a20 a21:Addr):((qsv x18 x19 a20 a21).put (some 59) (.bool false)).put (some 61) (.bool false)=qG5 x18 x19 a20 a21:=kr
theorem qMK(x18 x19:Int)(a20 a21:Addr):((qvt x18 x19 a20 a21).put (some 63) (.bool true)).put (some 65) (.agg #[U 0,U 0,U 0,U 0])=qtm x18 x19 a20 a21:=kr
theorem qLv(x18 x19:Int)(a20 a21:Addr):((qtm x18 x19 a20 a21).put (some 63) (.bool true)).put (some 66) (.agg #[U 0,U 0,U 0,U 0])=qtZ x18 x19 a20 a21:=kr
theorem qMw(x18 x19:Int)(a20 a21:Addr):((qtZ x18 x19 a20 a21).put (some 63) (.bool true)).put (some 67) (.bool false)=qI7 x18 x19 a20 a21:=kr
theorem qLL(x18 x19:Int)(a20 a21:Addr)(w:World)(K:YT)(c32:w.cell? (a20.add 1)=some (.bool false))(c36:w.cell? (a21.add 2)=some (.int .i64 0))(c41:w.cell? (a20.add 8)=some (.bool true))(c51:w.cell? (a20.add 9)=some (.bool false))(c55:w.cell? (a21.add 10)=some (.int .u32 0))(c61:w.cell? (a20.add 10)=some (.bool false))(cV:∀ K:Array Value->Prop,K #[U 0,U 0,U 0,U 0]->qS 4 (a21.add 11) w K)(hK:K (qHX x18 x19 a20 a21) w):Yi 0 (q7n x18 x19 a20 a21) w K:=by
 refine qt (i:=0) (j:=1) rfl (by decide) ?_
 rw[ta0]
 refine qt (i:=1) (j:=2) rfl (by decide) ?_
 rw[ta1]
 refine⟨false,c32,?_⟩
 rw[qa1]
 refine qt (i:=2) (j:=3) rfl (by decide) ?_
 rw[ta2]
 refine qt (i:=3) (j:=4) rfl (by decide) ?_
 rw[ta3]
 refine qt (i:=4) (j:=5) rfl (by decide) ?_
 rw[ta4]
 refine qt (i:=5) (j:=6) rfl (by decide) ?_
 rw[ta5]
 refine⟨0,c36,?_⟩
 rw[qa5]
 refine qt (i:=6) (j:=7) rfl (by decide) ?_
 rw[ta6]
 refine qt (i:=7) (j:=8) rfl (by decide) ?_
 rw[ta7]
 refine qt (i:=8) (j:=9) rfl (by decide) ?_
 rw[ta8]
 refine qt (i:=9) (j:=10) rfl (by decide) ?_
 rw[ta9]
 refine qt (i:=10) (j:=11) rfl (by decide) ?_
 rw[qM9]
 refine⟨true,c41,?_⟩
 rw[qMY]
 refine qt (i:=11) (j:=12) rfl (by decide) ?_
 rw[qLq]
 refine qt (i:=12) (j:=13) rfl (by decide) ?_
 rw[qN0]
 refine qt (i:=13) (j:=14) rfl (by decide) ?_
 rw[qLZ]
 refine qt (i:=14) (j:=15) rfl (by decide) ?_
 rw[qN1]
 refine qt (i:=15) (j:=16) rfl (by decide) ?_
 rw[qMp]
 refine qt (i:=16) (j:=17) rfl (by decide) ?_
 rw[qLl]
 refine qt (i:=17) (j:=18) rfl (by decide) ?_
 rw[qL7]
 refine qt (i:=18) (j:=19) rfl (by decide) ?_
 rw[qKQ]
 refine qt (i:=19) (j:=20) rfl (by decide) ?_
 rw[qLT]
 refine qt (i:=20) (j:=21) rfl (by decide) ?_
 rw[qMd]
 refine⟨false,c51,?_⟩
 rw[qLX]
 refine qt (i:=21) (j:=22) rfl (by decide) ?_
 rw[qLK]
 refine qt (i:=22) (j:=23) rfl (by decide) ?_
 rw[qLC]
 refine qt (i:=23) (j:=24) rfl (by decide) ?_
 rw[qLE]
 refine qt (i:=24) (j:=25) rfl (by decide) ?_
 rw[qMh]
 refine⟨0,c55,?_⟩
 rw[qM0]
 refine qt (i:=25) (j:=26) rfl (by decide) ?_
 rw[qML]
 refine qt (i:=26) (j:=27) rfl (by decide) ?_
 rw[qMG]
 refine qt (i:=27) (j:=28) rfl (by decide) ?_
 rw[qL9]
 refine qt (i:=28) (j:=29) rfl (by decide) ?_
 rw[qM4]
 refine qt (i:=29) (j:=30) rfl (by decide) ?_
 rw[qLd]
 refine qt (i:=30) (j:=31) rfl (by decide) ?_
 rw[qMR]
 refine⟨false,c61,?_⟩
 rw[qLy]
 refine qt (i:=31) (j:=32) rfl (by decide) ?_
 rw[qMx]
 refine qt (i:=32) (j:=33) rfl (by decide) ?_
 rw[qMO]
 refine qt (i:=33) (j:=34) rfl (by decide) ?_
 rw[qM8]
 refine qt (i:=34) (j:=35) rfl (by decide) ?_
 rw[qLg]
 refine cV _ ?_
 rw[qMK]
 refine qt (i:=35) (j:=36) rfl (by decide) ?_
 rw[qLW]
 refine⟨_,q9h,?_⟩
 rw[qLv]
 refine qt (i:=36) (j:=37) rfl (by decide) ?_
 rw[qMu]
 refine⟨false,q1t,?_⟩
 rw[qMw]
 refine qt (i:=37) (j:=38) rfl (by decide) ?_
 rw[qLt]
 refine qt (i:=38) (j:=39) rfl (by decide) ?_
 rw[qLa]
 exact qvx hK
theorem qM3(x18 x19:Int)(a20 a21:Addr)(w:World)(K:KT):ZL K .normal (qHX x18 x19 a20 a21) w=q18 false x18 x19 a20 a21 w K:=kr
@[irreducible] def Eb1(x18 x19:Int)(a20 a21:Addr):qi:=((q7n x18 x19 a20 a21).put (some 31) (.pointer (some (a20.add 1))))
@[irreducible] def Eb2(x18 x19:Int)(a20 a21:Addr):qi:=((Eb1 x18 x19 a20 a21).put (some 32) (.bool false))
@[irreducible] def Eb3(x18 x19:Int)(a20 a21:Addr):qi:=((Eb2 x18 x19 a20 a21).put (some 33) (.bool true))
@[irreducible] def Eb4(x18 x19:Int)(a20 a21:Addr):qi:=((Eb3 x18 x19 a20 a21).put (some 34) (.bool true))
@[irreducible] def Eb5(x18 x19:Int)(a20 a21:Addr):qi:=(((Eb4 x18 x19 a20 a21).put (some 34) (.bool true)).put (some 35) (.pointer (some (a21.add 2))))
@[irreducible] def Eb6(x18 x19:Int)(a20 a21:Addr):qi:=(((Eb5 x18 x19 a20 a21).put (some 34) (.bool true)).put (some 36) (.int .i64 0))
@[irreducible] def Eb7(x18 x19:Int)(a20 a21:Addr):qi:=(((Eb6 x18 x19 a20 a21).put (some 34) (.bool true)).put (some 37) (.bool false))
@[irreducible] def Eb8(x18 x19:Int)(a20 a21:Addr):qi:=((Eb7 x18 x19 a20 a21).put (some 38) (.bool false))
@[irreducible] def Eb9(x18 x19:Int)(a20 a21:Addr):qi:=((Eb8 x18 x19 a20 a21).put (some 39) (.bool false))
@[irreducible] def qsJ(x18 x19:Int)(a20 a21:Addr):qi:=(((Eb9 x18 x19 a20 a21).put (some 39) (.bool false)).put (some 40) (.pointer (some (a20.add 8))))
@[irreducible] def qHV(x18 x19:Int)(a20 a21:Addr):qi:=(((qsJ x18 x19 a20 a21).put (some 39) (.bool false)).put (some 41) (.bool true))
@[irreducible] def qHG(x18 x19:Int)(a20 a21:Addr):qi:=(((qHV x18 x19 a20 a21).put (some 39) (.bool false)).put (some 42) (.bool false))
@[irreducible] def qHb(x18 x19:Int)(a20 a21:Addr):qi:=(((qHG x18 x19 a20 a21).put (some 39) (.bool false)).put (some 43) (.bool false))
@[irreducible] def qEa(x18 x19:Int)(a20 a21:Addr):qi:=(((qHb x18 x19 a20 a21).put (some 43) (.bool false)).put (some 44) undef)
@[irreducible] def qGL(x18 x19:Int)(a20 a21:Addr):qi:=(((qEa x18 x19 a20 a21).put (some 43) (.bool false)).put (some 45) undef)
@[irreducible] def qEi(x18 x19:Int)(a20 a21:Addr):qi:=(((qGL x18 x19 a20 a21).put (some 43) (.bool false)).put (some 46) undef)
@[irreducible] def qGD(x18 x19:Int)(a20 a21:Addr):qi:=(((qEi x18 x19 a20 a21).put (some 39) (.bool false)).put (some 47) (.bool false))
@[irreducible] def qEW(x18 x19:Int)(a20 a21:Addr):qi:=((qGD x18 x19 a20 a21).put (some 48) (.bool false))
@[irreducible] def qHr(x18 x19:Int)(a20 a21:Addr):qi:=((qEW x18 x19 a20 a21).put (some 49) (.bool false))
@[irreducible] def qsB(x18 x19:Int)(a20 a21:Addr):qi:=(((qHr x18 x19 a20 a21).put (some 49) (.bool false)).put (some 50) (.pointer (some (a20.add 9))))
@[irreducible] def qHi(x18 x19:Int)(a20 a21:Addr):qi:=(((qsB x18 x19 a20 a21).put (some 49) (.bool false)).put (some 51) (.bool true))
@[irreducible] def qFg(x18 x19:Int)(a20 a21:Addr):qi:=(((qHi x18 x19 a20 a21).put (some 49) (.bool false)).put (some 52) (.bool false))
@[irreducible] def qFY(x18 x19:Int)(a20 a21:Addr):qi:=(((qFg x18 x19 a20 a21).put (some 49) (.bool false)).put (some 53) (.bool false))
@[irreducible] def qH2(x18 x19:Int)(a20 a21:Addr):qi:=(((qFY x18 x19 a20 a21).put (some 53) (.bool false)).put (some 54) undef)
@[irreducible] def qGM(x18 x19:Int)(a20 a21:Addr):qi:=(((qH2 x18 x19 a20 a21).put (some 53) (.bool false)).put (some 55) undef)
@[irreducible] def qHR(x18 x19:Int)(a20 a21:Addr):qi:=(((qGM x18 x19 a20 a21).put (some 53) (.bool false)).put (some 56) undef)
@[irreducible] def qEr(x18 x19:Int)(a20 a21:Addr):qi:=(((qHR x18 x19 a20 a21).put (some 49) (.bool false)).put (some 57) (.bool false))
@[irreducible] def qES(x18 x19:Int)(a20 a21:Addr):qi:=((qEr x18 x19 a20 a21).put (some 58) (.bool false))
@[irreducible] def qHl(x18 x19:Int)(a20 a21:Addr):qi:=((qES x18 x19 a20 a21).put (some 59) (.bool false))
@[irreducible] def qt2(x18 x19:Int)(a20 a21:Addr):qi:=(((qHl x18 x19 a20 a21).put (some 59) (.bool false)).put (some 60) (.pointer (some (a20.add 10))))
@[irreducible] def qHS(x18 x19:Int)(a20 a21:Addr):qi:=(((qt2 x18 x19 a20 a21).put (some 59) (.bool false)).put (some 61) (.bool false))
@[irreducible] def qGo(x18 x19:Int)(a20 a21:Addr):qi:=(((qHS x18 x19 a20 a21).put (some 59) (.bool false)).put (some 62) (.bool true))
@[irreducible] def qFk(x18 x19:Int)(a20 a21:Addr):qi:=(((qGo x18 x19 a20 a21).put (some 59) (.bool false)).put (some 63) (.bool true))
@[irreducible] def qsd(x18 x19:Int)(a20 a21:Addr):qi:=(((qFk x18 x19 a20 a21).put (some 63) (.bool true)).put (some 64) (.pointer (some (a21.add 11))))
@[irreducible] def qvd(x18 x19:Int)(a20 a21:Addr):qi:=(((qsd x18 x19 a20 a21).put (some 63) (.bool true)).put (some 65) (.agg #[U 0,U 0,U 0,U 0]))
@[irreducible] def qsM(x18 x19:Int)(a20 a21:Addr):qi:=(((qvd x18 x19 a20 a21).put (some 63) (.bool true)).put (some 66) (.agg #[U 0,U 0,U 0,U 0]))
@[irreducible] def qF7(x18 x19:Int)(a20 a21:Addr):qi:=(((qsM x18 x19 a20 a21).put (some 63) (.bool true)).put (some 67) (.bool false))
@[irreducible] def qHK(x18 x19:Int)(a20 a21:Addr):qi:=(((qF7 x18 x19 a20 a21).put (some 59) (.bool false)).put (some 68) (.bool false))
@[irreducible] def qF2(x18 x19:Int)(a20 a21:Addr):qi:=((qHK x18 x19 a20 a21).put (some 69) (.bool false))
theorem tb0(x18 x19:Int)(a20 a21:Addr)(w:World)(K:YT):qC 0 (q7n x18 x19 a20 a21) w K=K (Eb1 x18 x19 a20 a21) w:=kr
theorem tb1(x18 x19:Int)(a20 a21:Addr)(w:World)(K:YT):qC 1 (Eb1 x18 x19 a20 a21) w K=(∃ b:Bool,w.cell? (a20.add 1)=some (.bool b)/\K ((Eb1 x18 x19 a20 a21).put (some 32) (.bool b)) w):=kr
theorem tb2(x18 x19:Int)(a20 a21:Addr)(w:World)(K:YT):qC 2 (Eb2 x18 x19 a20 a21) w K=K (Eb3 x18 x19 a20 a21) w:=kr
theorem tb3(x18 x19:Int)(a20 a21:Addr)(w:World)(K:YT):qC 3 (Eb3 x18 x19 a20 a21) w K=K (Eb4 x18 x19 a20 a21) w:=kr
theorem tb4(x18 x19:Int)(a20 a21:Addr)(w:World)(K:YT):qC 4 (Eb4 x18 x19 a20 a21) w K=K (Eb5 x18 x19 a20 a21) w:=kr
theorem tb5(x18 x19:Int)(a20 a21:Addr)(w:World)(K:YT):qC 5 (Eb5 x18 x19 a20 a21) w K=(∃ x:Int,w.cell? (a21.add 2)=some (.int .i64 x)/\K (((Eb5 x18 x19 a20 a21).put (some 34) (.bool true)).put (some 36) (.int .i64 x)) w):=kr
theorem tb6(x18 x19:Int)(a20 a21:Addr)(w:World)(K:YT):qC 6 (Eb6 x18 x19 a20 a21) w K=K (Eb7 x18 x19 a20 a21) w:=kr
theorem tb7(x18 x19:Int)(a20 a21:Addr)(w:World)(K:YT):qC 7 (Eb7 x18 x19 a20 a21) w K=K (Eb8 x18 x19 a20 a21) w:=kr
theorem tb8(x18 x19:Int)(a20 a21:Addr)(w:World)(K:YT):qC 8 (Eb8 x18 x19 a20 a21) w K=K (Eb9 x18 x19 a20 a21) w:=kr
theorem tb9(x18 x19:Int)(a20 a21:Addr)(w:World)(K:YT):qC 9 (Eb9 x18 x19 a20 a21) w K=K (qsJ x18 x19 a20 a21) w:=kr
theorem qM6(x18 x19:Int)(a20 a21:Addr)(w:World)(K:YT):qC 10 (qsJ x18 x19 a20 a21) w K=(∃ b:Bool,w.cell? (a20.add 8)=some (.bool b)/\K (((qsJ x18 x19 a20 a21).put (some 39) (.bool false)).put (some 41) (.bool b)) w):=kr
theorem qKP(x18 x19:Int)(a20 a21:Addr)(w:World)(K:YT):qC 11 (qHV x18 x19 a20 a21) w K=K (qHG x18 x19 a20 a21) w:=kr
theorem qMq(x18 x19:Int)(a20 a21:Addr)(w:World)(K:YT):qC 12 (qHG x18 x19 a20 a21) w K=K (qHb x18 x19 a20 a21) w:=kr
theorem qMA(x18 x19:Int)(a20 a21:Addr)(w:World)(K:YT):qC 13 (qHb x18 x19 a20 a21) w K=K (qEa x18 x19 a20 a21) w:=kr
theorem qKO(x18 x19:Int)(a20 a21:Addr)(w:World)(K:YT):qC 14 (qEa x18 x19 a20 a21) w K=K (qGL x18 x19 a20 a21) w:=kr
theorem qLk(x18 x19:Int)(a20 a21:Addr)(w:World)(K:YT):qC 15 (qGL x18 x19 a20 a21) w K=K (qEi x18 x19 a20 a21) w:=kr
theorem qM1(x18 x19:Int)(a20 a21:Addr)(w:World)(K:YT):qC 16 (qEi x18 x19 a20 a21) w K=K (qGD x18 x19 a20 a21) w:=kr
theorem qMz(x18 x19:Int)(a20 a21:Addr)(w:World)(K:YT):qC 17 (qGD x18 x19 a20 a21) w K=K (qEW x18 x19 a20 a21) w:=kr
theorem qL0(x18 x19:Int)(a20 a21:Addr)(w:World)(K:YT):qC 18 (qEW x18 x19 a20 a21) w K=K (qHr x18 x19 a20 a21) w:=kr
theorem qLV(x18 x19:Int)(a20 a21:Addr)(w:World)(K:YT):qC 19 (qHr x18 x19 a20 a21) w K=K (qsB x18 x19 a20 a21) w:=kr
theorem qLc(x18 x19:Int)(a20 a21:Addr)(w:World)(K:YT):qC 20 (qsB x18 x19 a20 a21) w K=(∃ b:Bool,w.cell? (a20.add 9)=some (.bool b)/\K (((qsB x18 x19 a20 a21).put (some 49) (.bool false)).put (some 51) (.bool b)) w):=kr
theorem qMl(x18 x19:Int)(a20 a21:Addr)(w:World)(K:YT):qC 21 (qHi x18 x19 a20 a21) w K=K (qFg x18 x19 a20 a21) w:=kr
theorem qLO(x18 x19:Int)(a20 a21:Addr)(w:World)(K:YT):qC 22 (qFg x18 x19 a20 a21) w K=K (qFY x18 x19 a20 a21) w:=kr
theorem qMe(x18 x19:Int)(a20 a21:Addr)(w:World)(K:YT):qC 23 (qFY x18 x19 a20 a21) w K=K (qH2 x18 x19 a20 a21) w:=kr
theorem qLj(x18 x19:Int)(a20 a21:Addr)(w:World)(K:YT):qC 24 (qH2 x18 x19 a20 a21) w K=K (qGM x18 x19 a20 a21) w:=kr
theorem qKW(x18 x19:Int)(a20 a21:Addr)(w:World)(K:YT):qC 25 (qGM x18 x19 a20 a21) w K=K (qHR x18 x19 a20 a21) w:=kr
theorem qL8(x18 x19:Int)(a20 a21:Addr)(w:World)(K:YT):qC 26 (qHR x18 x19 a20 a21) w K=K (qEr x18 x19 a20 a21) w:=kr
theorem qMa(x18 x19:Int)(a20 a21:Addr)(w:World)(K:YT):qC 27 (qEr x18 x19 a20 a21) w K=K (qES x18 x19 a20 a21) w:=kr
theorem qLm(x18 x19:Int)(a20 a21:Addr)(w:World)(K:YT):qC 28 (qES x18 x19 a20 a21) w K=K (qHl x18 x19 a20 a21) w:=kr
theorem qLf(x18 x19:Int)(a20 a21:Addr)(w:World)(K:YT):qC 29 (qHl x18 x19 a20 a21) w K=K (qt2 x18 x19 a20 a21) w:=kr
theorem qLD(x18 x19:Int)(a20 a21:Addr)(w:World)(K:YT):qC 30 (qt2 x18 x19 a20 a21) w K=(∃ b:Bool,w.cell? (a20.add 10)=some (.bool b)/\K (((qt2 x18 x19 a20 a21).put (some 59) (.bool false)).put (some 61) (.bool b)) w):=kr
theorem qMg(x18 x19:Int)(a20 a21:Addr)(w:World)(K:YT):qC 31 (qHS x18 x19 a20 a21) w K=K (qGo x18 x19 a20 a21) w:=kr
theorem qM5(x18 x19:Int)(a20 a21:Addr)(w:World)(K:YT):qC 32 (qGo x18 x19 a20 a21) w K=K (qFk x18 x19 a20 a21) w:=kr
theorem qMj(x18 x19:Int)(a20 a21:Addr)(w:World)(K:YT):qC 33 (qFk x18 x19 a20 a21) w K=K (qsd x18 x19 a20 a21) w:=kr
theorem qM2(x18 x19:Int)(a20 a21:Addr)(w:World)(K:YT):qC 34 (qsd x18 x19 a20 a21) w K=qS 4 (a21.add 11) w (fun cs=>K (((qsd x18 x19 a20 a21).put (some 63) (.bool true)).put (some 65) (.agg cs)) w):=kr
theorem qMv(x18 x19:Int)(a20 a21:Addr)(w:World)(K:YT):qC 35 (qvd x18 x19 a20 a21) w K=(∃ cs:Array Value,(∀ wq,(Instr.build 117 ([]:List (Nat × Value)).toArray).run P wq=.ok (.agg cs) wq)/\K (((qvd x18 x19 a20 a21).put (some 63) (.bool true)).put (some 66) (.agg cs)) w):=kr
theorem qMT(x18 x19:Int)(a20 a21:Addr)(w:World)(K:YT):qC 36 (qsM x18 x19 a20 a21) w K=(∃ b:Bool,(∀ wq,(do eqGuard .neq 117 (.tmp 65) (.tmp 66) (.agg #[U 0,U 0,U 0,U 0]) (.agg #[U 0,U 0,U 0,U 0]);binOp .neq 117 (.agg #[U 0,U 0,U 0,U 0]) (.agg #[U 0,U 0,U 0,U 0]):Sem Value).run P wq=.ok (.bool b) wq)/\K (((qsM x18 x19 a20 a21).put (some 63) (.bool true)).put (some 67) (.bool b)) w):=kr
theorem qLF(x18 x19:Int)(a20 a21:Addr)(w:World)(K:YT):qC 37 (qF7 x18 x19 a20 a21) w K=K (qHK x18 x19 a20 a21) w:=kr
theorem qMC(x18 x19:Int)(a20 a21:Addr)(w:World)(K:YT):qC 38 (qHK x18 x19 a20 a21) w K=K (qF2 x18 x19 a20 a21) w:=kr
theorem qb1(x18 x19:Int)(a20 a21:Addr):(Eb1 x18 x19 a20 a21).put (some 32) (.bool false)=Eb2 x18 x19 a20 a21:=kr
theorem qb5(x18 x19:Int)(a20 a21:Addr):((Eb5 x18 x19 a20 a21).put (some 34) (.bool true)).put (some 36) (.int .i64 0)=Eb6 x18 x19 a20 a21:=kr
theorem qMy(x18 x19:Int)(a20 a21:Addr):((qsJ x18 x19 a20 a21).put (some 39) (.bool false)).put (some 41) (.bool true)=qHV x18 x19 a20 a21:=kr
theorem qLG(x18 x19:Int)(a20 a21:Addr):((qsB x18 x19 a20 a21).put (some 49) (.bool false)).put (some 51) (.bool true)=qHi x18 x19 a20 a21:=kr
theorem qMX(x18 x19:Int)(a20 a21:Addr):((qt2 x18 x19 a20 a21).put (some 59) (.bool false)).put (some 61) (.bool false)=qHS x18 x19 a20 a21:=kr
theorem qMI(x18 x19:Int)(a20 a21:Addr):((qsd x18 x19 a20 a21).put (some 63) (.bool true)).put (some 65) (.agg #[U 0,U 0,U 0,U 0])=qvd x18 x19 a20 a21:=kr
theorem qMm(x18 x19:Int)(a20 a21:Addr):((qvd x18 x19 a20 a21).put (some 63) (.bool true)).put (some 66) (.agg #[U 0,U 0,U 0,U 0])=qsM x18 x19 a20 a21:=kr
theorem qMt(x18 x19:Int)(a20 a21:Addr):((qsM x18 x19 a20 a21).put (some 63) (.bool true)).put (some 67) (.bool false)=qF7 x18 x19 a20 a21:=kr
theorem qM7(x18 x19:Int)(a20 a21:Addr)(w:World)(K:YT)(c32:w.cell? (a20.add 1)=some (.bool false))(c36:w.cell? (a21.add 2)=some (.int .i64 0))(c41:w.cell? (a20.add 8)=some (.bool true))(c51:w.cell? (a20.add 9)=some (.bool true))(c61:w.cell? (a20.add 10)=some (.bool false))(cV:∀ K:Array Value->Prop,K #[U 0,U 0,U 0,U 0]->qS 4 (a21.add 11) w K)(hK:K (qF2 x18 x19 a20 a21) w):Yi 0 (q7n x18 x19 a20 a21) w K:=by
 refine qt (i:=0) (j:=1) rfl (by decide) ?_
 rw[tb0]
 refine qt (i:=1) (j:=2) rfl (by decide) ?_
 rw[tb1]
 refine⟨false,c32,?_⟩
 rw[qb1]
 refine qt (i:=2) (j:=3) rfl (by decide) ?_
 rw[tb2]
 refine qt (i:=3) (j:=4) rfl (by decide) ?_
 rw[tb3]
 refine qt (i:=4) (j:=5) rfl (by decide) ?_
 rw[tb4]
 refine qt (i:=5) (j:=6) rfl (by decide) ?_
 rw[tb5]
 refine⟨0,c36,?_⟩
 rw[qb5]
 refine qt (i:=6) (j:=7) rfl (by decide) ?_
 rw[tb6]
 refine qt (i:=7) (j:=8) rfl (by decide) ?_
 rw[tb7]
 refine qt (i:=8) (j:=9) rfl (by decide) ?_
 rw[tb8]
 refine qt (i:=9) (j:=10) rfl (by decide) ?_
 rw[tb9]
 refine qt (i:=10) (j:=11) rfl (by decide) ?_
 rw[qM6]
 refine⟨true,c41,?_⟩
 rw[qMy]
 refine qt (i:=11) (j:=12) rfl (by decide) ?_
 rw[qKP]
 refine qt (i:=12) (j:=13) rfl (by decide) ?_
 rw[qMq]
 refine qt (i:=13) (j:=14) rfl (by decide) ?_
 rw[qMA]
 refine qt (i:=14) (j:=15) rfl (by decide) ?_
 rw[qKO]
 refine qt (i:=15) (j:=16) rfl (by decide) ?_
 rw[qLk]
 refine qt (i:=16) (j:=17) rfl (by decide) ?_
 rw[qM1]
 refine qt (i:=17) (j:=18) rfl (by decide) ?_
 rw[qMz]
 refine qt (i:=18) (j:=19) rfl (by decide) ?_
 rw[qL0]
 refine qt (i:=19) (j:=20) rfl (by decide) ?_
 rw[qLV]
 refine qt (i:=20) (j:=21) rfl (by decide) ?_
 rw[qLc]
 refine⟨true,c51,?_⟩
 rw[qLG]
 refine qt (i:=21) (j:=22) rfl (by decide) ?_
 rw[qMl]
 refine qt (i:=22) (j:=23) rfl (by decide) ?_
 rw[qLO]
 refine qt (i:=23) (j:=24) rfl (by decide) ?_
 rw[qMe]
 refine qt (i:=24) (j:=25) rfl (by decide) ?_
 rw[qLj]
 refine qt (i:=25) (j:=26) rfl (by decide) ?_
 rw[qKW]
 refine qt (i:=26) (j:=27) rfl (by decide) ?_
 rw[qL8]
 refine qt (i:=27) (j:=28) rfl (by decide) ?_
 rw[qMa]
 refine qt (i:=28) (j:=29) rfl (by decide) ?_
 rw[qLm]
 refine qt (i:=29) (j:=30) rfl (by decide) ?_
 rw[qLf]
 refine qt (i:=30) (j:=31) rfl (by decide) ?_
 rw[qLD]
 refine⟨false,c61,?_⟩
 rw[qMX]
 refine qt (i:=31) (j:=32) rfl (by decide) ?_
 rw[qMg]
 refine qt (i:=32) (j:=33) rfl (by decide) ?_
 rw[qM5]
 refine qt (i:=33) (j:=34) rfl (by decide) ?_
 rw[qMj]
 refine qt (i:=34) (j:=35) rfl (by decide) ?_
 rw[qM2]
 refine cV _ ?_
 rw[qMI]
 refine qt (i:=35) (j:=36) rfl (by decide) ?_
 rw[qMv]
 refine⟨_,q9h,?_⟩
 rw[qMm]
 refine qt (i:=36) (j:=37) rfl (by decide) ?_
 rw[qMT]
 refine⟨false,q1t,?_⟩
 rw[qMt]
 refine qt (i:=37) (j:=38) rfl (by decide) ?_
 rw[qLF]
 refine qt (i:=38) (j:=39) rfl (by decide) ?_
 rw[qMC]
 exact qvx hK
theorem qL1(x18 x19:Int)(a20 a21:Addr)(w:World)(K:KT):ZL K .normal (qF2 x18 x19 a20 a21) w=q18 false x18 x19 a20 a21 w K:=kr
theorem qer{P:Program}{c:Code}{i:Nat}{ops:Array Oper}{r:Option Nat}{Lo X:List Nat}{K:Exit->YT}{e:qi}{w:World}(h:c=.region i ops false):CS P c r Lo X K e w=qpD P r ops ops.toList e w (K .normal):=by subst h;rfl
def qMQ:Nat:=match cA Q8 60 with
 | .region i _ _=>i
 | _=>0
theorem qa8:∃ i,cA Q8 60=.region i q0d false:=⟨qMQ,by kernel_rfl⟩
theorem qD6(x18 x19:Int)(a20 a21:Addr):(qi.mk 104 [(2,(Value.int .i64 x18)),(1,(Value.int .i64 x19)),(7,(Value.pointer (some a20))),(3,(Value.pointer (some a21)))] [])=q7n x18 x19 a20 a21:=kr
theorem qHg(x18 x19:Int)(a20 a21:Addr)(w:World)(K:KT):q1b x18 x19 a20 a21 w K=Yi 0 (q7n x18 x19 a20 a21) w (ZL K .normal):=by
 have h0:q1b x18 x19 a20 a21 w K=CS P (cA Q8 15) none [6] [6] (Qg K) (qi.mk 104 [(2,(Value.int .i64 x18)),(1,(Value.int .i64 x19)),(7,(Value.pointer (some a20))),(3,(Value.pointer (some a21)))] []) w:=by delta q1b;first | exact SGe | exact qD rfl
 have h1:CS P (cA Q8 15) none [6] [6] (Qg K) (qi.mk 104 [(2,(Value.int .i64 x18)),(1,(Value.int .i64 x19)),(7,(Value.pointer (some a20))),(3,(Value.pointer (some a21)))] []) w=(CS P (cA Q8 30) none [2,1,7,3] [6] (q0t K) (qi.mk 104 [(2,(Value.int .i64 x18)),(1,(Value.int .i64 x19)),(7,(Value.pointer (some a20))),(3,(Value.pointer (some a21)))] []) w):=qo0 (a:=(cA Q8 30)) (b:=(cA Q8 31)) kr kr
 have h2:CS P (cA Q8 30) none [2,1,7,3] [6] (q0t K) (qi.mk 104 [(2,(Value.int .i64 x18)),(1,(Value.int .i64 x19)),(7,(Value.pointer (some a20))),(3,(Value.pointer (some a21)))] []) w=(CS P (cA Q8 60) none [69,2,1,7,3] [6] (ZL K) (qi.mk 104 [(2,(Value.int .i64 x18)),(1,(Value.int .i64 x19)),(7,(Value.pointer (some a20))),(3,(Value.pointer (some a21)))] []) w):=qo0 (a:=(cA Q8 60)) (b:=(cA Q8 61)) kr kr
 obtain⟨i,hi⟩:=qa8
 have h3:qpD P none q0d q0d.toList (qi.mk 104 [(2,(Value.int .i64 x18)),(1,(Value.int .i64 x19)),(7,(Value.pointer (some a20))),(3,(Value.pointer (some a21)))] []) w (ZL K .normal)=Yi 0 (q7n x18 x19 a20 a21) w (ZL K .normal):=by rw[qD6];unfold Yi;rw[List.drop_zero]
 exact h0.trans (h1.trans (h2.trans ((qer hi).trans h3)))
end Go.Fx.Tryz
namespace Go.Fx.Tryz
set_option maxRecDepth 100000
open Go Go.Fx Go.Proofs
def c15:=ql Tryz.f15
def qLS:=Tryz.f15.results.toList
abbrev vB K:=qr P qLS K
def f15 w K:=CS P c15 none [0] [0] (vB K) (qz 202 []) w
abbrev qIc K:=kq c15 7 [0] [0] (vB K)
def qhM a b w K:=SG c15 29 [1] [0] (qIc K) 202 [(24,VB a),(1,VP b)] w
def qv8 a w K:=SG c15 15 [0] [0] (vB K) 202 [(1,VP a)] w
abbrev qEl K:=kq c15 15 [0] [0] (vB K)
abbrev qFi K:=kq c15 255 [0] [0] (vB K)
def Qn a b w K:=SG c15 1021 [1] [0] (qFi K) 202 [(86,VB a),(1,VP b)] w
def qh6 a w K:=SG c15 511 [0] [0] (vB K) 202 [(1,VP a)] w
abbrev qDG K:=kq c15 511 [0] [0] (vB K)
abbrev qDf K:=kq c15 8191 [0] [0] (vB K)
def yf a b w K:=SG c15 32765 [1] [0] (qDf K) 202 [(133,VB a),(1,VP b)] w
def qcN a w K:=SG c15 16383 [0] [0] (vB K) 202 [(1,VP a)] w
abbrev qA7 K:=kq c15 16383 [0] [0] (vB K)
abbrev qAN K:=kq c15 262143 [0] [0] (vB K)
def Jp a b w K:=SG c15 1048573 [1] [0] (qAN K) 202 [(176,VB a),(1,VP b)] w
def qhA a w K:=SG c15 524287 [0] [0] (vB K) 202 [(1,VP a)] w
abbrev qyn K:=kq c15 524287 [0] [0] (vB K)
def q5v a w K:=SG c15 4194303 [0] [0] (vB K) 202 [(0,VB a)] w
theorem qoM:q5v a w K=(K (Value.bool a) w):=qD kr
theorem qqe:qhA c w K=(q9 P 21 [(Value.pointer c),(Value.int .u32 256)] w (fun n o=>∃ p:Int,∃ g:Bool,n=(.tuple #[(Value.int .u32 p),(Value.bool g)])/\q9 P 19 [(Value.int .u32 512)] o (fun q r=>∃ (h:OA) (i j:Nat),q=(.slice h i j)/\q9 P 49 [(Value.int .u32 700),(Value.slice h i j)] r (fun s t=>∃ k:Array Value,s=(.agg k)/\q9 P 18 [(Value.pointer c),(Value.agg k)] t (fun u d=>∃ v:Int,∃ (x:OA) (y z:Nat),∃ l:Int,u=(.tuple #[(Value.int .u32 v),(Value.slice x y z),(Value.int .i64 l)])/\qo (!g) (qo (l==5) (q9 P 23 [(Value.pointer c)] d (fun a0 b0=>∃ e:Array Value,a0=(.agg e)/\∃ f:Array Value,(∀ wq,(Instr.build 47 #[(0,(Value.int .i64 3)),(1,(Value.int .i64 267)),(3,(Value.int .i64 2)),(4,(Value.int .i64 1))]).run P wq=.ok (.agg f) wq)/\∃ m:Bool,(∀ wq,(do eqGuard .eql 47 (.tmp 198) (.tmp 199) (Value.agg e) (Value.agg f);binOp .eql 47 (Value.agg e) (Value.agg f):Sem Value).run P wq=.ok (.bool m) wq)/\q5v m b0 K)) (q5v false d K)) (q5v false d K)))))):=qD (qH [1,9] (qyn K) kr)
theorem qpB:Jp a c w K=(qo a (K (Value.bool false) w) (qhA c w K)):=qD kr
theorem qpm:qcN c w K=(q9 P 50 [(Value.int .u32 512)] w (fun b0 c0=>∃ (g:OA) (h i:Nat),b0=(.slice g h i)/\q9 P 49 [(Value.int .u32 600),(Value.slice g h i)] c0 (fun d0 e0=>∃ j:Array Value,d0=(.agg j)/\q9 P 18 [(Value.pointer c),(Value.agg j)] e0 (fun f0 g0=>∃ h0:Int,∃ (i0:OA) (j0 l0:Nat),∃ m0:Int,f0=(.tuple #[(Value.int .u32 h0),(Value.slice i0 j0 l0),(Value.int .i64 m0)])/\q9 P 19 [(Value.int .u32 512)] g0 (fun n0 o0=>∃ (k:OA) (l m:Nat),n0=(.slice k l m)/\q9 P 49 [(Value.int .u32 700),(Value.slice k l m)] o0 (fun p0 q0=>∃ n:Array Value,p0=(.agg n)/\q9 P 18 [(Value.pointer c),(Value.agg n)] q0 (fun r0 s0=>∃ t0:Int,∃ (u0:OA) (v0 x0:Nat),∃ y0:Int,r0=(.tuple #[(Value.int .u32 t0),(Value.slice u0 v0 x0),(Value.int .i64 y0)])/\q9 P 50 [(Value.int .u32 512)] s0 (fun z0 A0=>∃ (o:OA) (p q:Nat),z0=(.slice o p q)/\q9 P 49 [(Value.int .u32 800),(Value.slice o p q)] A0 (fun B0 C0=>∃ r:Array Value,B0=(.agg r)/\q9 P 18 [(Value.pointer c),(Value.agg r)] C0 (fun D0 E0=>∃ F0:Int,∃ (G0:OA) (H0 I0:Nat),∃ J0:Int,D0=(.tuple #[(Value.int .u32 F0),(Value.slice G0 H0 I0),(Value.int .i64 J0)])/\q9 P 19 [(Value.int .u32 512)] E0 (fun L0 M0=>∃ (s:OA) (t u:Nat),L0=(.slice s t u)/\q9 P 49 [(Value.int .u32 900),(Value.slice s t u)] M0 (fun N0 O0=>∃ v:Array Value,N0=(.agg v)/\q9 P 18 [(Value.pointer c),(Value.agg v)] O0 (fun Q0 d=>∃ x:Int,∃ (f:OA) (e R0:Nat),∃ y:Int,Q0=(.tuple #[(Value.int .u32 x),(Value.slice f e R0),(Value.int .i64 y)])/\qo (y != 0) (Jp true c d K) (qo (x != 6) (Jp true c d K) (qo ((((e:Nat):Int):Int) != 2) (Jp true c d K) (qh f (fun S0=>0<=(0:Int)/\(0:Int)<(e:Nat)/\∃ z:Int,d.cell? (S0.add (Int.toNat 0*1))=some (.int .u32 z)/\qo (z != 1) (Jp true c d K) (qh f (fun T0=>0<=(1:Int)/\(1:Int)<(e:Nat)/\∃ a0:Int,d.cell? (T0.add (Int.toNat 1*1))=some (.int .u32 a0)/\Jp (a0 != 3) c d K))))))))))))))))))):=qD (qH [1] (qA7 K) kr)
theorem qoS:yf a c w K=(qo a (K (Value.bool false) w) (qcN c w K)):=qD kr
theorem qoG:qh6 c w K=(q9 P 41 [(Value.pointer c),(Value.int .u32 1),(Value.int .i64 8)] w (fun o0 p0=>∃ q0:Bool,∃ u:Int,o0=(.tuple #[(Value.bool q0),(Value.int .i64 u)])/\q9 P 41 [(Value.pointer c),(Value.int .u32 3),(Value.int .i64 7)] p0 (fun r0 s0=>∃ t0:Bool,∃ v:Int,r0=(.tuple #[(Value.bool t0),(Value.int .i64 v)])/\∃ x:Array Value,(∀ wq,(Instr.build 36 #[(0,(Value.int .u32 515)),(1,(Value.int .i64 1))]).run P wq=.ok (.agg x) wq)/\q9 P 20 [(Value.pointer c),(Value.agg x)] s0 (fun u0 v0=>∃ (y:OA) (i x0:Nat),u0=(.slice y i x0)/\q9 P 28 [(Value.pointer c),(Value.int .u32 1)] v0 (fun y0 z0=>∃ z:Array Value,∃ a0:Int,y0=(.tuple #[(Value.agg z),(Value.int .i64 a0)])/\qu (qx P 41) 41 z0 (fun h A0=>zW 3 (Addr.mk h 0 none) z A0 (fun d=>qo (u != 1) ((yf true c d.drew K)/\((yf true c d.drew K)/\(yf true c d.drew K))) (qo (v != 211) ((yf true c d.drew K)/\((yf true c d.drew K)/\(yf true c d.drew K))) (qo (a0 != 0) ((yf true c d.drew K)/\((yf true c d.drew K)/\(yf true c d.drew K))) (qo ((((i:Nat):Int):Int) != 1) ((yf true c d.drew K)/\((yf true c d.drew K)/\(yf true c d.drew K))) (qh y (fun B0=>0<=(0:Int)/\(0:Int)<(i:Nat)/\∃ b0:Int,d.drew.cell? (B0.add (Int.toNat 0*1))=some (.int .u32 b0)/\qo (b0 != 2) ((yf true c d.drew K)/\((yf true c d.drew K)/\(yf true c d.drew K))) (∃ (e:OA) (f g:Nat),d.drew.cell? ((Addr.mk h 0 none).add 2)=some (.slice e f g)/\(∃ j:ByteArray,∃ c0:World,(convert 38 9 (Value.slice e f g)).run P d.drew=.ok (.string j) c0/\q9 P 19 [(Value.int .u32 512)] c0 (fun C0 D0=>∃ (d0:OA) (e0 f0:Nat),C0=(.slice d0 e0 f0)/\∃ k:ByteArray,∃ g0:World,(convert 38 9 (Value.slice d0 e0 f0)).run P D0=.ok (.string k) g0/\∃ h0:Bool,(∀ wq,(do eqGuard .neq 9 (.tmp 129) (.tmp 131) (Value.string j) (Value.string k);binOp .neq 9 (Value.string j) (Value.string k):Sem Value).run P wq=.ok (.bool h0) wq)/\yf h0 c g0 K))/\(q9 P 19 [(Value.int .u32 512)] d.drew (fun E0 l=>∃ (m:OA) (n o:Nat),E0=(.slice m n o)/\l.cell? ((Addr.mk h 0 none).add 2)=some (.slice e f g)/\(∃ p:ByteArray,∃ i0:World,(convert 38 9 (Value.slice e f g)).run P l=.ok (.string p) i0/\∃ q:ByteArray,∃ j0:World,(convert 38 9 (Value.slice m n o)).run P i0=.ok (.string q) j0/\∃ l0:Bool,(∀ wq,(do eqGuard .neq 9 (.tmp 129) (.tmp 131) (Value.string p) (Value.string q);binOp .neq 9 (Value.string p) (Value.string q):Sem Value).run P wq=.ok (.bool l0) wq)/\yf l0 c j0 K)/\(∃ r:ByteArray,∃ s:World,(convert 38 9 (Value.slice m n o)).run P l=.ok (.string r) s/\s.cell? ((Addr.mk h 0 none).add 2)=some (.slice e f g)/\∃ t:ByteArray,∃ m0:World,(convert 38 9 (Value.slice e f g)).run P s=.ok (.string t) m0/\∃ n0:Bool,(∀ wq,(do eqGuard .neq 9 (.tmp 129) (.tmp 131) (Value.string t) (Value.string r);binOp .neq 9 (Value.string t) (Value.string r):Sem Value).run P wq=.ok (.bool n0) wq)/\yf n0 c m0 K)))))))))))))))):=qD (qH [1,2] (qDG K) kr)
theorem qoq:Qn a c w K=(qo a (K (Value.bool false) w) (qh6 c w K)):=qD kr
theorem qoJ:qv8 c w K=(q9 P 19 [(Value.int .u32 512)] w (fun y z=>∃ (g:OA) (h i:Nat),y=(.slice g h i)/\q9 P 49 [(Value.int .u32 256),(Value.slice g h i)] z (fun a0 b0=>∃ j:Array Value,a0=(.agg j)/\q9 P 18 [(Value.pointer c),(Value.agg j)] b0 (fun c0 d0=>∃ k:Int,∃ (e0:OA) (f0 g0:Nat),∃ l:Int,c0=(.tuple #[(Value.int .u32 k),(Value.slice e0 f0 g0),(Value.int .i64 l)])/\q9 P 19 [(Value.int .u32 256)] d0 (fun h0 i0=>∃ (m:OA) (n o:Nat),h0=(.slice m n o)/\q9 P 49 [(Value.int .u32 512),(Value.slice m n o)] i0 (fun j0 l0=>∃ p:Array Value,j0=(.agg p)/\q9 P 18 [(Value.pointer c),(Value.agg p)] l0 (fun m0 n0=>∃ q:Int,∃ (o0:OA) (p0 q0:Nat),∃ r:Int,m0=(.tuple #[(Value.int .u32 q),(Value.slice o0 p0 q0),(Value.int .i64 r)])/\q9 P 21 [(Value.pointer c),(Value.int .u32 512)] n0 (fun r0 s0=>∃ s:Int,∃ t:Bool,r0=(.tuple #[(Value.int .u32 s),(Value.bool t)])/\q9 P 41 [(Value.pointer c),(Value.int .u32 1),(Value.int .i64 7)] s0 (fun t0 d=>∃ u:Bool,∃ v:Int,t0=(.tuple #[(Value.bool u),(Value.int .i64 v)])/\qo (l != 0) (Qn true c d K) (qo (r != 0) (Qn true c d K) (qo (v != 0) (Qn true c d K) (qo (k != 1) (Qn true c d K) (qo (q != 2) (Qn true c d K) (qo (s != 2) (Qn true c d K) (qo (!t) (Qn true c d K) (qo (!u) (Qn true c d K) (q9 P 23 [(Value.pointer c)] d (fun u0 v0=>∃ e:Array Value,u0=(.agg e)/\∃ f:Array Value,(∀ wq,(Instr.build 47 #[(0,(Value.int .i64 2)),(1,(Value.int .i64 22)),(2,(Value.int .i64 1))]).run P wq=.ok (.agg f) wq)/\∃ x:Bool,(∀ wq,(do eqGuard .neq 47 (.tmp 83) (.tmp 84) (Value.agg e) (Value.agg f);binOp .neq 47 (Value.agg e) (Value.agg f):Sem Value).run P wq=.ok (.bool x) wq)/\Qn x c v0 K)))))))))))))))))):=qD (qH [1,3,2] (qEl K) kr)
theorem qqf:qhM a c w K=(qo a (K (Value.bool false) w) (qv8 c w K)):=qD kr
theorem qG0:f15 w K=(∃ b:Array Value,(∀ wq,(Instr.build 27 #[(0,(Value.int .i64 2)),(1,(Value.int .i64 256)),(2,(Value.int .i64 16))]).run P wq=.ok (.agg b) wq)/\q9 P 16 [(Value.agg b)] w (fun e c=>∃ a:Option Addr,∃ d:Int,e=(.tuple #[(Value.pointer a),(Value.int .i64 d)])/\qo (d != 0) (qhM true a c K) (qhM a.isNone a c K))):=kr
theorem qEC w K(h:f15 w K):q9 P 15 [] w K:=qA c15 Tryz.func15 h
def c19:=ql Tryz.f19
def qLn:=Tryz.f19.results.toList
abbrev qG7 K:=qr P qLn K
def f19 a w K:=CS P c19 none [2] [2] (qG7 K) (qz 7 [(Value.int .u32 a)]) w
theorem qFH:f19 b w K=(∃ a:Array Value,(∀ wq,(Instr.build 119 #[(0,(Value.int .i64 40)),(8,(Value.int .i64 1)),(9,(Value.int .u32 b))]).run P wq=.ok (.agg a) wq)/\qJ 15 [(Value.agg a)]/\qu (([(Value.agg a)].map fun(v:Value)=>v.cells.toList).flatten.toArray) 119 w (fun f g=>q9 P 64 [(Value.slice (some (Addr.mk f 0 none)) 1 1)] g (fun h i=>∃ (c:OA) (d e:Nat),h=(.slice c d e)/\K (Value.slice c d e) i))):=kr
theorem qHB a w K(h:f19 a w K):q9 P 19 [(Value.int .u32 a)] w K:=qA c19 Tryz.func19 h
def c49:=ql Tryz.f49
def qLh:=Tryz.f49.results.toList
abbrev qF3 K:=qr P qLh K
def f49 a b c d w K:=CS P c49 none [4] [4] (qF3 K) (qz 11 [(Value.int .u32 a),(VS b c d)]) w
theorem qGv:f49 a c d e w K=(qu (qx P 41) 41 w (fun f i=>∃ b:Array Value,(∀ wq,(Instr.build 36 #[(0,(Value.int .u32 a)),(1,(Value.int .i64 4))]).run P wq=.ok (.agg b) wq)/\qJ 2 [(Value.agg b)]/\qu (([(Value.agg b)].map fun(v:Value)=>v.cells.toList).flatten.toArray) 36 i (fun j k=>∃ g:Array Value,(∀ wq,(Instr.build 41 #[(0,(Value.int .u32 a)),(1,(Value.slice (some (Addr.mk j 0 none)) 1 1)),(2,(Value.slice c d e))]).run P wq=.ok (.agg g) wq)/\zW 3 (Addr.mk f 0 none) g k (fun h=>qS 3 (Addr.mk f 0 none) h (fun l=>K (Value.agg l) h))))):=kr
theorem qHm a b c d w K(h:f49 a b c d w K):q9 P 49 [(Value.int .u32 a),(Value.slice b c d)] w K:=qA c49 Tryz.func49 h
def c50:=ql Tryz.f50
def qL4:=Tryz.f50.results.toList
abbrev qdp K:=qr P qL4 K
def f50 a w K:=CS P c50 none [2] [2] (qdp K) (qz 20 [(Value.int .u32 a)]) w
abbrev qEH K:=kq c50 7 [2] [2] (qdp K)
abbrev qr8 K:=qp 0 (qEH K)
def qAc K Y0 e w:=zv (fun e w=>CS P (cA c50 116) none [4,3,2,0] [2,0,3] (qv [4,3,2,0] Y0 (qr8 K)) e w) e w
abbrev q5R K Y0:=qv [4,3,2,0] Y0 (qr8 K)
def qmi a b c d f g h i w K Y0:=SG c50 116 [4,3,2,0] [2,0,3] (q5R K Y0) 20 [(4,VI a),(3,VS b c d),(2,VS f g h),(0,Value.int .u32 i)] w
def qsS a b c d f g h i w K Y0:=SG c50 233 [4,3,2,0] [2,0,3] (q5R K Y0) 20 [(3,VS a b c),(2,VS d f g),(0,Value.int .u32 h),(4,VI i)] w
def qtJ a b c d f g h i w K Y0:=SG c50 467 [4,3,2,0] [2,0,3] (q5R K Y0) 20 [(3,VS a b c),(2,VS d f g),(0,Value.int .u32 h),(4,VI i)] w
theorem qoD:qtJ a b c d e f g h w K Y0=(Y0 (qi.mk 20 [(4,(Value.int .i64 (IntKind.wrap .i64 (h+1)))),(3,(Value.slice a b c)),(2,(Value.slice d e f)),(0,(Value.int .u32 g))] []) w):=kr
theorem qph:qsS b c d e f g h a w K Y0=(∃ i:Array Value,(∀ wq,(Instr.build 119 #[(0,(Value.int .i64 1))]).run P wq=.ok (.agg i) wq)/\qh b (fun j=>0<=a/\a<(c:Nat)/\zW 15 (j.add (Int.toNat a*15)) i w (fun k=>qtJ b c d e f g h a k K Y0))):=kr
def qv5 a b c d w K:=SG c50 15 [2] [2] (qdp K) 20 [(0,Value.int .u32 a),(3,VS b c d)] w
theorem qpc:qv5 b c d e w K=(∃ a:Array Value,(∀ wq,(Instr.build 119 #[(0,(Value.int .i64 40)),(8,(Value.int .i64 1)),(9,(Value.int .u32 b))]).run P wq=.ok (.agg a) wq)/\qJ 15 [(Value.agg a)]/\qu (([(Value.agg a)].map fun(v:Value)=>v.cells.toList).flatten.toArray) 119 w (fun m n=>∃ (f:OA) (g h:Nat),∃ i:World,(Builtin.append_ #[130,130] 130 #[(Value.slice c d e),(Value.slice (some (Addr.mk m 0 none)) 1 1)]).run P n=.ok (.slice f g h) i/\q9 P 64 [(Value.slice f g h)] i (fun o p=>∃ (j:OA) (k l:Nat),o=(.slice j k l)/\K (Value.slice j k l) p))):=kr
theorem qdJ:qmi a b c d f g h e w K Y0=(qo (decide (a<39)) (qsS b c d f g h e a w K Y0) (qv5 e b c d w K)):=kr
theorem qH9:f50 a w K=(∃ (b:OA) (c d:Nat),∃ e:World,(Instr.makeSlice 130 (Value.int .i64 39) (Value.int .i64 39)).run P w=.ok (.slice b c d) e/\qO (qAc K) (qi.mk 20 [(4,(Value.int .i64 0)),(3,(Value.slice b c d)),(2,(Value.slice none 0 0)),(0,(Value.int .u32 a))] []) e):=kr
theorem qFN a w K(h:f50 a w K):q9 P 50 [(Value.int .u32 a)] w K:=qA c50 Tryz.func50 h
def c64:=ql Tryz.f64
def qMn:=Tryz.f64.results.toList
abbrev qGP K:=qr P qMn K
def f64 a b c w K:=CS P c64 none [2] [2] (qGP K) (qz 13 [(VS a b c)]) w
theorem qEL:f64 a b c w K=(q9 P 112 [(Value.slice a b c)] w (fun g h=>∃ (d:OA) (e f:Nat),∃ i:Int,∃ j:Int,g=(.tuple #[(Value.slice d e f),(Value.int .i64 i),(Value.int .i64 j)])/\K (Value.slice d e f) h)):=kr
theorem qGJ a b c w K(h:f64 a b c w K):q9 P 64 [(Value.slice a b c)] w K:=qA c64 Tryz.func64 h
def yw:=ql Tryz.f112
def qJP:=Tryz.f112.results.toList
abbrev yb K:=qr P qJP K
def f112 a b c w K:=CS P yw none [2,3,4] [2,3,4] (yb K) (qz 67 [(VS a b c)]) w
def qnF a b c w K:=SC yw 1 [2,3,4] [2,3,4] (yb K) 67 [(0,VS a b c)] w
abbrev qDx K:=kq yw 1 [2,3,4] [2,3,4] (yb K)
def qky a b c d e f g h w K:=SC yw 3 [2,3,4] [2,3,4] (yb K) 67 [(4,VI a),(3,VI b),(2,VS c d e),(0,VS f g h)] w
abbrev qz4 K:=kq yw 3 [2,3,4] [2,3,4] (yb K)
def qkW a b c d e f g h i j k w K:=SC yw 7 [2,3,4] [2,3,4] (yb K) 67 [(5,VS a b c),(4,VI d),(3,VI e),(2,VS f g h),(0,VS i j k)] w
abbrev VH K:=kq yw 7 [2,3,4] [2,3,4] (yb K)
abbrev qyK K:=kq yw 14 [0,5] [2,3,4] (VH K)
def qmF a b c d e f g h i j k l w K:=SC yw 29 [0,5] [2,3,4] (VH K) 67 [(6,VI a),(5,VS b c d),(4,VI e),(3,VI f),(2,VS g h i),(0,VS j k l)] w
abbrev q6Q K:=qp 0 (VH K)
def qtM K Y4 e w:=zv (fun e w=>CS P (cA yw 116) none [0,5,6,2,3,4] [2,3,4,0,5] (qv [0,5,6,2,3,4] Y4 (q6Q K)) e w) e w
abbrev Zq K Y4:=qv [0,5,6,2,3,4] Y4 (q6Q K)
def qbA a b c d f g h i j k l m w K Y4:=SG yw 116 [0,5,6,2,3,4] [2,3,4,0,5] (Zq K Y4) 67 [(0,VS a b c),(5,VS d f g),(6,VI h),(2,VS i j k),(3,VI l),(4,VI m)] w
abbrev qmt K Y4:=kq yw 116 [0,5,6,2,3,4] [2,3,4,0,5] (Zq K Y4)
abbrev qDa K Y4:=kq yw 232 [0,5,6,2,3,4] [2,3,4,0,5] (qmt K Y4)
def qj7 a b c d f g h i j k l m w K Y4:=SG yw 233 [0,5,6,2,3,4] [2,3,4,0,5] (Zq K Y4) 67 [(0,VS a b c),(5,VS d f g),(6,VI h),(2,VS i j k),(3,VI l),(4,VI m)] w
abbrev qke K Y4:=kq yw 233 [0,5,6,2,3,4] [2,3,4,0,5] (Zq K Y4)
abbrev VO K Y4:=qp 1 (qke K Y4)
abbrev qzR K Y4:=kq yw 932 [0,5,2,3,4,6] [2,3,4,0,5,6] (VO K Y4)
abbrev qsf K Y4:=kq yw 1865 [0,5,2,3,4,6] [2,3,4,0,5,6] (VO K Y4)
def Vu a b c d f g h i j k l m n o p q w K Y4:=SG yw 7461 [0,2,3,4,6,7,5] [2,3,4,0,5,6] (qsf K Y4) 67 [(39,VB a),(0,VS b c d),(5,VS f g h),(6,VI i),(2,VS j k l),(3,VI m),(4,VI n),(7,VS o p q)] w
def qm9 a b c d f g h i j k l m n o p w K Y4:=SG yw 3731 [0,5,2,3,4,6] [2,3,4,0,5,6] (VO K Y4) 67 [(0,VS a b c),(2,VS d f g),(3,VI h),(4,VI i),(6,VI j),(7,VS k l m),(5,VS n o p)] w
abbrev qr1 K Y4:=kq yw 3731 [0,5,2,3,4,6] [2,3,4,0,5,6] (VO K Y4)
def q5V a b c d f g h i j k l m w K Y4:=SG yw 467 [0,5,6,2,3,4] [2,3,4,0,5] (Zq K Y4) 67 [(0,VS a b c),(5,VS d f g),(2,VS h i j),(3,VI k),(4,VI l),(6,VI m)] w
theorem qf6:q5V a c d e f g h i j k l m w K Y4=(Y4 (qi.mk 67 [(0,(Value.slice a c d)),(5,(Value.slice e f g)),(6,(Value.int .i64 (IntKind.wrap .i64 (m+1)))),(2,(Value.slice h i j)),(3,(Value.int .i64 k)),(4,(Value.int .i64 l))] []) w):=qD kr
theorem qfN:qm9 d e f g h i j k l o p q m c n w K Y4=(qo (decide ((((c:Nat):Int):Int)<=65536)) (∃ (r:OA) (s t:Nat),∃ u:World,(Builtin.append_ #[38,38] 38 #[(Value.slice m c n),(Value.slice o p q)]).run P w=.ok (.slice r s t) u/\q5V d e f r s t g h i j k l u K Y4) (q5V d e f m c n g h i j k l w K Y4)):=qD (qH [43,0,2,3,4,6,7,5] (qr1 K Y4) kr)
theorem qi5:Vu c d e f g h i a j k l m n o p q w K Y4=(qo c (K (Value.tuple #[(Value.slice none 0 0),(Value.int .i64 a),(Value.int .i64 170)]) w) (qm9 d e f j k l m n a o p q g h i w K Y4)):=qD kr
theorem qdN:qj7 e d f g h i c j k l m n w K Y4=(qh e (fun x=>0<=c/\c<(d:Nat)/\qS 15 (x.add (Int.toNat c*15)) w (fun y=>q9 P 73 [(Value.agg y)] w (fun z r=>∃ (o:OA) (p q:Nat),∃ s:Int,z=(.tuple #[(Value.slice o p q),(Value.int .i64 s)])/\qo (s != 0) (Vu true e d f g h i c j k l m n o p q r K Y4) (qh e (fun a0=>0<=c/\c<(d:Nat)/\∃ t:Int,r.cell? (a0.add (Int.toNat c*15))=some (.int .i64 t)/\q9 P 117 [(Value.int .i64 t)] r (fun b0 u=>∃ v:Bool,b0=(.bool v)/\qo v (Vu (c != (IntKind.wrap .i64 ((((d:Nat):Int):Int)-1))) e d f g h i c j k l m n o p q u K Y4) (Vu false e d f g h i c j k l m n o p q u K Y4)))))))):=qD (qH [0,5,2,3,4,6] (qke K Y4) (Qp 1 [2,3,4,0,5,6] (VO K Y4) (qH [0,5,6,2,3,4,7,8] (qzR K Y4) kr)))
def qnD a b c d f g w K:=SG yw 15 [2,3,4] [2,3,4] (yb K) 67 [(0,VS a b c),(5,VS d f g)] w
abbrev q1z K:=kq yw 15 [2,3,4] [2,3,4] (yb K)
abbrev qvW K:=kq yw 30 [5] [2,3,4] (q1z K)
def q2j a b c d f g h w K:=SG yw 61 [5] [2,3,4] (q1z K) 67 [(60,VB a),(0,VS b c d),(5,VS f g h)] w
def qaQ a b c w K:=SG yw 31 [2,3,4] [2,3,4] (yb K) 67 [(5,VS a b c)] w
abbrev q9m K:=kq yw 31 [2,3,4] [2,3,4] (yb K)
abbrev qwp K:=kq yw 62 [5] [2,3,4] (q9m K)
def qcn a b c w K:=SG yw 63 [2,3,4] [2,3,4] (yb K) 67 [(5,VS a b c)] w
abbrev qsb K:=kq yw 63 [2,3,4] [2,3,4] (yb K)
theorem q9t:qcn c d e w K=(K (Value.tuple #[(Value.slice c d e),(Value.int .i64 0),(Value.int .i64 0)]) w):=qD (qH [2,3,4] (qsb K) kr)
theorem qaA:qaQ d c e w K=(qo (decide ((((c:Nat):Int):Int) > 65536)) (K (Value.tuple #[(Value.slice none 0 0),(Value.int .i64 0),(Value.int .i64 2)]) w) (qcn d c e w K)):=qD (qH [5] (q9m K) (qH [65,5] (qwp K) kr))
theorem q9H:q2j a g c h d e f w K=(qo a (K (Value.tuple #[(Value.slice none 0 0),(Value.int .i64 ((c:Nat):Int)),(Value.int .i64 170)]) w) (qaQ d e f w K)):=qD kr
theorem qh2:qnD d c e f g h w K=(qo ((((c:Nat):Int):Int)==0) (q2j true d c e f g h w K) (qh d (fun k=>0<=(IntKind.wrap .i64 ((((c:Nat):Int):Int)-1))/\(IntKind.wrap .i64 ((((c:Nat):Int):Int)-1))<(c:Nat)/\∃ i:Int,w.cell? (k.add (Int.toNat (IntKind.wrap .i64 ((((c:Nat):Int):Int)-1))*15))=some (.int .i64 i)/\q9 P 117 [(Value.int .i64 i)] w (fun l m=>∃ j:Bool,l=(.bool j)/\q2j (!j) d c e f g h m K)))):=qD (qH [5] (q1z K) (qH [60,0,5] (qvW K) kr))
theorem qc9:qbA d c e f g h i j k l m n w K Y4=(qo (decide (i<((c:Nat):Int))) (qj7 d c e f g h i j k l m n w K Y4) (qnD d c e f g h w K)):=qD (qH [0,5,6,2,3,4] (qmt K Y4) (qH [12,0,5,6,2,3,4] (qDa K Y4) kr))
theorem qfQ:qmF a c d e f g h i j k l m w K=(qO (qtM K) (qi.mk 67 [(0,(Value.slice k l m)),(5,(Value.slice c d e)),(6,(Value.int .i64 a)),(2,(Value.slice h i j)),(3,(Value.int .i64 g)),(4,(Value.int .i64 f))] []) w):=Eq.trans (b:=CS P (cA yw 29) none [0,5] [2,3,4] (VH K) (qi.mk 67 [(6,(VI a)),(5,(VS c d e)),(4,(VI f)),(3,(VI g)),(2,(VS h i j)),(0,(VS k l m))] []) w) kr (Eq.trans (Zk 0 [2,3,4,0,5] (q6Q K) kr) ((zb (b:=(cA yw 116)) (X':=[2,3,4,0,5]) (H:=[0,5,6,2,3,4]) kr kr kr).trans kr))
theorem qh4:qkW c d e f g h i j k l m w K=(qmF 0 c d e f g h i j k l m w K):=Eq.trans (b:=CS P (cA yw 7) none [2,3,4] [2,3,4] (yb K) (qi.mk 67 [(5,(VS c d e)),(4,(VI f)),(3,(VI g)),(2,(VS h i j)),(0,(VS k l m))] []) w) kr (Eq.trans (zh [0,5] (VH K) kr) (Eq.trans (zh [0,5,6,2,3,4] (qyK K) kr) kr))
theorem qeO:qky c d e f g h i j w K=(qkW none 0 0 c d e f g h i j w K):=Eq.trans (b:=CS P (cA yw 3) none [2,3,4] [2,3,4] (yb K) (qi.mk 67 [(4,(VI c)),(3,(VI d)),(2,(VS e f g)),(0,(VS h i j))] []) w) kr (Eq.trans (zh [0,5,2,3,4] (qz4 K) kr) kr)
theorem qgP:qnF c d e w K=(qky 0 0 none 0 0 c d e w K):=Eq.trans (b:=CS P (cA yw 1) none [2,3,4] [2,3,4] (yb K) (qi.mk 67 [(0,(VS c d e))] []) w) kr (Eq.trans (zh [0,2,3,4] (qDx K) kr) kr)
theorem qAI:f112 a b c w K=(qnF a b c w K):=kr
theorem qC5 a b c w K(h:f112 a b c w K):q9 P 112 [(Value.slice a b c)] w K:=qA yw Tryz.func112 h
def c73:=ql Tryz.f73
def qMf:=Tryz.f73.results.toList
abbrev vS K:=qr P qMf K
def f73 a w K:=CS P c73 none [2,3] [2,3] (vS K) (qz 110 [(Value.agg a)]) w
def quy a w K:=SG c73 7 [2,3] [2,3] (vS K) 110 [(1,VQ a)] w
def qhC a b c d f w K:=SG c73 63 [2,3] [2,3] (vS K) 110 [(1,VQ a),(4,VQ b),(6,VS c d f)] w
def qhO a b c d f w K:=SG c73 127 [2,3] [2,3] (vS K) 110 [(1,VQ a),(4,VQ b),(6,VS c d f)] w
def qdt a b c d f w K:=SG c73 255 [2,3] [2,3] (vS K) 110 [(1,VQ a),(4,VQ b),(6,VS c d f)] w
def q62 a b c d f w K:=SG c73 511 [2,3] [2,3] (vS K) 110 [(1,VQ a),(4,VQ b),(6,VS c d f)] w
def qda a b c d f w K:=SG c73 1023 [2,3] [2,3] (vS K) 110 [(1,VQ a),(4,VQ b),(6,VS c d f)] w
def qdK a b c d f w K:=SG c73 2047 [2,3] [2,3] (vS K) 110 [(1,VQ a),(4,VQ b),(6,VS c d f)] w
def q5j a b c d f w K:=SG c73 4095 [2,3] [2,3] (vS K) 110 [(1,VQ a),(4,VQ b),(6,VS c d f)] w
def qe2 a b c d f w K:=SG c73 8191 [2,3] [2,3] (vS K) 110 [(1,VQ a),(4,VQ b),(6,VS c d f)] w
def qeX a b c d f w K:=SG c73 16383 [2,3] [2,3] (vS K) 110 [(1,VQ a),(4,VQ b),(6,VS c d f)] w
def q0M a b c d f w K:=SG c73 32767 [2,3] [2,3] (vS K) 110 [(1,VQ a),(6,VS b c d),(4,VQ f)] w
def q6x a b c w K:=SG c73 65535 [2,3] [2,3] (vS K) 110 [(6,VS a b c)] w
theorem qem:q6x a b c w K=(K (Value.tuple #[(Value.slice a b c),(Value.int .i64 0)]) w):=kr
theorem qf1:q0M d a b c e w K=(∃ f:Bool,w.cell? (e.add 10)=some (.bool f)/\qo f (qS 4 (d.add 11) w (fun n=>q9 P 121 [(Value.agg n)] w (fun o p=>∃ (g:OA) (h i:Nat),o=(.slice g h i)/\∃ (j:OA) (k l:Nat),∃ m:World,(Builtin.append_ #[38,38] 38 #[(Value.slice a b c),(Value.slice g h i)]).run P p=.ok (.slice j k l) m/\q6x j k l m K))) (q6x a b c w K)):=kr
theorem q44:qeX a b c d e w K=(∃ f:Bool,w.cell? (b.add 9)=some (.bool f)/\qo f (∃ g:Int,w.cell? (a.add 10)=some (.int .u32 g)/\q9 P 120 [(Value.int .u32 g),(Value.int .i64 4)] w (fun o p=>∃ (h:OA) (i j:Nat),o=(.slice h i j)/\∃ (k:OA) (l m:Nat),∃ n:World,(Builtin.append_ #[38,38] 38 #[(Value.slice c d e),(Value.slice h i j)]).run P p=.ok (.slice k l m) n/\q0M a k l m b n K)) (q0M a c d e b w K)):=kr
theorem q4E:qe2 a b c d e w K=(∃ f:Bool,w.cell? (b.add 8)=some (.bool f)/\qo f (∃ g:Int,w.cell? (a.add 9)=some (.int .u32 g)/\q9 P 120 [(Value.int .u32 g),(Value.int .i64 4)] w (fun o p=>∃ (h:OA) (i j:Nat),o=(.slice h i j)/\∃ (k:OA) (l m:Nat),∃ n:World,(Builtin.append_ #[38,38] 38 #[(Value.slice c d e),(Value.slice h i j)]).run P p=.ok (.slice k l m) n/\qeX a b k l m n K)) (qeX a b c d e w K)):=kr
theorem q4H:q5j a b c d e w K=(∃ f:Bool,w.cell? (b.add 7)=some (.bool f)/\qo f (∃ g:Int,w.cell? (a.add 8)=some (.int .i64 g)/\q9 P 120 [(Value.int .u32 (IntKind.wrap .u32 g)),(Value.int .i64 2)] w (fun o p=>∃ (h:OA) (i j:Nat),o=(.slice h i j)/\∃ (k:OA) (l m:Nat),∃ n:World,(Builtin.append_ #[38,38] 38 #[(Value.slice c d e),(Value.slice h i j)]).run P p=.ok (.slice k l m) n/\qe2 a b k l m n K)) (qe2 a b c d e w K)):=kr
theorem qqD:qdK a b c d e w K=(∃ g:Int,w.cell? (b.add 6)=some (.int .i64 g)/\qo (g != 0) (∃ f:Int,w.cell? (a.add 7)=some (.int .i64 f)/\qJ 1 [(Value.int .u8 (IntKind.wrap .u8 f))]/\qu (([(Value.int .u8 (IntKind.wrap .u8 f))].map fun(v:Value)=>v.cells.toList).flatten.toArray) 5 w (fun l m=>∃ (h:OA) (i j:Nat),∃ k:World,(Builtin.append_ #[38,38] 38 #[(Value.slice c d e),(Value.slice (some (Addr.mk l 0 none)) 1 1)]).run P m=.ok (.slice h i j) k/\q5j a b h i j k K)) (q5j a b c d e w K)):=kr
theorem qqE:qda a b c d e w K=(∃ g:Int,w.cell? (b.add 5)=some (.int .i64 g)/\qo (g != 0) (∃ f:Int,w.cell? (a.add 6)=some (.int .i64 f)/\qJ 1 [(Value.int .u8 (IntKind.wrap .u8 f))]/\qu (([(Value.int .u8 (IntKind.wrap .u8 f))].map fun(v:Value)=>v.cells.toList).flatten.toArray) 5 w (fun l m=>∃ (h:OA) (i j:Nat),∃ k:World,(Builtin.append_ #[38,38] 38 #[(Value.slice c d e),(Value.slice (some (Addr.mk l 0 none)) 1 1)]).run P m=.ok (.slice h i j) k/\qdK a b h i j k K)) (qdK a b c d e w K)):=kr
theorem qoE:q62 a b c d e w K=(∃ g:Int,w.cell? (b.add 4)=some (.int .i64 g)/\qo (g != 0) (∃ f:Int,w.cell? (a.add 5)=some (.int .i64 f)/\qJ 1 [(Value.int .u8 (IntKind.wrap .u8 f))]/\qu (([(Value.int .u8 (IntKind.wrap .u8 f))].map fun(v:Value)=>v.cells.toList).flatten.toArray) 5 w (fun l m=>∃ (h:OA) (i j:Nat),∃ k:World,(Builtin.append_ #[38,38] 38 #[(Value.slice c d e),(Value.slice (some (Addr.mk l 0 none)) 1 1)]).run P m=.ok (.slice h i j) k/\qda a b h i j k K)) (qda a b c d e w K)):=kr
theorem qoX:qdt a b c d e w K=(∃ g:Int,w.cell? (b.add 3)=some (.int .i64 g)/\qo (g != 0) (∃ f:Int,w.cell? (a.add 4)=some (.int .i64 f)/\qJ 1 [(Value.int .u8 (IntKind.wrap .u8 f))]/\qu (([(Value.int .u8 (IntKind.wrap .u8 f))].map fun(v:Value)=>v.cells.toList).flatten.toArray) 5 w (fun l m=>∃ (h:OA) (i j:Nat),∃ k:World,(Builtin.append_ #[38,38] 38 #[(Value.slice c d e),(Value.slice (some (Addr.mk l 0 none)) 1 1)]).run P m=.ok (.slice h i j) k/\q62 a b h i j k K)) (q62 a b c d e w K)):=kr
theorem qpQ:qhO a b c d e w K=(∃ g:Bool,w.cell? (b.add 2)=some (.bool g)/\qo g (∃ f:Int,w.cell? (a.add 3)=some (.int .i64 f)/\qJ 1 [(Value.int .u8 (IntKind.wrap .u8 f))]/\qu (([(Value.int .u8 (IntKind.wrap .u8 f))].map fun(v:Value)=>v.cells.toList).flatten.toArray) 5 w (fun l m=>∃ (h:OA) (i j:Nat),∃ k:World,(Builtin.append_ #[38,38] 38 #[(Value.slice c d e),(Value.slice (some (Addr.mk l 0 none)) 1 1)]).run P m=.ok (.slice h i j) k/\qdt a b h i j k K)) (qdt a b c d e w K)):=kr
theorem qpG:qhC a b c d e w K=(∃ g:Bool,w.cell? (b.add 1)=some (.bool g)/\qo g (∃ f:Int,w.cell? (a.add 2)=some (.int .i64 f)/\qJ 1 [(Value.int .u8 (IntKind.wrap .u8 f))]/\qu (([(Value.int .u8 (IntKind.wrap .u8 f))].map fun(v:Value)=>v.cells.toList).flatten.toArray) 5 w (fun l m=>∃ (h:OA) (i j:Nat),∃ k:World,(Builtin.append_ #[38,38] 38 #[(Value.slice c d e),(Value.slice (some (Addr.mk l 0 none)) 1 1)]).run P m=.ok (.slice h i j) k/\qhO a b h i j k K)) (qhO a b c d e w K)):=kr
theorem qqT:quy a w K=(∃ f:Int,w.cell? a=some (.int .i64 f)/\q9 P 119 [(Value.int .i64 f)] w (fun o p=>∃ g:Array Value,∃ q:Bool,o=(.tuple #[(Value.agg g),(Value.bool q)])/\qu (qx P 172) 172 p (fun b r=>zW 11 (Addr.mk b 0 none) g r (fun h=>∃ d:Int,h.cell? a=some (.int .i64 d)/\qJ 1 [(Value.int .u8 (IntKind.wrap .u8 d))]/\qu (([(Value.int .u8 (IntKind.wrap .u8 d))].map fun(v:Value)=>v.cells.toList).flatten.toArray) 5 h (fun i c=>∃ j:Bool,c.cell? (Addr.mk b 0 none)=some (.bool j)/\qo j (∃ e:Int,c.cell? (a.add 1)=some (.int .i64 e)/\qJ 1 [(Value.int .u8 (IntKind.wrap .u8 e))]/\qu (([(Value.int .u8 (IntKind.wrap .u8 e))].map fun(v:Value)=>v.cells.toList).flatten.toArray) 5 c (fun s t=>∃ (k:OA) (l m:Nat),∃ n:World,(Builtin.append_ #[38,38] 38 #[(Value.slice (some (Addr.mk i 0 none)) 1 1),(Value.slice (some (Addr.mk s 0 none)) 1 1)]).run P t=.ok (.slice k l m) n/\qhC a (Addr.mk b 0 none) k l m n K)) (qhC a (Addr.mk b 0 none) (some (Addr.mk i 0 none)) 1 1 c K)))))):=kr
theorem qFp:f73 a w K=(qu a 119 w (fun b c=>qS 15 (Addr.mk b 0 none) c (fun f=>q9 P 118 [(Value.agg f)] c (fun g d=>∃ e:Bool,g=(.bool e)/\qo (!e) (K (Value.tuple #[(Value.slice none 0 0),(Value.int .i64 170)]) d) (quy (Addr.mk b 0 none) d K))))):=kr
theorem qG4 a w K(h:f73 a w K):q9 P 73 [(Value.agg a)] w K:=qA c73 Tryz.func73 h
end Go.Fx.Tryz
namespace Go.Fx.Tryz
open Go Go.Fx Go.Fx.Ch
open Go.Proofs
set_option linter.all false
set_option maxRecDepth 20000
variable {w0 w:World} {H X G:qE} {K:KT}
def X1:HI:={ op:=1 }
def X2(at_:Int):HI:={ op:=40,k:=1,i:=at_ }
theorem vI{cs vs:List Value}(h:vs.length=cs.length):qW cs 0 vs=vs:=by
 rw[ZX _ _ _ om]
 simp[h]
def Zc:Int->List Value
 | 1=>[.bool false,.bool false,.bool false,J 1,J 0,J 0,J 0,.bool false,.bool true,.bool false,.bool false]
 | _=>[.bool false,.bool false,.bool false,J 0,J 0,J 0,J 0,.bool true,.bool true,.bool true,.bool false]
def Is2(x:HI):Prop:=x=X1\/∃ a,x=X2 a
theorem qq3{x a b:Int}(hK:K (.bool (decide (a<=x)&&decide (x<=b))) w):q9 P 190 [J x,J a,J b] w K:=by
 refine qDh _ _ _ _ _ ?_
 rw[qyI,qg]
 refine⟨fun h=>?_,fun h=>?_⟩<;>rw[qcG]
 ·have:decide (a<=x)=true:=h
  rw[this,Bool.true_and]at hK;exact hK
 ·have:decide (a<=x)=false:=h
  rw[this,Bool.false_and]at hK;exact hK
theorem qj3{x:Int}(hK:K (.bool (x==40||x==41)) w):q9 P 117 [J x] w K:=by
 refine qxR _ _ _ ?_
 rw[qxm]
 cases h:(x==40)<;>rw[h]at hK<;>simp only[qe,qb,qhF]
 ·exact hK
 ·exact hK
theorem ZM:qx P 172=#[.bool false,.bool false,.bool false,J 0,J 0,J 0,J 0,.bool false,.bool false,.bool false,.bool false]:=kr
theorem qGp(wq:World):(Instr.build 172 [(3,J 1),(8,.bool true)].toArray).run P wq=.ok (.agg (Zc 1).toArray) wq:=kr
theorem qCk(wq:World):(Instr.build 172 [(7,.bool true),(8,.bool true),(9,.bool true)].toArray).run P wq=.ok (.agg (Zc 40).toArray) wq:=kr
theorem VC(x:Int):∀ v∈(Zc x).toArray.toList,v.oneCell'=true:=by
 unfold Zc
 split<;>simp[Value.oneCell']
theorem ym(x:Int):(Zc x).length=11:=by unfold Zc;split<;>rfl
theorem qtI(x:Int):(Zc x).take 11=Zc x:=List.take_of_length_le (by rw[ym];exact Nat.le_refl _)
theorem qcc(h:St w0 w H){op:Int}(ho:op=1\/op=40)(hK:∀ w',St w0 w' H->K (.tuple [.agg (Zc op).toArray,.bool true].toArray) w'):q9 P 119 [J op] w K:=by
 refine qDb _ _ _ ?_
 rw[qAA,qfo,ZM]
 refine h.newC fun n2 w3 hn2 h3=>?_
 have out:∀ {w4:World},St w0 w4 ((n2,Cs [.bool false,.bool false,.bool false,J 0,J 0,J 0,J 0,.bool false,.bool false,.bool false,.bool false] 172)::H)->zW 11 (Addr.mk n2 0 none) (Zc op).toArray w4 (fun w10=>qS 11 (Addr.mk n2 0 none) w10 (fun cs11=>K (.tuple [.agg cs11,.bool true].toArray) w10)):=fun {w4} h4=>by
  refine h4.stA (k:=0) rfl (by simp[ym]) (by simp) (VC op) fun w10 h10=>h10.ldA (k:=0) rfl (by simp[zw]) ?_
  have:=hK w10 (h10.tail hn2)
  rw[vI (by simp[ym])]
  simpa [ym,qtI]using this
 rw[qdU]
 rcases ho with rfl | rfl
 ·simp only[q3j,Int.reduceBEq,qe,qb]
  exact⟨_,qGp,out h3⟩
 ·simp only[q3j,qgX,qfR,qgk,qe9,qcJ,qcP,qfh,q8t,qaX,Int.reduceBEq,qe,qb]
  exact⟨_,qCk,out h3⟩
theorem q4K(x:HI):∀ v∈(qq x).toArray.toList,v.oneCell'=true:=by simp[qq,Value.oneCell']
theorem qDD(h:St w0 w H){x:HI}(ho:x.op=1\/x.op=40)(hK:∀ w',St w0 w' H->K (.tuple [.agg (Zc x.op).toArray,.bool true].toArray) w'):q9 P 180 [.agg (qq x).toArray] w K:=by
 refine qBe _ _ _ ?_
 rw[qyX,ZM]
 refine h.newC fun n1 w2 hn1 h2=>h2.newC fun n3 w4 hn3 h4=>⟨x.op,h4.cell (k:=1) rfl,?_⟩
 refine qcc h4 ho fun w7 h7=>⟨_,_,rfl,?_⟩
 refine h7.newC fun n10 w11 hn10 h11=>h11.stA (k:=0) rfl (by simp[ym]) (by simp) (VC _) fun w12 h12=>⟨x.op,h12.cell (k:=2) rfl,?_⟩
 have hne:(x.op==34)=false:=by rcases ho with h | h<;>rw[h]<;>decide
 simp only[hne,qb]
 rw[qio,qb,qie]
 rw[vI (by simp[ym])]at h12
 refine h12.ldA (k:=0) rfl (by simp[ym]) ?_
 rw[List.drop_zero,List.take_of_length_le (by simp[ym])]
 refine h12.stA (k:=1) rfl (by simp[ym]) (by simp) (VC _) fun w24 h24=>h24.ldA (k:=1) rfl (by simp[zw]) ?_
 rw[vI (by simp[ym])]
 have:=hK w24 (((h24.tail hn10).tail hn3).tail hn1)
 simpa [ym,qtI]using this
theorem qCh(h:St w0 w H){x:HI}(ho:x.op=1\/x.op=40)(hs:x.sub=0)(hK:∀ w',St w0 w' H->K (.bool true) w'):q9 P 181 [.agg (qq x).toArray] w K:=by
 refine qCb _ _ _ ?_
 rw[qx3,qhS]
 refine h.newC fun n2 w3 hn2 h3=>?_
 rw[qgq]
 refine⟨x.op,h3.cell (k:=0) rfl,?_⟩
 have c1:w3.cell? ((Addr.mk n2 0 none).add 1)=some (J 0):=by rw[qa,h3.cell (k:=0) rfl,<-hs];rfl
 have hK:=hK w3 (h3.tail hn2)
 rcases ho with h | h<;>rw[h]<;>simp only[qij,qdz,Int.reduceBEq,qe,qb,qfT]<;>exact⟨0,c1,hK⟩
theorem quY(h:St w0 w H){x:HI}(ho:x.op=1\/x.op=40)(hs:x.ty=0)(hK:∀ w',St w0 w' H->K (.bool true) w'):q9 P 182 [.agg (qq x).toArray] w K:=by
 refine qBW _ _ _ ?_
 rw[qBb,qhu]
 refine h.newC fun n2 w3 hn2 h3=>?_
 rw[qdu]
 refine⟨x.op,h3.cell (k:=0) rfl,?_⟩
 have c1:w3.cell? ((Addr.mk n2 0 none).add 3)=some (J 0):=by rw[qa,h3.cell (k:=0) rfl,<-hs];rfl
 have hK:=hK w3 (h3.tail hn2)
 rcases ho with h | h<;>rw[h]<;>simp only[qfA,qhs,Int.reduceBEq,qe,qb,qh3]<;>exact⟨0,c1,hK⟩
theorem qfd(h:St w0 w H){x:HI}(ho:x.op=1/\x.k=0\/x.op=40/\x.k=1)(hK:∀ w',St w0 w' H->K (.bool true) w'):q9 P 183 [.agg (qq x).toArray] w K:=by
 refine qy6 _ _ _ ?_
 rw[qAj,qgu]
 refine h.newC fun n2 w3 hn2 h3=>?_
 rw[qfE]
 refine⟨x.op,h3.cell (k:=0) rfl,?_⟩
 have c1:w3.cell? ((Addr.mk n2 0 none).add 8)=some (J x.k):=by rw[qa];exact h3.cell (k:=0) rfl
 have hK:=hK w3 (h3.tail hn2)
 rcases ho with⟨h,hk⟩ | ⟨h,hk⟩<;>rw[h]<;>rw[hk]at c1
 ·simp only[q30,q2V,q32,q2D,q3B,q25,JV,Int.reduceBEq,qe,qb,JP]
  exact⟨0,c1,hK⟩
 ·simp only[q30,q2V,q32,q2D,q3B,q25,JV,Int.reduceBEq,qe,qb,JP]
  refine⟨1,c1,qq3 ⟨_,rfl,?_⟩⟩
  exact hK
theorem Qm{n k a b:Int}(hn:n=0)(hk:k=0\/k=1)(ha:0<a)(hK:K (.bool true) w):q9 P 184 [J n,J k,J a,J b] w K:=by
 refine qAW _ _ _ _ _ _ ?_
 subst hn
 rw[qwU]
 rcases hk with rfl | rfl
 ·simp only[Int.reduceBEq,qe];exact hK
 ·simp only[Int.reduceBEq,qb]
  rw[qhz]
  simp only[Int.reduceBEq,qb]
  rw[qh9]
  simp only[ge_iff_le,Int.le_refl,decide_true,qe]
  rw[qic,decide_eq_true ha]
  exact hK
theorem qKw(h:St w0 w H){x:HI}(hx:Is2 x)(hK:∀ w',St w0 w' H->K (.bool true) w'):q9 P 118 [.agg (qq x).toArray] w K:=by
 have ho:x.op=1/\x.k=0\/x.op=40/\x.k=1:=by
  rcases hx with rfl | ⟨a,rfl⟩
  ·exact .inl ⟨rfl,rfl⟩
  ·exact .inr ⟨rfl,rfl⟩
 have ho1:x.op=1\/x.op=40:=ho.imp And.left And.left
 have hz:x.sub=0/\x.frm=0/\x.ty=0/\x.d=0/\x.a=0/\x.b=0/\x.c=0/\x.chain=0/\x.v0=0/\x.v1=0/\x.v2=0/\x.v3=0:=by
  rcases hx with rfl | ⟨a,rfl⟩<;>exact⟨rfl,rfl,rfl,rfl,rfl,rfl,rfl,rfl,rfl,rfl,rfl,rfl⟩
 obtain⟨z1,z2,z3,z4,z5,z6,z7,z8,z9,z10,z11,z12⟩:=hz
 refine qBr _ _ _ ?_
 rw[qyv]
 refine h.newC fun n1 w2 hn1 h2=>?_
 have h2:St w0 w2 ((n1,Cs (qq x) 119)::H):=h2
 refine h2.ldA (k:=0) rfl (by simp[qq]) ?_
 refine qzU _ _ _ _ _ ?_
 rw[qCq]
 refine h2.newC fun n3 w4 hn3 h4=>?_
 have h4:St w0 w4 ((n3,Cs (qq x) 119)::(n1,Cs (qq x) 119)::H):=h4
 refine h4.ldA (k:=0) rfl (by simp[qq]) ?_
 refine qDD (x:=x) h4 ho1 fun w7 h7=>⟨_,_,rfl,?_⟩
 rw[ZM]
 refine h7.newC fun n10 w11 hn10 h11=>h11.stA (k:=0) rfl (by simp[ym]) (by simp) (VC _) fun w12 h12=>?_
 rw[vI (by simp[ym])]at h12
 have h12:St w0 w12 ((n10,Cs (Zc x.op) 172)::(n3,Cs (qq x) 119)::(n1,Cs (qq x) 119)::H):=h12
 simp only[Bool.not_true,qb]
 refine h12.ldA (k:=1) rfl (by simp[qq]) ?_
 refine qCh (x:=x) h12 ho1 z1 fun w100 h100=>⟨_,rfl,?_⟩
 simp only[Bool.not_true,qb]
 refine h100.ldA (k:=1) rfl (by simp[qq]) ?_
 refine quY (x:=x) h100 ho1 z3 fun w104 h104=>⟨_,rfl,?_⟩
 simp only[Bool.not_true,qb]
 refine h104.ldA (k:=1) rfl (by simp[qq]) ?_
 refine qfd (x:=x) h104 ho fun w108 h108=>⟨_,rfl,?_⟩
 rw[Bool.not_true,qcL,qb,qHg]
 have cx:∀ i,w108.cell? ((Addr.mk n3 0 none).add i)=(qq x)[i]?:=fun i=>by rw[qa,h108.cell (k:=1) rfl,Nat.zero_add]
 have cf:∀ i,w108.cell? ((Addr.mk n10 0 none).add i)=(Zc x.op)[i]?:=fun i=>by rw[qa,h108.cell (k:=0) rfl,Nat.zero_add]
 have cV:∀ K:Array Value->Prop,K #[U 0,U 0,U 0,U 0]->qS 4 ((Addr.mk n3 0 none).add 11) w108 K:=fun K hK=>by
  rw[qa]
  refine h108.ldA (k:=1) rfl (by simp[qq]) ?_
  have:((qq x).drop (0+11)).take 4=[U 0,U 0,U 0,U 0]:=by simp[qq,z9,z10,z11,z12]
  rw[this];exact hK
 have fin:q18 false 6 12 (Addr.mk n10 0 none) (Addr.mk n3 0 none) w108 (fun r5 w5=>∃ b6:Bool,r5=Value.bool b6/\K (Value.bool b6) w5):=by
  rw[qg9,qb,qgl]
  have hd:(Zc x.op)[3]?=some (J 0)\/(Zc x.op)[3]?=some (J 1):=by rcases ho1 with h | h<;>rw[h]<;>simp[Zc]
  have hf:(Zc x.op)[4]?=some (J 0)/\(Zc x.op)[5]?=some (J 0)/\(Zc x.op)[6]?=some (J 0):=by rcases ho1 with h | h<;>rw[h]<;>simp[Zc]
  obtain⟨k,hk,hc⟩:∃ k:Int,(k=0\/k=1)/\w108.cell? ((Addr.mk n10 0 none).add 3)=some (J k):=by
   rcases hd with hd | hd
   ·exact⟨0,.inl rfl,by rw[cf];exact hd⟩
   ·exact⟨1,.inr rfl,by rw[cf];exact hd⟩
  refine⟨x.d,by rw[cx];rfl,k,hc,Qm z4 hk (by decide) ⟨_,rfl,?_⟩⟩
  simp only[qe]
  refine⟨x.a,by rw[cx];rfl,0,by rw[cf];exact hf.1,Qm z5 (.inl rfl) (by decide) ⟨_,rfl,?_⟩⟩
  simp only[qe]
  refine⟨x.b,by rw[cx];rfl,0,by rw[cf];exact hf.2.1,Qm z6 (.inl rfl) (by decide) ⟨_,rfl,?_⟩⟩
  simp only[qe]
  refine⟨x.c,by rw[cx];rfl,0,by rw[cf];exact hf.2.2,Qm z7 (.inl rfl) (by decide) ⟨_,rfl,?_⟩⟩
  rw[qcO]
  exact⟨_,rfl,hK w108 (((h108.tail hn10).tail hn3).tail hn1)⟩
 rcases ho1 with h1 | h1
 ·refine qLL 6 12 (Addr.mk n10 0 none) (Addr.mk n3 0 none) w108 _ ?_ ?_ ?_ ?_ ?_ ?_ cV ?_
  ·rw[cf,h1];rfl
  ·rw[cx,<-z2];rfl
  ·rw[cf,h1];rfl
  ·rw[cf,h1];rfl
  ·rw[cx,<-z8];rfl
  ·rw[cf,h1];rfl
  ·rw[qM3];exact fin
 ·refine qM7 6 12 (Addr.mk n10 0 none) (Addr.mk n3 0 none) w108 _ ?_ ?_ ?_ ?_ ?_ cV ?_
  ·rw[cf,h1];rfl
  ·rw[cx,<-z2];rfl
  ·rw[cf,h1];rfl
  ·rw[cf,h1];rfl
  ·rw[cf,h1];rfl
  ·rw[qL1];exact fin
def leN(x:Int)(n:Nat):List Int:=(List.range n).map fun i=>x / 2 ^ (8*i) % 256
theorem qwt(x:Int)(n:Nat):leN x (n+1)=leN x n++[x / 2 ^ (8*n) % 256]:=by
 unfold leN
 rw[List.range_succ,List.map_append]
 rfl
theorem q5N(x:Int)(n:Nat):(leN x n).length=n:=by simp[leN]
theorem q7u(x:Int):IntKind.wrap .u8 x=x % 256:=by simp[IntKind.wrap,IntKind.bits,IntKind.signed]
theorem qbH{x:Int}(hx:jq x){n:Nat}(hn:n<=4)(h:St w0 w H)(hK:∀ w' ov L,zu 1 5 ov n ((leN x n).map B) L->qF w0 L->St w0 w' (L++H)->K ov w'):q9 P 120 [U x,J n] w K:=by
 refine qBp _ _ _ _ ?_
 rw[qC1]
 refine⟨fun m e w'=>∃ (j:Nat) (a:Option Addr) (c:Nat) (L:qE),j<=n/\m=n-j/\e=qi.mk 22 [(6,J j),(0,U x),(5,.slice a j c),(4,.slice none 0 0),(1,J n)] []/\zu 1 5 (.slice a j c) j ((leN x j).map B) L/\qF w0 L/\St w0 w' (L++H),⟨_,0,none,0,[],by omega,rfl,rfl,zu.nil 1 5,qF.nil _,h⟩,?_⟩
 rintro m e w' ⟨j,a,c,L,hj,rfl,rfl,hS,hN,hs⟩
 show qcw ..
 rw[qaJ,qg]
 refine⟨fun hlt=>?_,fun hge=>?_⟩
 ·have hlt:j<n:=by have:=of_decide_eq_true hlt;omega
  rw[qgp]
  have e1:IntKind.wrap .i64 ((8:Int)*(j:Int))=((8*j:Nat):Int):=by rw[qc om om];omega
  have e2:IntKind.wrap .u64 ((8*j:Nat):Int)=((8*j:Nat):Int):=quS om om
  rw[e1,e2,Int.toNat_natCast]
  have e3:min (8*j) (IntKind.bits .u32)=8*j:=by
   have:IntKind.bits .u32=32:=rfl
   omega
  rw[e3,q7u,Int.fdiv_eq_ediv_of_nonneg _ (Int.le_of_lt (Int.pow_pos (by decide)))]
  generalize hv:x / 2 ^ (8*j) % 256=v
  refine⟨by omega,⟨rfl,trivial⟩,hs.newC fun n15 w13 hn15 h13=>?_⟩
  have h13:St w0 w13 ([(n15,Cs [B (v)] 5)]++(L++H)):=h13
  obtain⟨g,cap,w17,L',hr,hS',h17,hN'⟩:=St.append (P:=P) 38 38 5 Tryz.t5 (B 0) 1 1 Tryz.underlying38 kr rfl rfl rfl rfl om (A:=[(n15,Cs [B (v)] 5)]) (news:=[B (v)]) h13 hS hN (j:=0) rfl rfl (fun u hu=>by rw[List.mem_singleton.1 hu];rfl) (by simp[maxLen];omega) om
  refine⟨_,_,_,w17,hr,?_⟩
  rw[qgA]
  refine⟨n-(j+1),by omega,j+1,some ⟨g,0,none⟩,cap,L',by omega,rfl,by rw[qc om om];rfl,?_,hN',St.tail (H:=L'++H) h17 hn15⟩
  rw[qwt,List.map_append,hv]
  exact hS'
 ·have:j=n:=by have:=of_decide_eq_false hge;omega
  subst this
  rw[qg1]
  exact hK w' _ L hS hN hs
theorem q0z{x:Int}{n:Nat}(hx:jq x)(hn:n<=4){o:List Int}{a:Option Addr}{c:Nat}{Lo:qE}{Q:Option Addr->Nat->Nat->World->Prop}(h:St w0 w (Lo++H))(hS:zu 1 5 (.slice a o.length c) o.length (o.map B) Lo)(hN:qF w0 Lo)(ho:o.length<1000)
  (hQ:∀ w' a' c' Lo',zu 1 5 (.slice a' (o++leN x n).length c') (o++leN x n).length ((o++leN x n).map B) Lo'->qF w0 Lo'->St w0 w' (Lo'++H)->Q a' (o++leN x n).length c' w') :
  q9 P 120 [U x,J n] w (fun r w1=>∃ (sa:Option Addr) (sl sc:Nat),r=.slice sa sl sc/\∃ (ta:Option Addr) (tl tc:Nat),∃ w2:World,(Builtin.append_ #[38,38] 38 [.slice a o.length c,.slice sa sl sc].toArray).run P w1=.ok (.slice ta tl tc) w2/\Q ta tl tc w2):=by
 refine qbH hx hn h fun w1 ov M hM hMN h1=>?_
 obtain⟨sa,sc,e⟩:=hM.form
 subst e
 have h2:St w0 w1 ([]++(Lo++(M++H))):=h1.perm (qm fun c=>by simp only[List.nil_append,List.map_append,List.sum_append];omega)
 obtain⟨v',w',L',hr,hS',h3,hN'⟩:=St.appendN (P:=P) 38 38 5 Tryz.t5 (B 0) 1 1 Tryz.underlying38 kr rfl rfl rfl rfl om h2 hS hN hM (fun u hu=>h2.has _ _ (List.mem_append_right [] (List.mem_append_right Lo (List.mem_append_left _ hu)))) (qce _) (by simp[maxLen];omega) om
 have hle:(o++leN x n).length=o.length+n:=by rw[List.length_append,q5N]
 rw[<-hle,<-List.map_append]at hS'
 obtain⟨ta,tc,e⟩:=hS'.form
 subst e
 refine⟨sa,n,sc,rfl,ta,_,tc,w',hr,hQ w' ta tc L' hS' hN' ?_⟩
 have h4:St w0 w' (M++(L'++H)):=St.perm (H:=[]++(L'++(M++H))) h3 (qm fun c=>by simp only[List.nil_append,List.map_append,List.sum_append];omega)
 exact h4.sub hMN
def q0i(x:HI):List Int:=if x.op=1 then[1,0]++leN x.i 4 else[40]++leN 1 2++leN x.i 4++leN 0 4
theorem qs3{x:HI}(hx:Is2 x)(hi:jq x.i)(h:St w0 w H)(hK:∀ w' a c L,zu 1 5 (.slice a (q0i x).length c) (q0i x).length ((q0i x).map B) L->qF w0 L->St w0 w' (L++H)->K (.tuple [.slice a (q0i x).length c,J 0].toArray) w'):q9 P 73 [.agg (qq x).toArray] w K:=by
 refine qG4 _ _ _ ?_
 rw[qFp]
 refine h.newC fun n1 w2 hn1 h2=>?_
 have h2:St w0 w2 ((n1,Cs (qq x) 119)::H):=h2
 refine h2.ldA (k:=0) rfl (by simp[qq]) ?_
 refine qKw h2 hx fun w5 h5=>⟨_,rfl,?_⟩
 simp only[Bool.not_true,qb]
 rw[qqT]
 have ho1:x.op=1\/x.op=40:=by
  rcases hx with rfl | ⟨a,rfl⟩
  ·exact .inl rfl
  ·exact .inr rfl
 refine⟨x.op,h5.cell (k:=0) rfl,qcc h5 ho1 fun w10 h10=>⟨_,_,rfl,?_⟩⟩
 rw[ZM]
 refine h10.newC fun n13 w14 hn13 h14=>h14.stA (k:=0) rfl (by simp[ym]) (by simp) (VC _) fun w15 h15=>?_
 rw[vI (by simp[ym])]at h15
 have h15:St w0 w15 ((n13,Cs (Zc x.op) 172)::(n1,Cs (qq x) 119)::H):=h15
 refine⟨x.op,h15.cell (k:=1) rfl,⟨rfl,trivial⟩,h15.newC fun n20 w18 hn20 h18=>?_⟩
 rw[q7u]at h18
 have h18:St w0 w18 ([(n20,Cs [B (x.op % 256)] 5)]++((n13,Cs (Zc x.op) 172)::(n1,Cs (qq x) 119)::H)):=h18
 have hS:zu 1 5 (.slice (some ⟨n20,0,none⟩) 1 1) 1 ([x.op % 256].map B) [(n20,Cs [B (x.op % 256)] 5)]:=⟨rfl,.inr ⟨n20,1,_,rfl,rfl,Nat.le_refl _,by decide,rfl,rfl⟩⟩
 have hN:qF w0 [(n20,Cs [B (x.op % 256)] 5)]:=fun y hy=>by rw[List.mem_singleton.1 hy];exact hn20
 have cf:∀ {w2:World} {L:qE} (i:Nat),St w0 w2 (L++((n13,Cs (Zc x.op) 172)::(n1,Cs (qq x) 119)::H))->w2.cell? ((Addr.mk n13 0 none).add i)=(Zc x.op)[i]?:=fun {w2 L} i h2=>by
  rw[qa,qw (h2.has _ _ (List.mem_append_right L (.head _))),Nat.zero_add]
 have cx:∀ {w2:World} {L:qE} (i:Nat),St w0 w2 (L++((n13,Cs (Zc x.op) 172)::(n1,Cs (qq x) 119)::H))->w2.cell? ((Addr.mk n1 0 none).add i)=(qq x)[i]?:=fun {w2 L} i h2=>by
  rw[qa,qw (h2.has _ _ (List.mem_append_right L (.tail _ (.head _)))),Nat.zero_add]
 have fin:∀ {w2:World} {a:Option Addr} {c:Nat} {L:qE} {o:List Int},o=q0i x->zu 1 5 (.slice a o.length c) o.length (o.map B) L->qF w0 L->St w0 w2 (L++((n13,Cs (Zc x.op) 172)::(n1,Cs (qq x) 119)::H))->q0M (Addr.mk n1 0 none) a o.length c (Addr.mk n13 0 none) w2 K:=fun {w2 a c L o} ho hS hN h2=>by
  subst ho
  have hv:(Zc x.op)[10]?=some (.bool false):=by rcases ho1 with h | h<;>rw[h]<;>rfl
  rw[qf1]
  refine⟨false,by rw[cf 10 h2];exact hv,?_⟩
  rw[qb,qem]
  have h3:St w0 w2 ((n13,Cs (Zc x.op) 172)::(n1,Cs (qq x) 119)::(L++H)):=h2.perm (qm fun c=>by simp only[List.map_append,List.map_cons,List.sum_append,List.sum_cons];omega)
  exact hK w2 a c L hS hN ((h3.tail hn13).tail hn1)
 have h0:w18.cell? (Addr.mk n13 0 none)=some (.bool false):=by
  have:=cf 0 h18
  rw[qa]at this
  rw[this]
  rcases ho1 with h | h<;>rw[h]<;>rfl
 refine⟨false,h0,?_⟩
 rw[qb,qpG]
 have hf:(Zc x.op)[1]?=some (.bool false)/\(Zc x.op)[2]?=some (.bool false)/\(Zc x.op)[4]?=some (J 0)/\(Zc x.op)[5]?=some (J 0)/\(Zc x.op)[6]?=some (J 0)/\(Zc x.op)[8]?=some (.bool true):=by
  rcases ho1 with h | h<;>rw[h]<;>exact⟨rfl,rfl,rfl,rfl,rfl,rfl⟩
 refine⟨false,by rw[cf 1 h18];exact hf.1,?_⟩
 rw[qb,qpQ]
 refine⟨false,by rw[cf 2 h18];exact hf.2.1,?_⟩
 rw[qb,qoX]
 have regs:∀ {w2:World} {a:Option Addr} {n c:Nat} {L:qE},St w0 w2 (L++((n13,Cs (Zc x.op) 172)::(n1,Cs (qq x) 119)::H))->q5j (Addr.mk n1 0 none) (Addr.mk n13 0 none) a n c w2 K->q62 (Addr.mk n1 0 none) (Addr.mk n13 0 none) a n c w2 K:=fun {w2 a n c L} h2 hk=>by
  rw[qoE]
  refine⟨0,by rw[cf 4 h2];exact hf.2.2.1,?_⟩
  simp only[show((0:Int) != 0)=false from rfl,qb]
  rw[qqE]
  refine⟨0,by rw[cf 5 h2];exact hf.2.2.2.1,?_⟩
  simp only[show((0:Int) != 0)=false from rfl,qb]
  rw[qqD]
  refine⟨0,by rw[cf 6 h2];exact hf.2.2.2.2.1,?_⟩
  simp only[show((0:Int) != 0)=false from rfl,qb]
  exact hk
 rcases hx with rfl | ⟨at_,rfl⟩
 ·-- a set
  refine⟨1,by rw[cf 3 h18];rfl,?_⟩
  simp only[show((1:Int) != 0)=true from rfl,qe]
  refine⟨0,by rw[cx 4 h18];rfl,⟨rfl,trivial⟩,h18.newC fun n59 w57 hn59 h57=>?_⟩
  rw[q7u]at h57
  have h57:St w0 w57 ([(n59,Cs [B (0 % 256)] 5)]++([(n20,Cs [B (1 % 256)] 5)]++((n13,Cs (Zc 1) 172)::(n1,Cs (qq X1) 119)::H))):=h57
  obtain⟨g,cap,w61,L',hr,hS',h61,hN'⟩:=St.append (P:=P) 38 38 5 Tryz.t5 (B 0) 1 1 Tryz.underlying38 kr rfl rfl rfl rfl om (A:=[(n59,Cs [B (0 % 256)] 5)]) (news:=[B (0 % 256)]) h57 hS hN (j:=0) rfl rfl (fun u hu=>by rw[List.mem_singleton.1 hu];rfl) (by simp[maxLen]) om
  refine⟨_,_,_,w61,hr,?_⟩
  have h62:St w0 w61 (L'++((n13,Cs (Zc 1) 172)::(n1,Cs (qq X1) 119)::H)):=St.tail h61 hn59
  refine regs h62 ?_
  rw[q4H]
  refine⟨false,by rw[cf 7 h62];rfl,?_⟩
  rw[qb,q4E]
  refine⟨true,by rw[cf 8 h62];rfl,?_⟩
  rw[qe]
  refine⟨0,by rw[cx 9 h62];rfl,?_⟩
  refine q0z (n:=4) (o:=[1,0]) YS om h62 hS' hN' (by decide) fun w2 a c L hS2 hN2 h2=>?_
  rw[q44]
  refine⟨false,by rw[cf 9 h2];rfl,?_⟩
  rw[qb]
  exact fin rfl hS2 hN2 h2
 ·-- an end
  refine⟨0,by rw[cf 3 h18];rfl,?_⟩
  simp only[show((0:Int) != 0)=false from rfl,qb]
  refine regs h18 ?_
  rw[q4H]
  refine⟨true,by rw[cf 7 h18];rfl,?_⟩
  rw[qe]
  refine⟨1,by rw[cx 8 h18];rfl,?_⟩
  rw[Qy (by decide) (by decide)]
  refine q0z (n:=2) (o:=[40]) ⟨by decide,by decide⟩ om h18 hS hN (by decide) fun w2 a c L hS2 hN2 h2=>?_
  rw[q4E]
  refine⟨true,by rw[cf 8 h2];rfl,?_⟩
  rw[qe]
  refine⟨at_,by rw[cx 9 h2];rfl,?_⟩
  refine q0z (n:=4) (o:=[40]++leN 1 2) hi om h2 hS2 hN2 (by decide) fun w3 a3 c3 L3 hS3 hN3 h3=>?_
  rw[q44]
  refine⟨true,by rw[cf 9 h3];rfl,?_⟩
  rw[qe]
  refine⟨0,by rw[cx 10 h3];rfl,?_⟩
  refine q0z (n:=4) (o:=[40]++leN 1 2++leN at_ 4) YS om h3 hS3 hN3 (by simp[q5N]) fun w4 a4 c4 L4 hS4 hN4 h4=>?_
  exact fin rfl hS4 hN4 h4
def zN(l:List HI):List Int:=(l.map q0i).flatten
def zP(n:Nat)(at_:Int):List HI:=List.replicate n X1++[X2 at_]
theorem Jb(n:Nat)(at_:Int):(zP n at_).length=n+1:=by simp[zP]
theorem qwm{n:Nat}{at_:Int}{i:Nat}(hi:i<(zP n at_).length):(zP n at_)[i]=if i<n then X1 else X2 at_:=by
 simp only[zP,List.getElem_append,List.length_replicate,List.getElem_replicate]
 split
 ·rfl
 ·have:i-n=0:=by rw[Jb]at hi;omega
  simp[this]
theorem qcl{x:HI}(hx:Is2 x):(q0i x).length<=11:=by
 rcases hx with rfl | ⟨a,rfl⟩<;>simp[q0i,q5N,X1,X2]
theorem q3Z{l:List HI}(hx:∀ x∈l,Is2 x):(zN l).length<=11*l.length:=by
 induction l with
 | nil=>simp[zN]
 | cons x r ih=>
  have h1:=ih fun y hy=>hx y (.tail _ hy)
  have h2:=qcl (hx x (.head _))
  unfold zN at *
  simp only[List.map_cons,List.flatten_cons,List.length_append,List.length_cons]
  omega
theorem qhc(l:List HI)(x:HI):zN (l++[x])=zN l++q0i x:=by simp[zN]
theorem qd0{n:Nat}{at_:Int}{a:Option Addr}{c:Nat}(hn:n<=39)(hat:jq at_)(h:St w0 w H)(hrow:∀ w',St w0 w' H->vo w' 15 (.slice a (zP n at_).length c) (zP n at_).length ((zP n at_).map qq).flatten)
  (hK:∀ w' ov L,zu 1 5 ov (zN (zP n at_)).length ((zN (zP n at_)).map B) L->qF w0 L->St w0 w' (L++H)->K (.tuple [ov,J 0,J 0].toArray) w'):q9 P 112 [.slice a (zP n at_).length c] w K:=by
 have hlen:=Jb n at_
 have hat':∀ {i:Nat} (hi:i<(zP n at_).length),(zP n at_)[i]=if i<n then X1 else X2 at_:=qwm
 generalize zP n at_=l at *
 have hIs:∀ {i:Nat} (hi:i<l.length),Is2 l[i]/\jq l[i].i:=fun {i} hi=>by
  rw[hat' hi]
  split
  ·exact⟨.inl rfl,YS⟩
  ·exact⟨.inr ⟨_,rfl⟩,hat⟩
 have hall:∀ x∈l,Is2 x:=fun x hx=>by
  obtain⟨i,hi,rfl⟩:=List.getElem_of_mem hx
  exact(hIs hi).1
 have hop:∀ {w2:World} {i:Nat} (hi:i<l.length),St w0 w2 H->∃ ad,a=some ad/\w2.cell? (ad.add (i*15))=some (J l[i].op)/\∀ K:Array Value->Prop,K (qq l[i]).toArray->qS 15 (ad.add (i*15)) w2 K:=fun {w2 i} hi h2=>by
  obtain⟨ad,cp,hac,hld⟩:=(hrow w2 h2).ldA hi
  injection hac with hac _ _
  rw[yY qq 15 (fun x=>rfl) l hi]at hld
  refine⟨ad,hac,?_,hld⟩
  obtain⟨cs,hsz,hcs,hc0⟩:=hld (fun cs=>cs=(qq l[i]).toArray) rfl
  have:=hcs 0 (by decide)
  rw[hc0]at this
  have e:(ad.add (i*15)).add 0=ad.add (i*15):=by rw[vv];rfl
  rw[e]at this
  rw[this];rfl
 refine qC5 _ _ _ _ _ ?_
 rw[qAI,qgP,qeO,qh4,qfQ]
 have hcl:∀ j,(zN (l.take j)).length<=440:=fun j=>by
  have h1:=q3Z (l:=l.take j) fun x hx=>hall x (List.mem_of_mem_take hx)
  have h2:(l.take j).length<=l.length:=by rw[List.length_take];omega
  omega
 refine⟨fun m e w'=>∃ (j:Nat) (oa:Option Addr) (oc:Nat) (L:qE),j<=l.length/\m=l.length-j/\e=qi.mk 67 [(0,.slice a l.length c),(5,.slice oa (zN (l.take j)).length oc),(6,J j),(2,.slice none 0 0),(3,J 0),(4,J 0)] []/\
  zu 1 5 (.slice oa (zN (l.take j)).length oc) (zN (l.take j)).length ((zN (l.take j)).map B) L/\qF w0 L/\St w0 w' (L++H),⟨_,0,none,0,[],by omega,rfl,rfl,zu.nil 1 5,qF.nil _,h⟩,?_⟩
 rintro m e w' ⟨j,oa,oc,L,hj,rfl,rfl,hS,hN,hs⟩
 show qbA ..
 rw[qc9,qg]
 refine⟨fun hlt=>?_,fun hge=>?_⟩
 ·have hlt:j<l.length:=by have:=of_decide_eq_true hlt;omega
  rw[qdN]
  obtain⟨ad,rfl,hc,hld⟩:=hop hlt (hs.sub hN)
  refine⟨by omega,by omega,?_⟩
  rw[Int.toNat_natCast]
  refine hld _ ?_
  refine qs3 (hIs hlt).1 (hIs hlt).2 hs fun w32 ba bc M hM hMN h32=>⟨_,_,_,_,rfl,?_⟩
  simp only[show((0:Int) != 0)=false from rfl,qb]
  obtain⟨ad2,e2,hc2,_⟩:=hop hlt ((h32.sub hMN).sub hN)
  cases e2
  refine⟨by omega,by omega,l[j].op,hc2,?_⟩
  refine qj3 ⟨_,rfl,?_⟩
  have s6:Vu false (some ad) l.length c oa (zN (l.take j)).length oc j none 0 0 0 0 ba (q0i l[j]).length bc w32 K (fun e' w'=>∃ m,m<l.length-j/\∃ (j:Nat) (oa:Option Addr) (oc:Nat) (L:qE),j<=l.length/\m=l.length-j/\e'=qi.mk 67 [(0,.slice (some ad) l.length c),(5,.slice oa (zN (l.take j)).length oc),(6,J j),(2,.slice none 0 0),(3,J 0),(4,J 0)] []/\
    zu 1 5 (.slice oa (zN (l.take j)).length oc) (zN (l.take j)).length ((zN (l.take j)).map B) L/\qF w0 L/\St w0 w' (L++H)):=by
   rw[qi5,qb,qfN]
   have hle:=hcl j
   rw[decide_eq_true om,qe]
   have h33:St w0 w32 ([]++(L++(M++H))):=h32.perm (qm fun c=>by simp only[List.nil_append,List.map_append,List.sum_append];omega)
   have hel:=qcl (hIs hlt).1
   obtain⟨v',w2,L',hr,hS',h34,hN'⟩:=St.appendN (P:=P) 38 38 5 Tryz.t5 (B 0) 1 1 Tryz.underlying38 kr rfl rfl rfl rfl om h33 hS hN hM (fun u hu=>h33.has _ _ (List.mem_append_right [] (List.mem_append_right L (List.mem_append_left _ hu)))) (qce _) (by simp[maxLen];omega) om
   have hst:zN (l.take (j+1))=zN (l.take j)++q0i l[j]:=by rw[zx l hlt,qhc]
   have hsl:(zN (l.take (j+1))).length=(zN (l.take j)).length+(q0i l[j]).length:=by rw[hst,List.length_append]
   rw[<-hsl,<-List.map_append,<-hst]at hS'
   obtain⟨ta,tc,e⟩:=hS'.form
   subst e
   refine⟨ta,_,tc,w2,hr,?_⟩
   rw[qf6]
   have h35:St w0 w2 (M++(L'++H)):=St.perm (H:=[]++(L'++(M++H))) h34 (qm fun c=>by simp only[List.nil_append,List.map_append,List.sum_append];omega)
   exact⟨l.length-(j+1),by omega,j+1,ta,tc,L',by omega,rfl,by rw[qc om om];rfl,hS',hN',h35.sub hMN⟩
  rw[qg]
  refine⟨fun hb=>?_,fun _=>s6⟩
  have hjn:¬ j<n:=fun hh=>by
   rw[hat' hlt,if_pos hh]at hb
   exact absurd hb (by decide)
  have:((j:Int) != IntKind.wrap .i64 (((l.length:Nat):Int)-1))=false:=by
   rw[qc om om]
   simp
   omega
  rw[this]
  exact s6
 ·have:j=l.length:=by have:=of_decide_eq_false hge;omega
  subst this
  rw[List.take_length]at hS ⊢
  rw[qh2]
  have hne:(((l.length:Nat):Int)==0)=false:=beq_eq_false_iff_ne.2 om
  rw[hne,qb]
  have hlt:l.length-1<l.length:=by omega
  obtain⟨ad,rfl,hc,_⟩:=hop hlt (hs.sub hN)
  have ew:IntKind.wrap .i64 (((l.length:Nat):Int)-1)=((l.length-1:Nat):Int):=by rw[qc om om];omega
  rw[ew]
  refine⟨by omega,by omega,_,by rw[Int.toNat_natCast];exact hc,qj3 ⟨_,rfl,?_⟩⟩
  have hnl:¬ l.length-1<n:=by omega
  have hlast:l[l.length-1].op=40:=by rw[hat' hlt,if_neg hnl];rfl
  rw[hlast]
  simp only[show((40:Int)==40)=true from rfl,Bool.true_or,Bool.not_true]
  rw[q9H,qb,qaA]
  have hle:=q3Z hall
  have hd:decide ((((zN l).length:Nat):Int) > 65536)=false:=decide_eq_false om
  rw[hd,qb,q9t]
  exact hK w' _ L hS hN hs
theorem q4p{n:Nat}{at_:Int}{a:Option Addr}{c:Nat}(hn:n<=39)(hat:jq at_)(h:St w0 w H)(hrow:∀ w',St w0 w' H->vo w' 15 (.slice a (zP n at_).length c) (zP n at_).length ((zP n at_).map qq).flatten)
  (hK:∀ w' ov L,zu 1 5 ov (zN (zP n at_)).length ((zN (zP n at_)).map B) L->qF w0 L->St w0 w' (L++H)->K ov w'):q9 P 64 [.slice a (zP n at_).length c] w K:=by
 refine qGJ _ _ _ _ _ ?_
 rw[qEL]
 refine qd0 hn hat h hrow fun w' ov L hS hN hs=>?_
 obtain⟨oa,oc,e⟩:=hS.form
 subst e
 exact⟨_,_,_,_,_,rfl,hK w' _ L hS hN hs⟩
theorem bX2(at_:Int)(wq:World):(Instr.build 119 [(0,J 40),(8,J 1),(9,U at_)].toArray).run P wq=.ok (.agg (qq (X2 at_)).toArray) wq:=kr
theorem bX1(wq:World):(Instr.build 119 [(0,J 1)].toArray).run P wq=.ok (.agg (qq X1).toArray) wq:=kr
theorem qlo{at_:Int}(hat:jq at_)(h:St w0 w H)(hK:∀ w' ov L,zu 1 5 ov (zN (zP 0 at_)).length ((zN (zP 0 at_)).map B) L->qF w0 L->St w0 w' (L++H)->K ov w'):q9 P 19 [U at_] w K:=by
 refine qHB _ _ _ ?_
 rw[qFH]
 refine⟨_,bX2 at_,⟨rfl,trivial⟩,h.newC fun n5 w3 hn5 h3=>?_⟩
 have h3:St w0 w3 ((n5,Cs (qq (X2 at_)) 119)::H):=h3
 have hrow:∀ w',St w0 w' ((n5,Cs (qq (X2 at_)) 119)::H)->vo w' 15 (.slice (some (Addr.mk n5 0 none)) 1 1) 1 (qq (X2 at_)):=fun w' h'=>⟨rfl,.inr ⟨_,_,rfl,fun i hi=>by rw[qa,h'.cell (k:=0) rfl,Nat.zero_add]⟩⟩
 refine q4p (n:=0) (at_:=at_) om hat h3 (by simpa [zP]using hrow) fun w7 ov L hS hN h7=>?_
 obtain⟨oa,oc,e⟩:=hS.form
 subst e
 refine⟨_,_,_,rfl,hK w7 _ L hS hN ?_⟩
 have h8:St w0 w7 ((n5,Cs (qq (X2 at_)) 119)::(L++H)):=h7.perm (qm fun c=>by simp only[List.map_append,List.map_cons,List.sum_append,List.sum_cons];omega)
 exact h8.tail hn5
theorem qxs(j:Nat):((List.replicate j X1).map qq).flatten.length=j*15:=by
 induction j with
 | zero=>rfl
 | succ j ih=>
  rw[List.replicate_succ,List.map_cons,List.flatten_cons,List.length_append,ih]
  show 15+_=_
  omega
theorem quP(j:Nat):((List.replicate (j+1) X1).map qq).flatten=((List.replicate j X1).map qq).flatten++qq X1:=by
 rw[List.replicate_succ',List.map_append,List.flatten_append]
 simp
theorem qIJ:∃ z,Tryz.t119.zero=some z/\z.cells.size=15:=⟨.agg (qq {}).toArray,by kernel_rfl,rfl⟩
theorem qpv{at_:Int}(hat:jq at_)(h:St w0 w H)(hK:∀ w' ov L,zu 1 5 ov (zN (zP 39 at_)).length ((zN (zP 39 at_)).map B) L->qF w0 L->St w0 w' (L++H)->K ov w'):q9 P 50 [U at_] w K:=by
 refine qFN _ _ _ ?_
 rw[qH9]
 obtain⟨z,hz,hzs⟩:=qIJ
 have hr:=run_make (P:=P) w 130 119 Tryz.t119 z Tryz.underlying130 kr hz .i64 .i64 39 39 (by decide) (by decide) (by show((96:Nat):Int)*_<=_;decide) (by decide)
 rw[show Tryz.t119.size=15 from rfl]at hr
 refine⟨_,_,_,_,hr,?_⟩
 have hg:=h.le
 have hsz:(madeCells z.cells (Int.toNat 39*15)).size=585:=by rw[size_madeCells];rfl
 generalize hcs:madeCells z.cells (Int.toNat 39*15)=cs0 at *
 have h1:St w0 (w.alloc (.cells cs0 119)) ((w.heap.size,Cs cs0.toList 119)::H):=by
  have:=h.alloc (.cells cs0 119)
  have e:Obj.cells cs0 119 (0,0)=Cs cs0.toList 119:=by unfold Cs;rw[Array.toArray_toList]
  rw[e]at this
  exact this
 have hl0:cs0.toList.length=585:=by rw[Array.length_toList];exact hsz
 generalize cs0.toList=c0 at *
 generalize w.heap.size=g at *
 refine⟨fun m e w'=>∃ (j:Nat) (cs:List Value),j<=39/\m=39-j/\e=qi.mk 20 [(4,J j),(3,.slice (some ⟨g,0,none⟩) 39 39),(2,.slice none 0 0),(0,U at_)] []/\cs.length=585/\cs.take (j*15)=((List.replicate j X1).map qq).flatten/\St w0 w' ((g,Cs cs 119)::H),⟨_,0,c0,by omega,rfl,rfl,hl0,rfl,h1⟩,?_⟩
 rintro m e w' ⟨j,cs,hj,rfl,rfl,hl,ht,hs⟩
 show qmi ..
 rw[qdJ,qg]
 refine⟨fun hlt=>?_,fun hge=>?_⟩
 ·have hlt:j<39:=by have:=of_decide_eq_true hlt;omega
  rw[qph]
  refine⟨_,bX1,by omega,by omega,?_⟩
  rw[qa,Int.toNat_natCast,Nat.zero_add]
  refine hs.stA (k:=0) rfl rfl om (q4K X1) fun w13 h13=>?_
  rw[qoD]
  have hle:(qq X1).length=15:=rfl
  refine⟨39-(j+1),by omega,j+1,qW cs (j*15) (qq X1),by omega,rfl,by rw[qc om om];rfl,by rw[zw];exact hl,?_,h13⟩
  have hta:(cs.take (j*15)).length=j*15:=by rw[List.length_take];omega
  rw[quP,<-ht,ZX _ _ _ om]
  rw[List.take_append_of_le_length (by rw[List.length_append,hta,hle];omega),List.take_of_length_le (by rw[List.length_append,hta,hle];omega)]
 ·have hj39:j=39:=by have:=of_decide_eq_false hge;omega
  subst hj39
  rw[qpc]
  refine⟨_,bX2 at_,⟨rfl,trivial⟩,hs.newC fun n24 w22 hn24 h22=>?_⟩
  have h22:St w0 w22 ([(n24,Cs (qq (X2 at_)) 119)]++([(g,Cs cs 119)]++H)):=h22
  have hS:zu 15 119 (.slice (some ⟨g,0,none⟩) 39 39) 39 ((List.replicate 39 X1).map qq).flatten [(g,Cs cs 119)]:=⟨qxs 39,.inr ⟨g,39,cs,rfl,rfl,Nat.le_refl _,by decide,hl,ht⟩⟩
  have hN:qF w0 [(g,Cs cs 119)]:=fun x hx=>by rw[List.mem_singleton.1 hx];exact hg
  obtain⟨ga,cap,w26,L',hr2,hS2,h26,hN2⟩:=St.append (P:=P) 130 130 119 Tryz.t119 z 15 96 Tryz.underlying130 kr hz rfl rfl hzs om (A:=[(n24,Cs (qq (X2 at_)) 119)]) (news:=qq (X2 at_)) h22 hS hN (j:=0) rfl rfl (by have:=q4K (X2 at_);simpa using this) (by simp[maxLen]) om
  have hx:((List.replicate 39 X1).map qq).flatten++qq (X2 at_)=((zP 39 at_).map qq).flatten:=by
   unfold zP
   rw[List.map_append,List.flatten_append]
   simp
  rw[hx]at hS2
  have hl40:(zP 39 at_).length=39+1:=Jb 39 at_
  refine⟨_,_,_,w26,hr2,?_⟩
  have h27:St w0 w26 (L'++H):=St.tail h26 hn24
  rw[<-hl40]at hS2 ⊢
  refine q4p (n:=39) (at_:=at_) om hat h27 (fun w' h'=>hS2.row fun u hu=>h'.has _ _ (List.mem_append_left _ hu)) fun w7 ov L hSo hNo h7=>?_
  obtain⟨oa,oc,e⟩:=hSo.form
  subst e
  refine⟨_,_,_,rfl,hK w7 _ L hSo hNo ?_⟩
  have h8:St w0 w7 (L'++(L++H)):=h7.perm (qm fun c=>by simp only[List.map_append,List.sum_append];omega)
  exact h8.sub hN2
theorem qDX(a b:Int)(wq:World):(Instr.build 36 [(0,U a),(1,J b)].toArray).run P wq=.ok (.agg #[U a,J b]) wq:=kr
theorem qHj(a:Int)(n8:Nat)(ca:Option Addr)(cl cc:Nat)(wq:World):(Instr.build 41 [(0,U a),(1,.slice (some (Addr.mk n8 0 none)) 1 1),(2,.slice ca cl cc)].toArray).run P wq=.ok (.agg (yc a (.slice (some (Addr.mk n8 0 none)) 1 1) (.slice ca cl cc)).toArray) wq:=kr
theorem qcg{at_:Int}{ca:Option Addr}{cl cc:Nat}(h:St w0 w H)(hK:∀ w' n8,w0.heap.size<=n8->St w0 w' ((n8,Cs [U at_,J 4] 36)::H)->K (.agg (yc at_ (.slice (some ⟨n8,0,none⟩) 1 1) (.slice ca cl cc)).toArray) w'):q9 P 49 [U at_,.slice ca cl cc] w K:=by
 refine qHm _ _ _ _ _ _ ?_
 rw[qGv,Q5]
 refine h.newC fun n2 w3 hn2 h3=>⟨_,qDX at_ 4,⟨rfl,trivial⟩,h3.newC fun n8 w6 hn8 h6=>⟨_,qHj at_ n8 ca cl cc,?_⟩⟩
 have h6:St w0 w6 ((n8,Cs [U at_,J 4] 36)::(n2,Cs [U 0,.slice none 0 0,.slice none 0 0] 41)::H):=h6
 refine h6.stA (k:=1) rfl rfl (by simp) (by simp[yc,Value.oneCell']) fun w10 h10=>h10.ldA (k:=1) rfl (by simp[zw,yc]) ?_
 have h11:St w0 w10 ((n2,Cs (yc at_ (.slice (some ⟨n8,0,none⟩) 1 1) (.slice ca cl cc)) 41)::(n8,Cs [U at_,J 4] 36)::H):=St.perm (H:=(n8,Cs [U at_,J 4] 36)::(n2,Cs (yc at_ (.slice (some ⟨n8,0,none⟩) 1 1) (.slice ca cl cc)) 41)::H) h10 (List.Perm.swap _ _ _)
 exact hK w10 n8 hn8 (h11.tail hn2)
end Go.Fx.Tryz
namespace Go.Fx.Ch
open Go.Fx.Tryz
set_option linter.all false
set_option maxRecDepth 100000
def c1:List Int:=zN (zP 0 512)
def c2:List Int:=zN (zP 0 256)
def c3:List Int:=zN (zP 39 512)
def T4(a:Int)(c:List Int):TR:=⟨a,[(a,4)],c⟩
def S0:qd:=jf 2 256 4
def S1:qd:=⟨256,4,[(1,⟨256,[(256,4)],c1⟩)],[[1],[]],[0,0,0,0,0,0,0,0,1,0,0,0,0,0,0,0],[],0,1,0,0⟩
def S2:qd:=⟨256,4,[(1,⟨256,[(256,4)],c1⟩),(2,⟨512,[(512,4)],c2⟩)],[[1,2],[]],[0,2,0,0,0,0,0,0,1,0,0,0,0,0,0,0],[],0,2,0,0⟩
def S3:qd:=⟨256,4,[(1,⟨256,[(256,4)],zH c1 7 2⟩),(2,⟨512,[(512,4)],c2⟩)],[[1,2],[]],[0,2,0,0,0,0,0,0,1,0,0,0,0,0,0,0],[(2,[(1,7)])],0,2,0,0⟩
def S4:qd:=⟨256,4,[(1,⟨256,[(256,4)],c1⟩)],[[1],[]],[0,0,0,0,0,0,0,0,1,0,0,0,0,0,0,0],[],0,2,0,1⟩
def S5:qd:=⟨256,4,[(1,⟨256,[(256,4)],c1⟩),(3,⟨600,[(600,4)],c3⟩)],[[1,3],[]],[0,0,0,0,0,0,0,0,1,0,0,3,0,0,0,0],[],0,3,0,1⟩
def S6:qd:=⟨256,4,[(1,⟨256,[(256,4)],c1⟩),(3,⟨600,[(600,4)],c3⟩),(4,⟨700,[(700,4)],c1⟩)],[[1,3],[4]],[0,0,4,0,0,0,0,0,1,0,0,3,0,0,0,0],[],1,4,0,1⟩
def S7:qd:=⟨256,4,[(1,⟨256,[(256,4)],c1⟩),(3,⟨600,[(600,4)],c3⟩),(4,⟨700,[(700,4)],c1⟩),(5,⟨800,[(800,4)],c3⟩)],[[1,3],[4,5]],[0,0,4,0,0,0,0,0,1,5,0,3,0,0,0,0],[],1,5,0,1⟩
def S8:qd:=⟨256,4,[(4,⟨700,[(700,4)],c1⟩),(5,⟨800,[(800,4)],c3⟩),(6,⟨900,[(900,4)],c1⟩)],[[6],[4,5]],[6,0,4,0,0,0,0,0,0,5,0,0,0,0,0,0],[],0,6,2,1⟩
structure q1u (s:qd) (t:TR) (g:List Int) (s':qd):Prop where
 err:yn s t=0
 ev:∃ s1,evD t.code.length 5 s=some (g,s1)/\zL s1 t=s'/\s1.given+1=s'.given
theorem p1:q1u S0 (T4 256 c1) [] S1:=⟨by kernel_rfl,S0,by kernel_rfl,by kernel_rfl,by kernel_rfl⟩
theorem p2:q1u S1 (T4 512 c2) [] S2:=⟨by kernel_rfl,S1,by kernel_rfl,by kernel_rfl,by kernel_rfl⟩
theorem p3:zG S2 1 7=(S3,true,0):=kr
theorem p4:zG S3 1 8=(S3,false,1):=kr
theorem p5:zG S3 3 7=(S3,false,211):=kr
theorem p6:q3D ((S3.items.map (·.1)).filter (vN S3 (515,1)))=[2]/\qv1 S3 [2]=true/\({ Qb S3 [2]with dr:=1 }:qd)=S4/\(Qb S3 [2]).dr=0:=⟨by kernel_rfl,by kernel_rfl,by kernel_rfl,by kernel_rfl⟩
theorem p7:q1u S4 (T4 600 c3) [] S5:=⟨by kernel_rfl,S4,by kernel_rfl,by kernel_rfl,by kernel_rfl⟩
theorem p8:q1u S5 (T4 700 c1) [] S6:=⟨by kernel_rfl,qy S5,by kernel_rfl,by kernel_rfl,by kernel_rfl⟩
theorem p9:q1u S6 (T4 800 c3) [] S7:=⟨by kernel_rfl,S6,by kernel_rfl,by kernel_rfl,by kernel_rfl⟩
def S7e:qd:=⟨256,4,[(4,⟨700,[(700,4)],c1⟩),(5,⟨800,[(800,4)],c3⟩)],[[],[4,5]],[0,0,4,0,0,0,0,0,0,5,0,0,0,0,0,0],[],0,5,2,1⟩
theorem p10:q1u S7 (T4 900 c1) [1,3] S8:=⟨by kernel_rfl,S7e,by kernel_rfl,by kernel_rfl,by kernel_rfl⟩
theorem p11:yn S8 (T4 700 c1)=5:=kr
theorem p12:(zO S2 512).1=2/\(zO S8 256).1=0:=⟨by kernel_rfl,by kernel_rfl⟩
theorem p13:vR S3=22/\yC S3=1/\vR S8=267/\yC S8=0:=⟨by kernel_rfl,by kernel_rfl,by kernel_rfl,by kernel_rfl⟩
theorem q2E:c1.length=11:=kr
theorem quC:c3.length=245:=kr
theorem qxD:c1.all (fun b=>decide (0<=b)&&decide (b<256))=true:=kr
theorem qKU:c2.all (fun b=>decide (0<=b)&&decide (b<256))=true:=kr
theorem qJs:c3.all (fun b=>decide (0<=b)&&decide (b<256))=true:=kr
end Go.Fx.Ch
namespace Go.Fx.Tryz
open Go Go.Fx Go.Fx.Ch
open Go.Proofs
set_option linter.all false
set_option maxRecDepth 20000
variable {w0 w:World} {H X G:qE} {K:KT} {s s':qd} {L:qQ} {q:LB}
theorem vY{c:List Int}(h:c.all (fun b=>decide (0<=b)&&decide (b<256))=true):∀ b∈c,0<=b/\b<256:=fun b hb=>by
 have:=List.all_eq_true.1 h b hb
 simpa using this
def q7O(w0:World)(f:FuncId)(a:Int)(c:List Int):Prop:=∀ (w:World) (H:qE) (K:KT),St w0 w H->(∀ w' ov N,zu 1 5 ov c.length (c.map B) N->qF w0 N->St w0 w' (N++H)->K ov w')->q9 P f [U a] w K
theorem Jf:q7O w0 19 512 c1:=fun w H K h hK=>qlo ⟨by decide,by decide⟩ h hK
theorem qEJ:q7O w0 19 256 c2:=fun w H K h hK=>qlo ⟨by decide,by decide⟩ h hK
theorem qr6:q7O w0 50 512 c3:=fun w H K h hK=>qpv ⟨by decide,by decide⟩ h hK
theorem q7P{n8:Nat}{b:Int}{Y:qE}:jP w0 ((n8,Cs [U b,J 4] 36)::Y) (.slice (some ⟨n8,0,none⟩) 1 1) [(b,4)]:=
 ⟨fun w' h'=>⟨rfl,.inr ⟨_,_,rfl,fun i hi=>by rw[qa,h'.cell (k:=0) rfl,Nat.zero_add];rfl⟩⟩,by simp⟩
theorem qbh{c:List Int}{ov:Value}{n8:Nat}{o:Obj}{N Y:qE}(hS:zu 1 5 ov c.length (c.map B) N)(hb:∀ b∈c,0<=b/\b<256)(hl:c.length<1000000):yj w0 ((n8,o)::(N++Y)) ov c:=
 (jv.of hS hb hl).bytes fun u hu=>.tail _ (List.mem_append_left _ hu)
theorem ZY{f:FuncId}{a b:Int}{c:List Int}{g:List Int}(hf:q7O w0 f a c)(hb:∀ b∈c,0<=b/\b<256)(hl:c.length<1000000)(hbW:jq b)(hp:q1u s (T4 b c) g s')(hg0:0<=s.given)(hg1:s.given<=2147483647)(hgl:g.length<1000)
  (hL:L.Ok w0 q s) (hg:zD H) (hX:qF w0 X) (h:St w0 w (L.bl q s++(X++H))) {Q:Int->Option Addr->Nat->Nat->Int->World->Prop}
  (hQ:∀ (w':World) (L':qQ) (X':qE) (sa:Option Addr) (sc:Nat),L'.Ok w0 q s'->qF w0 X'->St w0 w' (L'.bl q s'++(X'++H))->(∃ N,(∀ u∈N,u∈X')/\zu 1 24 (.slice sa g.length sc) g.length ((zI g).map U) N)->Q s'.given sa g.length sc 0 w') :
  q9 P f [U a] w (fun r8 w9=>∃ (sa:Option Addr) (sl sc:Nat),r8=.slice sa sl sc/\q9 P 49 [U b,.slice sa sl sc] w9 (fun r11 w12=>∃ cs13:Array Value,r11=.agg cs13/\q9 P 18 [.pointer (some ⟨q.cb,0,none⟩),.agg cs13] w12 (fun r14 w15=>∃ x16:Int,∃ (ta:Option Addr) (tl tc:Nat),∃ x18:Int,r14=(.tuple [U x16,.slice ta tl tc,J x18].toArray)/\Q x16 ta tl tc x18 w15))):=by
 refine hf _ _ _ h fun w9 ov N hS hN h9=>?_
 obtain⟨sa,sc,e⟩:=hS.form
 subst e
 refine⟨_,_,_,rfl,qcg h9 fun w12 n8 hn8 h12=>⟨_,rfl,?_⟩⟩
 have h13:St w0 w12 (L.bl q s++((n8,Cs [U b,J 4] 36)::(N++(X++H)))):=h12.perm (qm fun c=>by simp only[List.map_append,List.map_cons,List.sum_append,List.sum_cons];omega)
 have hg2:zD ((n8,Cs [U b,J 4] 36)::(N++(X++H))):=hg.mono fun u hu=>.tail _ (List.mem_append_right _ (List.mem_append_right _ hu))
 obtain⟨s1,hev,hadd,hgiv⟩:=hp.ev
 have hspec:=q8C 5 s (g,s1) hev
 refine q7A (t:=T4 b c) h13 hL hg2 q7P (qbh hS hb hl) hbW hg0 hg1 (fun _=>⟨5,hspec.1 0 (by simp only;omega)⟩) (fun hne=>absurd hp.err hne) fun _ w' L' gone s1' ov' N' hE hok hS' hN' hs'=>?_
 obtain⟨rfl,rfl⟩:=hspec.2 _ _ hE
 obtain⟨ta,tc,e⟩:=hS'.form
 subst e
 rw[hadd]at hok hs'
 rw[hgiv]
 refine⟨_,_,_,_,_,rfl,hQ w' L' (N'++((n8,Cs [U b,J 4] 36)::(N++X))) ta tc hok ?_ ?_ ⟨N',fun u hu=>List.mem_append_left _ hu,hS'⟩⟩
 ·refine qF.append hN' (fun u hu=>?_)
  rcases List.mem_cons.1 hu with rfl | hu
  ·exact hn8
  ·exact qF.append hN hX u hu
 ·exact hs'.perm (qm fun c=>by simp only[List.map_append,List.map_cons,List.sum_append,List.sum_cons];omega)
theorem qEQ{f:FuncId}{a b:Int}{c:List Int}(hf:q7O w0 f a c)(hb:∀ b∈c,0<=b/\b<256)(hl:c.length<1000000)(hbW:jq b)(hp:yn s (T4 b c)=5)(hg0:0<=s.given)(hg1:s.given<=2147483647)
  (hL:L.Ok w0 q s) (hg:zD H) (hX:qF w0 X) (h:St w0 w (L.bl q s++(X++H))) {Q:Int->Option Addr->Nat->Nat->Int->World->Prop}
  (hQ:∀ (w':World) (X':qE),qF w0 X'->St w0 w' (L.bl q s++(X'++H))->Q 0 none 0 0 5 w') :
  q9 P f [U a] w (fun r8 w9=>∃ (sa:Option Addr) (sl sc:Nat),r8=.slice sa sl sc/\q9 P 49 [U b,.slice sa sl sc] w9 (fun r11 w12=>∃ cs13:Array Value,r11=.agg cs13/\q9 P 18 [.pointer (some ⟨q.cb,0,none⟩),.agg cs13] w12 (fun r14 w15=>∃ x16:Int,∃ (ta:Option Addr) (tl tc:Nat),∃ x18:Int,r14=(.tuple [U x16,.slice ta tl tc,J x18].toArray)/\Q x16 ta tl tc x18 w15))):=by
 refine hf _ _ _ h fun w9 ov N hS hN h9=>?_
 obtain⟨sa,sc,e⟩:=hS.form
 subst e
 refine⟨_,_,_,rfl,qcg h9 fun w12 n8 hn8 h12=>⟨_,rfl,?_⟩⟩
 have h13:St w0 w12 (L.bl q s++((n8,Cs [U b,J 4] 36)::(N++(X++H)))):=h12.perm (qm fun c=>by simp only[List.map_append,List.map_cons,List.sum_append,List.sum_cons];omega)
 have hg2:zD ((n8,Cs [U b,J 4] 36)::(N++(X++H))):=hg.mono fun u hu=>.tail _ (List.mem_append_right _ (List.mem_append_right _ hu))
 refine q7A (t:=T4 b c) h13 hL hg2 q7P (qbh hS hb hl) hbW hg0 hg1 (fun h0=>by rw[hp]at h0;cases h0) (fun _ w' hs'=>?_) fun h0=>by rw[hp]at h0;cases h0
 rw[hp]
 refine⟨_,_,_,_,_,rfl,hQ w' ((n8,Cs [U b,J 4] 36)::(N++X)) (fun u hu=>?_) ?_⟩
 ·rcases List.mem_cons.1 hu with rfl | hu
  ·exact hn8
  ·exact qF.append hN hX u hu
 ·exact hs'.perm (qm fun c=>by simp only[List.map_append,List.map_cons,List.sum_append,List.sum_cons];omega)
theorem qbl{s:qd}{b:Int}(h0:0<=b)(h:∀ p∈s.hold,(p.2.length:Int)<=b)(c:Int):vK s c<=b:=by
 unfold vK
 cases hl:lk s.hold c with
 | none=>exact h0
 | some v=>
  obtain⟨a,r,e,_⟩:=qcv hl
  exact h (c,v) (by rw[e];simp)
theorem qeA{c:List Int}{ov:Value}{N:qE}(hS:zu 1 5 ov c.length (c.map B) N)(hN:∀ u∈N,w.heap[u.1]?=some u.2)(hc:0<c.length):(convert 38 9 ov).run P w=.ok (.string (strOfNums c)) w:=by
 rcases hS.2 with⟨_,h0,_⟩ | ⟨g,cap,cur,rfl,rfl,h3,h4,h5,h6⟩
 ·omega
 refine run_convert_bytes_arg w 38 5 Tryz.underlying38 kr g 0 c.length cap c rfl (fun i hi=>?_) 9 kr
 have hb:=hN (g,Cs cur 5) (.head _)
 rw[qw hb,Nat.zero_add]
 have:=congrArg (fun l=>l[i]?) h6
 simp only[Nat.mul_one,List.getElem?_take,hi,if_true,List.getElem?_map,List.getElem?_eq_getElem hi,Option.map_some]at this
 rw[this]
 simp[List.getD,List.getElem?_eq_getElem hi]
theorem q5K(wq:World):(do eqGuard .neq 9 (.tmp 129) (.tmp 131) (.string (strOfNums c1)) (.string (strOfNums c1));binOp .neq 9 (.string (strOfNums c1)) (.string (strOfNums c1)):Sem Value).run P wq=.ok (.bool false) wq:=kr
theorem qFG(wq:World):(do eqGuard .neq 47 (.tmp 83) (.tmp 84) (.agg #[J 2,J 22,J 1,J 0,J 0]) (.agg #[J 2,J 22,J 1,J 0,J 0]);binOp .neq 47 (.agg #[J 2,J 22,J 1,J 0,J 0]) (.agg #[J 2,J 22,J 1,J 0,J 0]):Sem Value).run P wq=.ok (.bool false) wq:=kr
theorem qEU(wq:World):(do eqGuard .eql 47 (.tmp 198) (.tmp 199) (.agg #[J 3,J 267,J 0,J 2,J 1]) (.agg #[J 3,J 267,J 0,J 2,J 1]);binOp .eql 47 (.agg #[J 3,J 267,J 0,J 2,J 1]) (.agg #[J 3,J 267,J 0,J 2,J 1]):Sem Value).run P wq=.ok (.bool true) wq:=kr
theorem qMD(wq:World):(Instr.build 47 [(0,J 2),(1,J 22),(2,J 1)].toArray).run P wq=.ok (.agg #[J 2,J 22,J 1,J 0,J 0]) wq:=kr
theorem qMP(wq:World):(Instr.build 47 [(0,J 3),(1,J 267),(3,J 2),(4,J 1)].toArray).run P wq=.ok (.agg #[J 3,J 267,J 0,J 2,J 1]) wq:=kr
theorem qJ8(wq:World):(Instr.build 27 [(0,J 2),(1,J 256),(2,J 16)].toArray).run P wq=.ok (.agg #[J 2,J 256,J 16]) wq:=kr
theorem qyr(hL:L.Ok w0 q S8)(hg:zD H)(hX:qF w0 X)(h:St w0 w (L.bl q S8++(X++H)))(hK:∀ w',St w0 w' H->K (.bool true) w'):qhA (some ⟨q.cb,0,none⟩) w K:=by
 rw[qqe]
 have hg2:zD (X++H):=hg.mono fun u hu=>List.mem_append_right _ hu
 refine q0C h hL hg2 (by decide) (by decide) fun w111 h111=>⟨_,_,rfl,?_⟩
 rw[p12.2]
 refine qEQ Jf (vY qxD) (by rw[q2E];decide) ⟨by decide,by decide⟩ p11 (by decide) (by decide) hL hg hX h111 fun w121 X' hX' h121=>?_
 simp only[show((0:Int) != 0)=false from rfl,Bool.not_false,qe,show((5:Int)==5)=true from rfl]
 have hf:=jN (by kernel_rfl:qad S8=true)
 refine q63 h121 hL hf.rows (by decide) (qbl (by decide) (by intro p hp;cases hp)) fun w126 h126=>⟨_,rfl,_,qMP,?_⟩
 have e1:(#[J S8.items.length,J (vR S8),J (yC S8),J S8.ev,J S8.dr]:Array Value)=#[J 3,J 267,J 0,J 2,J 1]:=by rw[p13.2.2.1,p13.2.2.2];rfl
 rw[e1]
 refine⟨true,qEU,?_⟩
 rw[qoM]
 exact hK w126 ((h126.sub hL.newB).sub hX')
theorem qBS(hL:L.Ok w0 q S4)(hg:zD H)(hX:qF w0 X)(h:St w0 w (L.bl q S4++(X++H)))(hK:∀ w',St w0 w' H->K (.bool true) w'):qcN (some ⟨q.cb,0,none⟩) w K:=by
 rw[qpm]
 refine ZY qr6 (vY qJs) (by rw[quC];decide) ⟨by decide,by decide⟩ p7 (by decide) (by decide) (by decide) hL hg hX h fun w70 L5 X5 _ _ hL5 hX5 h5 _=>?_
 refine ZY Jf (vY qxD) (by rw[q2E];decide) ⟨by decide,by decide⟩ p8 (by decide) (by decide) (by decide) hL5 hg hX5 h5 fun w81 L6 X6 _ _ hL6 hX6 h6 _=>?_
 refine ZY qr6 (vY qJs) (by rw[quC];decide) ⟨by decide,by decide⟩ p9 (by decide) (by decide) (by decide) hL6 hg hX6 h6 fun w92 L7 X7 _ _ hL7 hX7 h7 _=>?_
 refine ZY Jf (vY qxD) (by rw[q2E];decide) ⟨by decide,by decide⟩ p10 (by decide) (by decide) (by decide) hL7 hg hX7 h7 fun w103 L8 X8 sa sc hL8 hX8 h8 hN=>?_
 obtain⟨N,hNX,hS⟩:=hN
 have hso:zI [1,3]=[1,3]:=by rw[Zt];rfl
 rw[hso]at hS
 have hrow:vo w103 1 (.slice sa [1,3].length sc) 2 (([1,3]:List Int).map U):=hS.row fun u hu=>h8.has _ _ (List.mem_append_right _ (List.mem_append_left _ (hNX u hu)))
 obtain⟨ad,cp,hac,_⟩:=vo.ldA (i:=0) hrow (by decide)
 injection hac with hac _ _
 subst hac
 have c0:=j7 (r:=[1,3]) (i:=0) hrow (by decide)
 have c1':=j7 (r:=[1,3]) (i:=1) hrow (by decide)
 have hs8:S8.given=6:=rfl
 simp only[hs8,show((0:Int) != 0)=false from rfl,show((6:Int) != 6)=false from rfl,qb]
 have hl2:((([1,3]:List Int).length:Nat):Int)=2:=rfl
 simp only[hl2,show((2:Int) != 2)=false from rfl,qb]
 refine⟨by decide,by decide,1,c0,?_⟩
 simp only[show((1:Int) != 1)=false from rfl,qb]
 refine⟨by decide,by decide,3,c1',?_⟩
 simp only[show((3:Int) != 3)=false from rfl]
 rw[qpB,qb]
 exact qyr hL8 hg hX8 h8 hK
theorem qxa(hL:L.Ok w0 q S3)(hg:zD H)(hX:qF w0 X)(h:St w0 w (L.bl q S3++(X++H)))(hK:∀ w',St w0 w' H->K (.bool true) w'):qh6 (some ⟨q.cb,0,none⟩) w K:=by
 rw[qoG]
 have hg2:zD (X++H):=hg.mono fun u hu=>List.mem_append_right _ hu
 have hf:=jN (by kernel_rfl:qad S3=true)
 refine Vc (id:=1) (slot:=8) h hL hg2 hf.table ?_
 rw[p4]
 intro w42 L2 hL2 h2
 refine⟨_,_,rfl,?_⟩
 refine Vc (id:=3) (slot:=7) h2 hL2 hg2 hf.table ?_
 rw[p5]
 intro w46 L3 hL3 h3
 refine⟨_,_,rfl,_,qDX 515 1,?_⟩
 refine qmS (r:=(515,1)) h3 hL3 hg2 (by decide) (by decide) (by decide) fun w51 L4 s4 ov N hF hL4 hS hN h4=>?_
 have hdl:jY S3 (515,1)=[2]:=by unfold jY;rw[Zt];exact p6.1
 rw[hdl]at hF hL4 hS h4
 have hs4:({ s4 with dr:=s4.dr+(([2]:List Int).length:Nat) }:qd)=S4:=by
  rw[hF.det p6.2.1,p6.2.2.2]
  exact p6.2.2.1
 rw[hs4]at hL4 h4
 obtain⟨la,lc,e⟩:=hS.form
 subst e
 refine⟨_,_,_,rfl,?_⟩
 have h5:St w0 w51 (L4.bl q S4++(N++(X++H))):=h4.perm (qm fun c=>by simp only[List.map_append,List.sum_append];omega)
 refine qFw (id:=1) h5 hL4 (fun h0=>by cases h0) fun t ht w54 sv' cv' A M hSA hAN hSM hMN h6=>⟨_,_,rfl,?_⟩
 have ht':t=T4 256 c1:=by
  have:lk S4.items 1=some (T4 256 c1):=by rfl
  rw[this]at ht
  exact(Option.some.inj ht).symm
 subst ht'
 obtain⟨sa,sc,e⟩:=hSA.form
 subst e
 obtain⟨ca,cc,e⟩:=hSM.form
 subst e
 rw[Q5]
 refine h6.newC fun n57 w58 hn57 h58=>h58.stA (k:=0) rfl rfl (by simp) (by simp[yc,Value.oneCell']) fun w59 h59=>?_
 have h59:St w0 w59 ((n57,Cs (yc (T4 256 c1).at_ (.slice sa (T4 256 c1).sp.length sc) (.slice ca (T4 256 c1).code.length cc)) 41)::(M++(A++(L4.bl q S4++(N++(X++H)))))):=h59
 have h60:=h59.drew
 have hl1:((([2]:List Int).length:Nat):Int)=1:=rfl
 simp only[show((1:Int) != 1)=false from rfl,show((211:Int) != 211)=false from rfl,show((0:Int) != 0)=false from rfl,hl1,qb]
 have hrow:vo w59.drew 1 (.slice la [2].length lc) 1 (([2]:List Int).map U):=hS.row fun u hu=>h60.has _ _ (.tail _ (List.mem_append_right _ (List.mem_append_right _ (List.mem_append_right _ (List.mem_append_left _ hu)))))
 obtain⟨ad,cp,hac,_⟩:=vo.ldA (i:=0) hrow (by decide)
 injection hac with hac _ _
 subst hac
 have c0:=j7 (r:=[2]) (i:=0) hrow (by decide)
 refine⟨by decide,by decide,2,c0,?_⟩
 simp only[show((2:Int) != 2)=false from rfl,qb]
 refine⟨ca,(T4 256 c1).code.length,cc,by rw[qa];exact h60.cell (k:=0) rfl,?_⟩
 have hpos:0<c1.length:=by rw[q2E];decide
 have hc1:∀ {w2:World} {Z:qE},St w0 w2 (Z++((n57,Cs (yc (T4 256 c1).at_ (.slice sa (T4 256 c1).sp.length sc) (.slice ca (T4 256 c1).code.length cc)) 41)::(M++(A++(L4.bl q S4++(N++(X++H)))))))->(convert 38 9 (.slice ca (T4 256 c1).code.length cc)).run P w2=.ok (.string (strOfNums c1)) w2:=fun {w2 Z} h2=>
  qeA (c:=c1) hSM (fun u hu=>h2.has _ _ (List.mem_append_right _ (.tail _ (List.mem_append_left _ hu)))) hpos
 have fin:∀ {w2:World} {Z:qE},qF w0 Z->St w0 w2 (Z++((n57,Cs (yc (T4 256 c1).at_ (.slice sa (T4 256 c1).sp.length sc) (.slice ca (T4 256 c1).code.length cc)) 41)::(M++(A++(L4.bl q S4++(N++(X++H)))))))->yf false (some ⟨q.cb,0,none⟩) w2 K:=fun {w2 Z} hZ h2=>by
  rw[qoS,qb]
  have h3:St w0 w2 (Z++((n57,Cs (yc (T4 256 c1).at_ (.slice sa (T4 256 c1).sp.length sc) (.slice ca (T4 256 c1).code.length cc)) 41)::(M++(A++(L4.bl q S4++((N++X)++H)))))):=h2.perm (qm fun c=>by simp only[List.map_append,List.map_cons,List.sum_append,List.sum_cons];omega)
  exact qBS hL4 hg (qF.append hN hX) ((((h3.sub hZ).tail hn57).sub hMN).sub hAN) hK
 refine⟨⟨_,_,hc1 (Z:=[]) h60,?_⟩,?_⟩
 ·refine Jf _ _ _ h60 fun w141 ov2 Z hSZ hZ h141=>?_
  obtain⟨za,zc,e⟩:=hSZ.form
  subst e
  exact⟨_,_,_,rfl,_,_,qeA hSZ (fun u hu=>h141.has _ _ (List.mem_append_left _ hu)) hpos,false,q5K,fin hZ h141⟩
 ·refine Jf _ _ _ h60 fun w147 ov2 Z hSZ hZ h147=>?_
  obtain⟨za,zc,e⟩:=hSZ.form
  subst e
  have hm:(n57,Cs (yc (T4 256 c1).at_ (.slice sa (T4 256 c1).sp.length sc) (.slice ca (T4 256 c1).code.length cc)) 41)∈(Z++((n57,Cs (yc (T4 256 c1).at_ (.slice sa (T4 256 c1).sp.length sc) (.slice ca (T4 256 c1).code.length cc)) 41)::(M++(A++(L4.bl q S4++(N++(X++H))))))):=List.mem_append_right _ (.head _)
  have hcell:w147.cell? ((Addr.mk n57 0 none).add 2)=some (.slice ca (T4 256 c1).code.length cc):=by rw[qa,qw (h147.has _ _ hm)];rfl
  have hz:=qeA (w:=w147) hSZ (fun u hu=>h147.has _ _ (List.mem_append_left _ hu)) hpos
  exact⟨_,_,_,rfl,hcell,⟨_,_,hc1 h147,_,_,hz,false,q5K,fin hZ h147⟩,⟨_,_,hz,hcell,_,_,hc1 h147,false,q5K,fin hZ h147⟩⟩
theorem q6R(h:St w0 w H)(hg:zD H)(hK:∀ w',St w0 w' H->K (.bool true) w'):q9 P 15 [] w K:=by
 refine qEC _ _ ?_
 rw[qG0]
 refine⟨_,qJ8,?_⟩
 refine qhd h (fun hc=>by exact absurd hc (by decide)) fun n k hn hk _ _ hk4 hk16 _ _ _ w2 q L hL h2=>⟨_,_,rfl,?_⟩
 have hn2:n=2:=by omega
 have hk4':k=4:=by
  rcases Qc hk4 hk16 with rfl | rfl | rfl | rfl | rfl | rfl | rfl | rfl | rfl | rfl | rfl | rfl | rfl<;>first | rfl | (exact absurd hk (by decide))
 subst hn2;subst hk4'
 have hL:L.Ok w0 q S0:=hL
 have h2:St w0 w2 (L.bl q S0++([]++H)):=h2
 simp only[show((0:Int) != 0)=false from rfl,qb,Option.isNone_some]
 rw[qqf,qb,qoJ]
 refine ZY Jf (vY qxD) (by rw[q2E];decide) ⟨by decide,by decide⟩ p1 (by decide) (by decide) (by decide) hL hg (qF.nil _) h2 fun w15 L1 X1 _ _ hL1 hX1 h15 _=>?_
 refine ZY qEJ (vY qKU) (by decide) ⟨by decide,by decide⟩ p2 (by decide) (by decide) (by decide) hL1 hg hX1 h15 fun w26 L2 X2 _ _ hL2 hX2 h26 _=>?_
 have hg2:zD (X2++H):=hg.mono fun u hu=>List.mem_append_right _ hu
 refine q0C h26 hL2 hg2 (by decide) (by decide) fun w31 h31=>⟨_,_,rfl,?_⟩
 have hf:=jN (by kernel_rfl:qad S2=true)
 refine Vc (id:=1) (slot:=7) h31 hL2 hg2 hf.table ?_
 rw[p3,p12.1]
 intro w35 L3 hL3 h35
 refine⟨_,_,rfl,?_⟩
 have g1:S1.given=1:=rfl
 have g2:S2.given=2:=rfl
 simp only[g1,g2,show((0:Int) != 0)=false from rfl,show((1:Int) != 1)=false from rfl,show((2:Int) != 2)=false from rfl,show((2:Int) != 0)=true from rfl,Bool.not_true,qb]
 have hf3:=jN (by kernel_rfl:qad S3=true)
 refine q63 h35 hL3 hf3.rows (by decide) (qbl (by decide) (by decide)) fun w160 h160=>⟨_,rfl,_,qMD,?_⟩
 have e1:(#[J S3.items.length,J (vR S3),J (yC S3),J S3.ev,J S3.dr]:Array Value)=#[J 2,J 22,J 1,J 0,J 0]:=by rw[p13.1,p13.2.1];rfl
 have h160:St w0 w160 (L3.bl q S3++(X2++H)):=h160
 show ∃ b163:Bool,_/\_
 refine⟨false,?_,?_⟩
 ·show ∀ wq,(do eqGuard .neq 47 (.tmp 83) (.tmp 84) (.agg #[J S3.items.length,J (vR S3),J (yC S3),J S3.ev,J S3.dr]) (.agg #[J 2,J 22,J 1,J 0,J 0]);binOp .neq 47 (.agg #[J S3.items.length,J (vR S3),J (yC S3),J S3.ev,J S3.dr]) (.agg #[J 2,J 22,J 1,J 0,J 0]):Sem Value).run P wq=.ok (.bool false) wq
  rw[e1];exact qFG
 rw[qoq,qb]
 exact qxa hL3 hg hX2 h160 hK
end Go.Fx.Tryz
namespace Go.Fx.Tryz
set_option maxRecDepth 100000
open Go Go.Fx Go.Proofs
def c11:=ql Tryz.f11
def c36:=ql Tryz.f36
def qMM:=Tryz.f36.results.toList
abbrev qrV K:=qr P qMM K
def f36 a w K:=CS P c36 none [2] [2] (qrV K) (qz 13 [(Value.agg a)]) w
def qdw a w K:=SG c36 7 [2] [2] (qrV K) 13 [(2,VB a)] w
theorem q49:qdw a w K=(K (Value.bool a) w):=kr
theorem qE9:f36 b w K=(qu b 41 w (fun c a=>∃ (f:OA) (d g:Nat),a.cell? ((Addr.mk c 0 none).add 2)=some (.slice f d g)/\qo (decide ((((d:Nat):Int):Int)<=5000)) (∃ (h:OA) (e i:Nat),a.cell? ((Addr.mk c 0 none).add 1)=some (.slice h e i)/\qdw (decide ((((e:Nat):Int):Int)<=200)) a K) (qdw false a K))):=kr
theorem qFX a w K(h:f36 a w K):q9 P 36 [(Value.agg a)] w K:=qA c36 Tryz.func36 h
end Go.Fx.Tryz
namespace Go.Fx.Tryz
open Go Go.Fx Go.Fx.Ch
open Go.Proofs
set_option linter.all false
set_option maxRecDepth 20000
variable {w0 w:World} {H X G:qE} {K:KT}
theorem qC2{a:Value}{sa ca:Option Addr}{sl sc cl cc:Nat}(h:St w0 w H)(hK:∀ w',St w0 w' H->K (.bool (decide (cl<=5000)&&decide (sl<=200))) w'):q9 P 36 [.agg #[a,.slice sa sl sc,.slice ca cl cc]] w K:=by
 refine qFX _ _ _ ?_
 rw[qE9]
 refine h.newC fun n1 w2 hn1 h2=>⟨ca,cl,cc,by rw[qa];exact h2.cell (k:=0) rfl,?_⟩
 have hK:=hK w2 (h2.tail hn1)
 rw[qg]
 refine⟨fun hb=>⟨sa,sl,sc,by rw[qa];exact h2.cell (k:=0) rfl,?_⟩,fun hb=>?_⟩
 ·have hb:cl<=5000:=by have:=of_decide_eq_true hb;omega
  rw[q49]
  rw[decide_eq_true hb,Bool.true_and]at hK
  have e:decide (((sl:Nat):Int)<=200)=decide (sl<=200):=by
   by_cases hx:sl<=200
   ·rw[decide_eq_true hx,decide_eq_true om]
   ·rw[decide_eq_false hx,decide_eq_false om]
  rw[e];exact hK
 ·have hb:¬ cl<=5000:=by have:=of_decide_eq_false hb;omega
  rw[q49]
  rw[decide_eq_false hb,Bool.false_and]at hK
  exact hK
end Go.Fx.Tryz
namespace Go.Fx.Tryz
open Go Go.Fx Go.Fx.Ch
open Go.Proofs Go.Proofs.YtepbaneageipfaaGreatDoor
open Go.ChangeShapes Go.WideShapes Go.ChangeAt Go.RowKit
set_option linter.all false
set_option maxRecDepth 100000
variable {W:World}
abbrev JL : List (String × DataW Unit) := [("math/bits.deBruijn32tab", Rows.laid_math_bits_deBruijn32tab), ("math/bits.deBruijn64tab", Rows.laid_math_bits_deBruijn64tab), ("candling/host.forms", Rows.laid_candling_host_forms)]
theorem qbp{n:String}{g:Nat}{cs:Array Value}(hg:P.globalNamed n=some g)(hv:W.var? P n=some cs)(hfz:∃ c t,W.heap[g]?=some (.cells c t (0,0))):∃ t,W.heap[g]?=some (Cs cs.toList t):=by
 obtain⟨c,t,h⟩:=hfz
 simp only[World.var?,hg,Option.bind_some,h,Option.some.injEq]at hv
 subst hv
 exact⟨t,by rw[h];simp[Cs]⟩
theorem d64:(Rows.laid_math_bits_deBruijn64tab:DataW Unit)=.agg (Yp.map fun x=>.lit (.int .u8 x)):=rfl
def qFU:DataW Unit->List (List UInt8)
 | .agg l=>l.map fun
  | .agg (.lit (.string s)::_)=>s
  | _=>[]
 | _=>[]
def qyt:List (List UInt8):=qFU Rows.laid_candling_host_forms
theorem qFn:(Rows.laid_candling_host_forms:DataW Unit)=.agg ((List.range 46).map fun i=>.agg [.lit (.string (qyt.getD i [])),.lit (.int .i64 ((forms.getD i (0,0)).1:Nat)),.lit (.int .i64 ((forms.getD i (0,0)).2:Nat))]):=kr
theorem qv6{ds:List Int}{cs:List Value}{fuel:Nat}{p:List MemPlace}{sp:Nat->Bool}(hl:ds.length=64)(h:DataW.trod (fun _=>()) P W 0 sp false fuel 244 cs=some (.agg (ds.map fun x=>.lit (.int .u8 x)),p)):cs=ds.map fun x=>Value.int .u8 x:=by
 obtain⟨xs,m,_,hx,hlen,hxs,hel⟩:=DataW.trod_array Tryz.underlying244 h
 have c5:P.cellsOf 5=1:=kr
 have c244:P.cellsOf 244=64:=kr
 rw[c244]at hlen
 simp only[Prod.mk.injEq,DataW.agg.injEq]at hx
 apply List.ext_getElem?
 intro i
 by_cases hi:i<64
 ·have he:=hel i hi
  rw[c5,List.getElem?_eq_getElem om]at he
  obtain⟨k,e1,e2,_⟩:=DataW.trod_int Tryz.underlying5 he
  have h1:=congrArg (fun l=>l[i]?) hx.1
  simp only[List.getElem?_map,List.getElem?_eq_getElem (show i<ds.length by omega),List.getElem?_eq_getElem (show i<xs.length by omega),Option.map_some,Option.some.injEq]at h1
  rw[e2]at h1
  have hk:k=ds[i]:=by injection h1 with h1;injection h1 with _ h1;exact h1.symm
  have h2:=congrArg (fun l=>l[0]?) e1
  simp only[Nat.mul_one,List.getElem?_take,List.getElem?_drop,Nat.add_zero,Nat.zero_lt_one,if_true,List.getElem?_cons_zero]at h2
  rw[h2,List.getElem?_map,List.getElem?_eq_getElem om,hk];rfl
 ·rw[List.getElem?_eq_none om,List.getElem?_eq_none (by rw[List.length_map];omega)]
theorem qi1{cs:List Value}{fuel:Nat}{p:List MemPlace}{sp:Nat->Bool}(h:DataW.trod (fun _=>()) P W 0 sp false fuel 232 cs=some (Rows.laid_candling_host_forms,p)):jO cs:=by
 rw[qFn]at h
 obtain⟨xs,m,_,hx,hlen,hxs,hel⟩:=DataW.trod_array Tryz.underlying232 h
 have qun:P.cellsOf 214=3:=kr
 have c232:P.cellsOf 232=138:=kr
 have c9:P.cellsOf 9=1:=kr
 have c3':P.cellsOf 3=1:=kr
 rw[c232]at hlen
 simp only[Prod.mk.injEq,DataW.agg.injEq]at hx
 refine⟨hlen,fun i hi=>?_⟩
 have he:=hel i hi
 rw[qun,List.getElem?_eq_getElem om]at he
 have h1:=congrArg (fun l=>l[i]?) hx.1
 simp only[List.getElem?_map,List.getElem?_range hi,List.getElem?_eq_getElem (show i<xs.length by omega),Option.map_some,Option.some.injEq]at h1
 obtain⟨ys,m2,_,hy,hl3,hys,hf⟩:=DataW.trod_struct Tryz.underlying214 he
 rw[qun]at hl3
 rw[hy]at h1
 simp only[DataW.agg.injEq]at h1
 generalize (cs.drop (i*3)).take 3=r at *
 match r,hl3 with
 | [a,b,c],_=>
 have hy3:ys.length=3:=by rw[hys];rfl
 match ys,hy3 with
 | [y0,y1,y2],_=>
 have f0:=hf 0 _ rfl
 have f1:=hf 1 _ rfl
 have f2:=hf 2 _ rfl
 obtain⟨s,e0,g0,_⟩:=DataW.trod_string Tryz.underlying9 f0
 obtain⟨k1,e1,g1,_⟩:=DataW.trod_int Tryz.underlying3 f1
 obtain⟨k2,e2,g2,_⟩:=DataW.trod_int Tryz.underlying3 f2
 simp[c9,c3']at e0 e1 e2
 subst e0 e1 e2
 simp only[List.map_cons,List.map_nil,List.cons.injEq,and_true,g0,g1,g2,DataW.lit.injEq,Lit.int.injEq,true_and]at h1
 refine⟨s,?_⟩
 unfold y6
 rw[<-h1.2.1,<-h1.2.2]
theorem q8H(h:laidMetH P JL W):∃ gcs gt t,W.heap[0]?=some (Cs gcs gt)/\jO gcs/\W.heap[2]?=some (Cs (Yp.map fun x=>.int .u8 x) t):=by
 rw[MakeChecks.laidMetH_plain _ _ _ kr]at h
 obtain⟨ps,⟨g1,t1,cs1,f1,p1,q1,hg1,ht1,hv1,hd1,⟨g2,t2,cs2,f2,p2,q2,hg2,ht2,hv2,hd2,⟨g3,t3,cs3,f3,p3,q3,hg3,ht3,hv3,hd3,hq,e3⟩,e2⟩,e1⟩,hnd,hfz⟩:=h
 obtain rfl := Option.some.inj ((show P.globalNamed "math/bits.deBruijn64tab" = some 2 by kernel_rfl).symm.trans hg2)
 obtain rfl := Option.some.inj ((show P.globalNamed "candling/host.forms" = some 0 by kernel_rfl).symm.trans hg3)
 obtain rfl:=Option.some.inj ((show(P.globals[2]?).map (·.type)=some 244 by kernel_rfl).symm.trans ht2)
 obtain rfl:=Option.some.inj ((show(P.globals[0]?).map (·.type)=some 232 by kernel_rfl).symm.trans ht3)
 have hT:=qi1 hd3
 rw[d64]at hd2
 have h64:=qv6 (ds:=Yp) rfl hd2
 have hm:∀ (g:Nat) (cs:Array Value),0<cs.size->MemPlace.cell g 0∈MemPlace.row ⟨g,0,none⟩ cs.size:=fun g cs hc=>by
  simp only[MemPlace.row,List.mem_map,List.mem_range]
  exact⟨0,hc,rfl⟩
 have hs3:0<cs3.size:=by have:=hT.len;rw[Array.length_toList]at this;omega
 have hs2:0<cs2.size:=by
  have:=congrArg List.length h64
  rw[Array.length_toList,List.length_map]at this
  rw[this];decide
 obtain⟨gt,hb0⟩:=qbp hg3 hv3 (hfz 0 0 (by rw[e1,e2,e3];exact List.mem_append_right _ (List.mem_append_right _ (List.mem_append_left _ (List.mem_append_left _ (hm 0 cs3 hs3)))))).1
 obtain⟨t,hb2⟩:=qbp hg2 hv2 (hfz 2 0 (by rw[e1,e2];exact List.mem_append_right _ (List.mem_append_left _ (List.mem_append_left _ (hm 2 cs2 hs2))))).1
 rw[h64]at hb2
 exact⟨_,gt,t,hb0,hT,hb2⟩
end Go.Fx.Tryz
namespace Go.Proofs.YtepbaneageipfaaGreatDoor
open Go
set_option maxRecDepth 100000
theorem qN5{a b:Bool}(h:a=true)(g:b=true):(a&&b)=true:=by rw[h,g];rfl
end Go.Proofs.YtepbaneageipfaaGreatDoor
namespace Go.Fx
open Go
variable {w0 w:World} {H:qE}
theorem St.unadd{b:Nat}{o:Obj}(h:St w0 w ((b,o)::H))(hb:w0.heap[b]?=some o):St w0 w H:=by
 refine⟨h.kept,h.le,fun c p hp=>h.has c p (.tail _ hp),?_,fun k hk hn=>?_⟩
 ·have:=h.nd
  rw[List.map_cons]at this
  exact(List.nodup_cons.1 this).2
 ·by_cases e:k=b
  ·subst e
   rw[h.has k o (.head _),hb]
  ·exact h.old k hk (by rw[List.map_cons,List.mem_cons];exact fun hc=>hc.elim e hn)
theorem St.below'(h:St w0 w []):RowKit.Below w0.heap.size w0 w:=⟨h.kept.os,h.kept.tape,h.kept.output,h.le,fun k hk=>h.old k hk (by simp)⟩
namespace Tryz
open Go.Fx.Ch
open Go.Proofs
set_option maxRecDepth 100000
theorem own:ownKnob P.godebug=none:=kr
theorem qjf:laidOutB P=true:=kr
end Tryz
end Go.Fx
namespace Go.Proofs.YtepbaneageipfaaGreatDoor
open Go Go.Fx Go.Fx.Tryz Go.Fx.Ch
open Go.ChangeShapes Go.WideShapes Go.ChangeAt Go.RowKit
set_option maxRecDepth 100000
theorem qtS(os:Os)(args:Array Value):laidMetH Tryz.prog JL ((World.laidAll Tryz.prog os JL).forCall (fun _ _=>0) ⟨#[],args,[]⟩).memory:=by
 rw[MakeChecks.laidMetH_plain _ _ _ kr]
 exact laidMet_laidAll _ kr kr
end Go.Proofs.YtepbaneageipfaaGreatDoor
namespace Go.Fx.Ch
set_option linter.all false
def D(N a b:Nat):Nat:=if a<=b then b-a else b+N-a
theorem qDS{N a n:Nat}(ha:a<N)(hn:n<N):(a+n) % N=if a+n<N then a+n else a+n-N:=by
 split
 ·exact Nat.mod_eq_of_lt ‹_›
 ·rw[Nat.mod_eq_sub_mod om,Nat.mod_eq_of_lt om]
theorem q2v{N a:Nat}(ha:a<N)(n:Nat):(a+n) % N<N:=Nat.mod_lt _ om
theorem qtB{N a n:Nat}(ha:a<N)(hn:n<N):D N a ((a+n) % N)=n:=by
 rw[qDS ha hn];unfold D;split<;>split<;>omega
theorem qhV{N a b:Nat}(ha:a<N)(hb:b<N):(a+D N a b) % N=b:=by
 have:D N a b<N:=by unfold D;split<;>omega
 rw[qDS ha this];unfold D;split<;>split<;>omega
theorem qbD{N a b:Nat}(ha:a<N)(hb:b<N):D N a b<N:=by unfold D;split<;>omega
theorem qrF{N a:Nat}:D N a a=0:=by unfold D;simp
theorem qJJ{N a b:Nat}(ha:a<N)(hb:b<N)(h:a≠b):0<D N a b:=by unfold D;split<;>omega
theorem qDZ{N a b c:Nat}(ha:a<N)(hb:b<N)(hc:c<N)(h:D N a b=D N a c):b=c:=by
 unfold D at h;split at h<;>split at h<;>omega
theorem j6{t:List Int}{i j:Nat}{v:Int}(hi:i<t.length):qn (t.set i v) j=if i=j then v else qn t j:=by
 unfold qn
 rw[List.getElem?_set]
 split
 ·rename_i h;subst h;first | rfl | (rw[if_pos hi];rfl)
 ·rfl
structure JT (N:Nat) (t:List Int) (ids:Int->Prop) (home:Int->Nat):Prop where
 z:¬ ids 0
 len:t.length=N
 mem:∀ i,i<N->qn t i≠0->ids (qn t i)
 has:∀ x,ids x->∃ i,i<N/\qn t i=x
 inj:∀ i j,i<N->j<N->qn t i≠0->qn t i=qn t j->i=j
 reach:∀ i j,i<N->j<N->qn t i≠0->qn t j=0->D N (home (qn t i)) i<D N j i
theorem JT.congr{N:Nat}{t:List Int}{ids ids':Int->Prop}{home home':Int->Nat}(h:JT N t ids home)(hi:∀ x,ids x↔ids' x)(hh:∀ x,ids x->home x=home' x):JT N t ids' home':=by
 refine⟨fun hz=>h.z ((hi 0).2 hz),h.len,fun i hi' hs=>(hi _).1 (h.mem i hi' hs),fun x hx=>h.has x ((hi x).2 hx),h.inj,fun i j hi' hj hs he=>?_⟩
 rw[<-hh _ (h.mem i hi' hs)]
 exact h.reach i j hi' hj hs he
theorem JT.empty(N:Nat)(home:Int->Nat):JT N (List.replicate N 0) (fun _=>False) home:=by
 have h0:∀ i,qn (List.replicate N 0) i=0:=fun i=>by
  unfold qn
  rw[List.getElem?_replicate]
  split<;>rfl
 exact⟨fun h=>h,List.length_replicate,fun i _ h=>absurd (h0 i) h,fun _ h=>h.elim,fun i _ _ _ h=>absurd (h0 i) h,fun i _ _ _ h=>absurd (h0 i) h⟩
theorem q2G{k:Nat}{id:Int}{frm:Nat}{t:List Int}(hf:frm<2 ^ k):∀ f n,n+f=2 ^ k->(∀ m,m<n->qn t ((frm+m) % 2 ^ k)≠0)->(∃ m,n<=m/\m<2 ^ k/\qn t ((frm+m) % 2 ^ k)=0)->
  ∃ m,m<2 ^ k/\qn t ((frm+m) % 2 ^ k)=0/\(∀ j,j<m->qn t ((frm+j) % 2 ^ k)≠0)/\ZC k id frm t f n=t.set ((frm+m) % 2 ^ k) id
 | 0,n,hn,_,⟨m,h1,h2,_⟩=>by omega
 | f+1,n,hn,hb,⟨m,h1,h2,h3⟩=>by
  unfold ZC
  split
  ·rename_i h0;exact⟨n,by omega,h0,hb,rfl⟩
  ·rename_i h0
   refine q2G hf f (n+1) om (fun j hj=>?_) ⟨m,?_,h2,h3⟩
   ·by_cases hjn:j=n
    ·subst hjn;exact h0
    ·exact hb j om
   ·by_cases hmn:m=n
    ·subst hmn;exact absurd h3 h0
    ·omega
theorem JT.insert{k:Nat}{t:List Int}{ids:Int->Prop}{home:Int->Nat}{id:Int}{e:Nat}(h:JT (2 ^ k) t ids home)(hid:¬ ids id)(h0:id≠0)(hh:home id<2 ^ k)(he:e<2 ^ k)(he0:qn t e=0) :
  JT (2 ^ k) (ZC k id (home id) t (2 ^ k) 0) (fun x=>ids x\/x=id) home:=by
 obtain⟨m,hm,hm0,hb,heq⟩:=q2G (k:=k) (id:=id) (frm:=home id) (t:=t) hh (2 ^ k) 0 om (fun m hm=>by omega) ⟨D (2 ^ k) (home id) e,by omega,qbD hh he,by rw[qhV hh he];exact he0⟩
 rw[heq]
 clear heq
 generalize 2 ^ k=N at *
 have hp:(home id+m) % N<N:=q2v hh m
 have hD:D N (home id) ((home id+m) % N)=m:=qtB hh hm
 have hb':∀ j,j<N->qn t j=0->m<=D N (home id) j:=fun j hj hj0=>by
  rcases Nat.lt_or_ge (D N (home id) j) m with hlt | hge
  ·have:=hb _ hlt;rw[qhV hh hj]at this;exact absurd hj0 this
  ·exact hge
 generalize (home id+m) % N=p at *
 have hpl:p<t.length:=by rw[h.len];exact hp
 have hs:∀ j,qn (t.set p id) j=if p=j then id else qn t j:=fun j=>j6 hpl
 refine⟨fun hz=>hz.elim h.z fun hz=>h0 hz.symm,by rw[List.length_set];exact h.len,?_,?_,?_,?_⟩
 ·intro i hi hne
  rw[hs]at hne ⊢
  split
  ·exact .inr rfl
  ·rename_i hpi;rw[if_neg hpi]at hne;exact .inl (h.mem i hi hne)
 ·rintro x (hx | rfl)
  ·obtain⟨i,hi,hx'⟩:=h.has x hx
   refine⟨i,hi,?_⟩
   rw[hs,if_neg,hx']
   rintro rfl
   rw[hm0]at hx';subst hx'
   exact h.z hx
  ·exact⟨p,hp,by rw[hs,if_pos rfl]⟩
 ·intro i j hi hj hne heq
  rw[hs]at hne heq
  rw[hs]at heq
  split at heq
  ·rename_i hpi
   split at heq
   ·omega
   ·exact absurd (h.mem j hj (by rw[<-heq];exact h0)) (by rw[<-heq];exact hid)
  ·rename_i hpi
   rw[if_neg hpi]at hne
   split at heq
   ·exact absurd (h.mem i hi hne) (by rw[heq];exact hid)
   ·exact h.inj i j hi hj hne heq
 ·intro i j hi hj hne hj0
  rw[hs]at hne hj0 ⊢
  have hpj:p≠j:=by rintro rfl;rw[if_pos rfl]at hj0;exact h0 hj0
  rw[if_neg hpj]at hj0
  split
  ·rename_i hpi
   subst hpi
   have h1:=hb' j hj hj0
   have h2:D N (home id) j≠D N (home id) p:=fun hh'=>hpj (qDZ hh hj hp hh').symm
   rw[hD]
   rw[hD]at h2
   unfold D at *
   split at h1<;>split at hD<;>split<;>simp_all<;>omega
  ·rename_i hpi
   rw[if_neg hpi]at hne
   exact h.reach i j hi hj hne hj0
structure Rem (N:Nat) (t:List Int) (ids:Int->Prop) (home:Int->Nat) (h d:Nat):Prop where
 z:¬ ids 0
 len:t.length=N
 hN:h<N
 h0:qn t h=0
 mem:∀ i,i<N->qn t i≠0->ids (qn t i)
 has:∀ x,ids x->∃ i,i<N/\qn t i=x
 inj:∀ i j,i<N->j<N->qn t i≠0->qn t i=qn t j->i=j
 other:∀ i j,i<N->j<N->qn t i≠0->qn t j=0->j≠h->D N (home (qn t i)) i<D N j i
 seen:∀ i,i<N->0<D N h i->D N h i<d->qn t i≠0/\D N (home (qn t i)) i<D N h i
theorem Rem.keep{N:Nat}{t:List Int}{ids:Int->Prop}{home:Int->Nat}{h d c:Nat}(r:Rem N t ids home h d)(hc:c<N)(hd:D N h c=d)(h0:qn t c≠0)(hb:D N (home (qn t c)) c<D N h c):Rem N t ids home h (d+1):=by
 refine⟨r.z,r.len,r.hN,r.h0,r.mem,r.has,r.inj,r.other,fun i hi h1 h2=>?_⟩
 by_cases hid:D N h i=d
 ·have:i=c:=qDZ r.hN hi hc (hid.trans hd.symm)
  subst this
  exact⟨h0,hb⟩
 ·exact r.seen i hi h1 om
theorem Rem.move{N:Nat}{t:List Int}{ids:Int->Prop}{home:Int->Nat}{h d c:Nat}(r:Rem N t ids home h d)(hc:c<N)(hd:D N h c=d)(h1:0<d)(h0:qn t c≠0)(hx:home (qn t c)<N)
  (hb:¬ D N (home (qn t c)) c<D N h c):Rem N ((t.set h (qn t c)).set c 0) ids home c 1:=by
 have hhc:h≠c:=by rintro rfl;rw[qrF]at hd;omega
 have hs:∀ j,qn ((t.set h (qn t c)).set c 0) j=if c=j then 0 else if h=j then qn t c else qn t j:=fun j=>by
  rw[j6 (by rw[List.length_set,r.len];exact hc),j6 (by rw[r.len];exact r.hN)]
 have hN:=r.hN
 refine⟨r.z,by rw[List.length_set,List.length_set];exact r.len,hc,by rw[hs,if_pos rfl],?_,?_,?_,?_,fun i _ h1 h2=>by omega⟩
 ·intro i hi hne
  rw[hs]at hne ⊢
  split at hne
  ·exact absurd rfl hne
  ·rename_i hci
   rw[if_neg hci]
   split at hne
   ·rename_i hhi;rw[if_pos hhi];exact r.mem c hc h0
   ·rename_i hhi;rw[if_neg hhi];exact r.mem i hi hne
 ·intro x hx'
  obtain⟨i,hi,hxi⟩:=r.has x hx'
  by_cases hic:i=c
  ·subst hic;exact⟨h,hN,by rw[hs,if_neg (Ne.symm hhc),if_pos rfl,hxi]⟩
  ·refine⟨i,hi,?_⟩
   rw[hs,if_neg (Ne.symm hic),if_neg,hxi]
   rintro rfl
   rw[r.h0]at hxi;subst hxi;exact r.z hx'
 ·intro i j hi hj hne heq
  rw[hs]at hne heq
  rw[hs]at heq
  by_cases hci:c=i
  ·rw[if_pos hci]at hne;exact absurd rfl hne
  rw[if_neg hci]at hne heq
  by_cases hcj:c=j
  ·rw[if_pos hcj]at heq;exact absurd heq hne
  rw[if_neg hcj]at heq
  by_cases hhi:h=i
  ·rw[if_pos hhi]at hne heq
   by_cases hhj:h=j
   ·omega
   ·rw[if_neg hhj]at heq;exact absurd (r.inj c j hc hj hne heq) hcj
  ·rw[if_neg hhi]at hne heq
   by_cases hhj:h=j
   ·rw[if_pos hhj]at heq;exact absurd (r.inj i c hi hc hne heq).symm hci
   ·rw[if_neg hhj]at heq;exact r.inj i j hi hj hne heq
 ·intro i j hi hj hne hj0 hjc
  rw[hs]at hne hj0 ⊢
  rw[if_neg (Ne.symm hjc)]at hj0
  have hhj:h≠j:=by rintro rfl;rw[if_pos rfl]at hj0;exact h0 hj0
  rw[if_neg hhj]at hj0
  by_cases hci:c=i
  ·rw[if_pos hci]at hne;exact absurd rfl hne
  rw[if_neg hci]at hne ⊢
  by_cases hhi:h=i
  ·subst hhi
   rw[if_pos rfl]at hne ⊢
   have h2:=r.other c j hc hj h0 hj0 (Ne.symm hhj)
   generalize home (qn t c)=x at *
   unfold D at *
   split at h2<;>split at h2<;>split at hb<;>split at hb<;>split<;>split<;>omega
  ·rw[if_neg hhi]at hne ⊢
   exact r.other i j hi hj hne hj0 (Ne.symm hhj)
theorem Rem.done{N:Nat}{t:List Int}{ids:Int->Prop}{home:Int->Nat}{h d c:Nat}(r:Rem N t ids home h d)(hc:c<N)(hd:D N h c=d)(h0:qn t c=0)(hhc:h≠c):JT N t ids home:=by
 refine⟨r.z,r.len,r.mem,r.has,r.inj,fun i j hi hj hne hj0=>?_⟩
 by_cases hjh:j=h
 ·subst hjh
  rcases Nat.lt_or_ge (D N j i) d with hlt | hge
  ·have hij:j≠i:=by rintro rfl;exact hne hj0
   exact(r.seen i hi (qJJ hj hi hij) hlt).2
  ·have h2:=r.other i c hi hc hne h0 (Ne.symm hhc)
   have hci:c≠i:=by rintro rfl;exact hne h0
   generalize home (qn t i)=x at *
   unfold D at *
   split at h2<;>split at h2<;>split at hge<;>split at hd<;>split<;>omega
 ·exact r.other i j hi hj hne hj0 hjh
theorem qE2{k a b:Nat}(ha:a<2 ^ k)(hb:b<2 ^ k):far k (a:Int) (b:Int)=(D (2 ^ k) a b:Nat):=by
 unfold far D
 have hp:((2:Int) ^ k)=((2 ^ k:Nat):Int):=by rw[Int.natCast_pow];rfl
 rw[hp]
 generalize 2 ^ k=N at *
 split
 ·rw[Int.emod_eq_of_lt om om];omega
 ·have:((b:Int)-a) % (N:Int)=((b:Int)-a+N) % N:=by rw[Int.add_emod_right]
  rw[this,Int.emod_eq_of_lt om om];omega
theorem Ji{items:List (Int × TR)}{k:Nat}{id:Int}{frm:Nat}{ids:Int->Prop}{home:Int->Nat}(hf:frm<2 ^ k)(hhome:∀ x,ids x->zy k (qj items x).at_=(home x:Int)/\home x<2 ^ k) :
  ∀ f n h (t:List Int),n+f=2 ^ k->Rem (2 ^ k) t ids home h (n-D (2 ^ k) frm h)->D (2 ^ k) frm h<n->(∃ e,e<2 ^ k/\e≠h/\qn t e=0/\n<=D (2 ^ k) frm e)->JT (2 ^ k) (yp items k id frm f n (some h) t) ids home
 | 0,n,h,t,hn,r,hd,⟨e,h1,_,_,h2⟩=>by have:=qbD hf h1;omega
 | f+1,n,h,t,hn,r,hd,⟨e,h1,h2,h3,h4⟩=>by
  unfold yp
  have hh:=r.hN
  have hnN:n<2 ^ k:=by omega
  have hc:(frm+n) % 2 ^ k<2 ^ k:=q2v hf n
  have hDc:D (2 ^ k) frm ((frm+n) % 2 ^ k)=n:=qtB hf hnN
  have hDh:D (2 ^ k) h ((frm+n) % 2 ^ k)=n-D (2 ^ k) frm h:=by
   generalize (frm+n) % 2 ^ k=c at *
   generalize 2 ^ k=N at *
   unfold D at *
   split at hDc<;>split at hd<;>split<;>first | omega | (split<;>omega)
  split
  ·rename_i h0
   exact r.done hc hDh h0 (by rintro hhc;rw[<-hhc,qrF]at hDh;omega)
  ·rename_i h0
   have hm:=hhome _ (r.mem _ hc h0)
   rw[hm.1,qE2 hm.2 hc,qE2 hh hc]
   have hne:n≠D (2 ^ k) frm e:=by
    intro hh'
    have:(frm+n) % 2 ^ k=e:=by rw[hh'];exact qhV hf h1
    rw[this]at h0;exact h0 h3
   split
   ·rename_i hb
    refine Ji hf hhome f (n+1) h t om ?_ om ⟨e,h1,h2,h3,by omega⟩
    have:=r.keep hc hDh h0 om
    rw[show n+1-D (2 ^ k) frm h=n-D (2 ^ k) frm h+1 by omega]
    exact this
   ·rename_i hb
    refine Ji hf hhome f (n+1) _ _ om ?_ om ⟨e,h1,?_,?_,by omega⟩
    ·have:=r.move hc hDh om h0 hm.2 om
     rw[hDc,show n+1-n=1 by omega]
     exact this
    ·intro he;rw[he,hDc]at hne;omega
    ·rw[j6 (by rw[List.length_set,r.len];exact hc),j6 (by rw[r.len];exact hh)]
     split
     ·rfl
     ·rw[if_neg (Ne.symm h2)];exact h3
theorem q4w{items:List (Int × TR)}{k:Nat}{id:Int}{frm:Nat}{ids:Int->Prop}{home:Int->Nat}{t:List Int}{r e:Nat}(hf:frm<2 ^ k)(hhome:∀ x,ids x->zy k (qj items x).at_=(home x:Int)/\home x<2 ^ k)
  (h:JT (2 ^ k) t ids home) (hid:ids id) (hr:r<2 ^ k) (hri:qn t ((frm+r) % 2 ^ k)=id) (he:e<2 ^ k) (he0:qn t e=0) (hre:r<D (2 ^ k) frm e) :
  ∀ f n,n+f=2 ^ k->n<=r->JT (2 ^ k) (yp items k id frm f n none t) (fun x=>ids x/\x≠id) home
 | 0,n,hn,hnr=>by omega
 | f+1,n,hn,hnr=>by
  unfold yp
  have hc:(frm+n) % 2 ^ k<2 ^ k:=q2v hf n
  have hDc:D (2 ^ k) frm ((frm+n) % 2 ^ k)=n:=qtB hf om
  have hid0:id≠0:=by rintro rfl;exact h.z hid
  split
  ·rename_i hci
   have hs:∀ j,qn (t.set ((frm+n) % 2 ^ k) 0) j=if(frm+n) % 2 ^ k=j then 0 else qn t j:=fun j=>j6 (by rw[h.len];exact hc)
   generalize (frm+n) % 2 ^ k=c at *
   have hce:e≠c:=by rintro rfl;omega
   refine Ji hf (fun x hx=>hhome x hx.1) f (n+1) c _ om ?_ om ⟨e,he,hce,by rw[hs,if_neg (Ne.symm hce)];exact he0,by omega⟩
   rw[hDc]
   refine⟨fun hz=>h.z hz.1,by rw[List.length_set];exact h.len,hc,by rw[hs,if_pos rfl],?_,?_,?_,?_,fun i _ h1 h2=>by omega⟩
   ·intro i hi hne
    rw[hs]at hne ⊢
    split at hne
    ·exact absurd rfl hne
    ·rename_i hci'
     rw[if_neg hci']
     exact⟨h.mem i hi hne,fun hh=>hci' (h.inj c i hc hi (by rw[hci];exact hid0) (by rw[hci,hh]))⟩
   ·rintro x ⟨hx,hxi⟩
    obtain⟨i,hi,hxx⟩:=h.has x hx
    refine⟨i,hi,?_⟩
    rw[hs,if_neg,hxx]
    rintro rfl
    exact hxi (hxx.symm.trans hci)
   ·intro i j hi hj hne heq
    rw[hs]at hne heq
    rw[hs]at heq
    split at hne
    ·exact absurd rfl hne
    ·rename_i hci'
     rw[if_neg hci']at heq
     split at heq
     ·exact absurd heq hne
     ·exact h.inj i j hi hj hne heq
   ·intro i j hi hj hne hj0 hjc
    rw[hs]at hne hj0 ⊢
    rw[if_neg (Ne.symm hjc)]at hj0
    split at hne
    ·exact absurd rfl hne
    ·rename_i hci'
     rw[if_neg hci']
     exact h.reach i j hi hj hne hj0
  ·rename_i hci
   have:n≠r:=by rintro rfl;exact hci hri
   exact q4w hf hhome h hid hr hri he he0 hre f (n+1) om om
theorem JT.remove{items:List (Int × TR)}{k:Nat}{id:Int}{ids:Int->Prop}{home:Int->Nat}{t:List Int}{e:Nat}(hhome:∀ x,ids x->zy k (qj items x).at_=(home x:Int)/\home x<2 ^ k)
  (h:JT (2 ^ k) t ids home) (hid:ids id) (he:e<2 ^ k) (he0:qn t e=0):JT (2 ^ k) (yp items k id (home id) (2 ^ k) 0 none t) (fun x=>ids x/\x≠id) home:=by
 obtain⟨i,hi,hii⟩:=h.has id hid
 have hf:=(hhome id hid).2
 have hid0:id≠0:=by rintro rfl;exact h.z hid
 have hr:=h.reach i e hi he (by rw[hii];exact hid0) he0
 rw[hii]at hr
 refine q4w (r:=D (2 ^ k) (home id) i) (e:=e) hf hhome h hid (qbD hf hi) (by rw[qhV hf hi];exact hii) he he0 ?_ (2 ^ k) 0 om om
 generalize home id=x at *
 generalize 2 ^ k=N at *
 have:i≠e:=by rintro rfl;rw[he0]at hii;exact hid0 hii.symm
 unfold D at *
 split at hr<;>split at hr<;>split<;>split<;>omega
theorem q0b{items:List (Int × TR)}{t:List Int}{k:Nat}{at_:Int}{frm r:Nat}{x:Int}(hr:qn t ((frm+r) % 2 ^ k)=x)(hx:x≠0)(ha:(qj items x).at_=at_) :
  ∀ f n,n<=r->r<n+f->(∀ m,n<=m->m<r->qn t ((frm+m) % 2 ^ k)≠0/\(qj items (qn t ((frm+m) % 2 ^ k))).at_≠at_)->vG items t k at_ frm f n=(x,r+1)
 | 0,n,h1,h2,_=>by omega
 | f+1,n,h1,h2,hb=>by
  unfold vG
  by_cases hnr:n=r
  ·subst hnr;rw[hr,if_neg hx,if_pos ha]
  ·have:=hb n (Nat.le_refl _) om
   rw[if_neg this.1,if_neg this.2]
   exact q0b hr hx ha f (n+1) om om fun m h3 h4=>hb m om h4
theorem JO{items:List (Int × TR)}{t:List Int}{k:Nat}{at_:Int}{frm r:Nat}(hr:qn t ((frm+r) % 2 ^ k)=0) :
  ∀ f n,n<=r->r<n+f->(∀ m,n<=m->m<r->qn t ((frm+m) % 2 ^ k)≠0/\(qj items (qn t ((frm+m) % 2 ^ k))).at_≠at_)->vG items t k at_ frm f n=(0,r+1)
 | 0,n,h1,h2,_=>by omega
 | f+1,n,h1,h2,hb=>by
  unfold vG
  by_cases hnr:n=r
  ·subst hnr;rw[hr,if_pos rfl]
  ·have:=hb n (Nat.le_refl _) om
   rw[if_neg this.1,if_neg this.2]
   exact JO hr f (n+1) om om fun m h3 h4=>hb m om h4
theorem JT.look_some{items:List (Int × TR)}{t:List Int}{k:Nat}{at_:Int}{frm:Nat}{x:Int}{ids:Int->Prop}{home:Int->Nat}(h:JT (2 ^ k) t ids home)(hx:ids x)(hf:frm<2 ^ k)(hh:home x=frm)
  (ha:(qj items x).at_=at_) (hd:∀ y,ids y->(qj items y).at_=at_->y=x) {e:Nat} (he:e<2 ^ k) (he0:qn t e=0) :
  ∃ i,i<2 ^ k/\qn t i=x/\(∀ m,m<D (2 ^ k) frm i->qn t ((frm+m) % 2 ^ k)≠0)/\vG items t k at_ frm (2 ^ k) 0=(x,D (2 ^ k) frm i+1):=by
 obtain⟨i,hi,hii⟩:=h.has x hx
 have hx0:x≠0:=by rintro rfl;exact h.z hx
 have hb:∀ m,m<D (2 ^ k) frm i->qn t ((frm+m) % 2 ^ k)≠0:=fun m hm h0=>by
  have hmN:m<2 ^ k:=by have:=qbD hf hi;omega
  have h1:=h.reach i _ hi (q2v hf m) (by rw[hii];exact hx0) h0
  rw[hii,hh]at h1
  have h2:=qtB hf hmN
  generalize (frm+m) % 2 ^ k=c at *
  generalize 2 ^ k=N at *
  unfold D at *
  split at h1<;>split at h1<;>split at h2<;>split at hm<;>omega
 refine⟨i,hi,hii,hb,q0b (by rw[qhV hf hi];exact hii) hx0 ha _ 0 om (by have:=qbD hf hi;omega) fun m _ hm=>⟨hb m hm,fun hat=>?_⟩⟩
 have hmN:m<2 ^ k:=by have:=qbD hf hi;omega
 have h3:=hd _ (h.mem _ (q2v hf m) (hb m hm)) hat
 have h4:=h.inj _ i (q2v hf m) hi (hb m hm) (by rw[h3,hii])
 have h5:=qtB hf hmN
 rw[h4]at h5
 omega
theorem JT.look_none{items:List (Int × TR)}{t:List Int}{k:Nat}{at_:Int}{frm:Nat}{ids:Int->Prop}{home:Int->Nat}(h:JT (2 ^ k) t ids home)(hf:frm<2 ^ k)
  (hd:∀ y,ids y->(qj items y).at_≠at_) {r:Nat} (hr:r<2 ^ k) (hr0:qn t ((frm+r) % 2 ^ k)=0) (hb:∀ m,m<r->qn t ((frm+m) % 2 ^ k)≠0):vG items t k at_ frm (2 ^ k) 0=(0,r+1):=
 JO hr0 _ 0 om om fun m _ hm=>⟨hb m hm,hd _ (h.mem _ (q2v hf m) (hb m hm))⟩
theorem qsq{p:Nat->Prop}:∀ n,p n->∃ m,p m/\m<=n/\∀ j,j<m->¬ p j:=by
 intro n
 induction n using Nat.strongRecOn with
 | ind n ih=>
  intro hn
  by_cases h:∃ j,j<n/\p j
  ·obtain⟨j,hj,hp⟩:=h
   obtain⟨m,h1,h2,h3⟩:=ih j hj hp
   exact⟨m,h1,by omega,h3⟩
  ·exact⟨n,hn,Nat.le_refl _,fun j hj hp=>h ⟨j,hj,hp⟩⟩
theorem q2H{α:Type} [DecidableEq α]:∀ {l m:List α},l.Nodup->(∀ x∈l,x∈m)->l.length<=m.length
 | [],_,_,_=>Nat.zero_le _
 | x::l,m,hn,hs=>by
  have h1:=List.nodup_cons.1 hn
  have hx:x∈m:=hs x (.head _)
  have h2:=q2H (l:=l) (m:=m.erase x) h1.2 fun y hy=>(List.mem_erase_of_ne (by rintro rfl;exact h1.1 hy)).2 (hs y (.tail _ hy))
  rw[List.length_erase_of_mem hx]at h2
  have:0<m.length:=List.length_pos_of_mem hx
  rw[List.length_cons];omega
theorem JT.room{N:Nat}{t:List Int}{ids:Int->Prop}{home:Int->Nat}{L:List Int}(h:JT N t ids home)(hL:∀ x,ids x->x∈L)(hl:L.length<N):∃ e,e<N/\qn t e=0:=by
 refine Classical.byContradiction fun hno=>?_
 have hne:∀ e,e<N->qn t e≠0:=fun e he h0=>hno ⟨e,he,h0⟩
 have:=q2H (l:=(List.range N).map (qn t)) (m:=L) (List.pairwise_map.2 (List.nodup_range.imp_of_mem fun ha hb hab heq=>hab (h.inj _ _ (List.mem_range.1 ha) (List.mem_range.1 hb) (hne _ (List.mem_range.1 ha)) heq)))
  (fun x hx=>by obtain⟨i,hi,rfl⟩:=List.mem_map.1 hx;exact hL _ (h.mem i (List.mem_range.1 hi) (hne i (List.mem_range.1 hi))))
 rw[List.length_map,List.length_range]at this
 omega
end Go.Fx.Ch
namespace Go.Fx.Ch
open Go.Fx.Tryz
set_option linter.all false
section
variable {K V:Type} [DecidableEq K]
def keys(m:List (K × V)):List K:=m.map (·.1)
theorem q71{m:List (K × V)}{k:K}:k∈keys m↔∃ v,lk m k=some v:=by
 unfold keys
 constructor
 ·intro h
  cases hl:lk m k with
  | some v=>exact⟨v,rfl⟩
  | none=>
   obtain⟨p,hp,rfl⟩:=List.mem_map.1 h
   exact absurd rfl (q0w.1 hl p hp)
 ·rintro⟨v,hv⟩
  obtain⟨a,b,rfl,_⟩:=qcv hv
  simp
theorem qER(m:List (K × V))(f:K->V->V)(k:K):lk (m.map fun p=>(p.1,f p.1 p.2)) k=(lk m k).map (f k):=by
 induction m with
 | nil=>rfl
 | cons p m ih=>
  unfold lk at *
  simp only[List.map_cons,List.find?_cons]
  by_cases h:p.1=k
  ·subst h;simp
  ·have:(p.1==k)=false:=by simpa using h
   rw[this];exact ih
theorem qp7(a b:List (K × V))(k:K):lk (a++b) k=(lk a k).or (lk b k):=by
 unfold lk
 rw[List.find?_append]
 cases h:a.find? fun p=>p.1==k<;>simp
theorem qjb{m:List (K × V)}{k:K}{v u:V}(h:lk m k=some u):pt m k v=m.map fun p=>if p.1=k then(p.1,v)else p:=by unfold pt;rw[h]
theorem qmj(m:List (K × V))(k:K)(v:V)(x:K):lk (pt m k v) x=if x=k then some v else lk m x:=by
 cases h:lk m k with
 | none=>
  rw[q0l h,qp7]
  by_cases hx:x=k
  ·subst hx;rw[h];simp[lk]
  ·rw[if_neg hx]
   have:lk [(k,v)] x=none:=by unfold lk;simp[List.find?_cons,Ne.symm hx]
   rw[this];cases lk m x<;>rfl
 | some u=>
  rw[qjb h]
  have h1:(m.map fun p=>if p.1=k then(p.1,v)else p)=m.map fun p=>(p.1,(fun a b=>if a=k then v else b) p.1 p.2):=List.map_congr_left fun p _=>by
   by_cases hp:p.1=k<;>simp[hp]
  rw[h1,qER m (fun a b=>if a=k then v else b) x]
  by_cases hx:x=k
  ·subst hx;rw[h];simp
  ·simp only[if_neg hx];cases lk m x<;>rfl
theorem qrB(m:List (K × V))(k x:K):lk (dl m k) x=if x=k then none else lk m x:=by
 induction m with
 | nil=>unfold dl lk;simp
 | cons p m ih=>
  unfold dl at *
  rw[List.filter_cons]
  by_cases hp:p.1=k
  ·rw[if_neg (by simp[hp]),ih]
   by_cases hx:x=k
   ·rw[if_pos hx,if_pos hx]
   ·rw[if_neg hx,if_neg hx]
    unfold lk
    rw[List.find?_cons]
    have:(p.1==x)=false:=by simpa [hp]using Ne.symm hx
    rw[this]
  ·rw[if_pos (by simp[hp])]
   unfold lk at *
   rw[List.find?_cons,List.find?_cons]
   by_cases hx:p.1=x
   ·have:(p.1==x)=true:=by simpa using hx
    rw[this]
    rw[if_neg (by rw[<-hx];exact hp)]
   ·have:(p.1==x)=false:=by simpa using hx
    rw[this]
    exact ih
theorem qmy{m:List (K × V)}{k:K}(v:V)(h:k∈keys m):keys (pt m k v)=keys m:=by
 obtain⟨u,hu⟩:=q71.1 h
 rw[qjb hu]
 unfold keys
 rw[List.map_map]
 exact List.map_congr_left fun p _=>by simp only[Function.comp_apply];split<;>rfl
theorem JJ{m:List (K × V)}{k:K}(v:V)(h:k ∉ keys m):keys (pt m k v)=keys m++[k]:=by
 have:lk m k=none:=by
  cases hl:lk m k with
  | none=>rfl
  | some u=>exact absurd (q71.2 ⟨u,hl⟩) h
 rw[q0l this]
 unfold keys
 rw[List.map_append];rfl
theorem q0q(m:List (K × V))(k:K):keys (dl m k)=(keys m).filter fun x=>x≠k:=by
 unfold keys dl
 rw[List.filter_map];rfl
theorem qI(m:List (K × V)):(keys m).length=m.length:=List.length_map _
end
theorem Jj(m:List (Int × TR))(k:Int)(t:TR)(x:Int):qj (pt m k t) x=if x=k then t else qj m x:=by
 unfold qj;rw[qmj];split<;>rfl
theorem QA(m:List (Int × TR)){k x:Int}(h:x≠k):qj (dl m k) x=qj m x:=by
 unfold qj;rw[qrB,if_neg h]
theorem QY(m:List (Int × TR))(p:Int × Int)(c x:Int):qj (ze m p c) x=if x=p.1 then { qj m x with code:=jr (qj m x).code p.2 c }else qj m x:=by
 unfold ze;rw[Jj];split
 ·rename_i h;rw[h]
 ·rfl
theorem jW{m:List (Int × TR)}{p:Int × Int}(c:Int)(h:p.1∈keys m):keys (ze m p c)=keys m:=qmy _ h
theorem qfm(bs:List Int)(slot c:Int):(jr bs slot c).length<=bs.length:=by
 unfold jr
 split
 ·exact Nat.zero_le _
 ·rename_i l hl
  split
  ·rename_i ha
   obtain⟨e,he,hs⟩:=List.any_eq_true.1 ha
   obtain⟨al,i,p,n,h1,_,h3,h4,h5,rfl⟩:=q2I hl he
   have hn:=jp h4 h3
   have:slot=((p.2+n:Nat):Int)-4:=by simp at hs;omega
   unfold zH le4
   simp only[List.length_append,List.length_take,List.length_cons,List.length_nil,List.length_drop]
   omega
  ·exact Nat.zero_le _
def Zb(k:Nat)(items:List (Int × TR))(id:Int):Nat:=(zy k (qj items id).at_).toNat
theorem ZA{k:Nat}(h4:4<=k)(h16:k<=16)(a:Int):0<=zy k a/\zy k a<2 ^ k:=by
 unfold zy
 have h0:0<=(a / 4*2654435761) % 4294967296:=Int.emod_nonneg _ (by decide)
 have h1:(a / 4*2654435761) % 4294967296<4294967296:=Int.emod_lt_of_pos _ (by decide)
 have hp:(0:Int)<2 ^ (32-k):=Int.pow_pos (by decide)
 refine⟨Int.ediv_nonneg h0 om,Int.ediv_lt_of_lt_mul hp ?_⟩
 have:(2:Int) ^ k*2 ^ (32-k)=4294967296:=by rw[<-Int.pow_add,show k+(32-k)=32 by omega];decide
 omega
theorem q36{k:Nat}(h4:4<=k)(h16:k<=16)(items:List (Int × TR))(id:Int):Zb k items id<2 ^ k:=by
 have:=ZA h4 h16 (qj items id).at_
 have h2:((2:Int) ^ k)=((2 ^ k:Nat):Int):=by rw[Int.natCast_pow];rfl
 unfold Zb;omega
theorem qvK{k:Nat}(h4:4<=k)(h16:k<=16)(items:List (Int × TR))(id:Int):zy k (qj items id).at_=(Zb k items id:Int):=by
 have:=ZA h4 h16 (qj items id).at_
 unfold Zb;omega
theorem q97{k:Nat}(h4:4<=k):2 ^ k / 4*3<2 ^ k/\0<2 ^ k / 4*3:=by
 have:(2:Nat) ^ k=4*2 ^ (k-2):=by rw[show(4:Nat)=2 ^ 2 by rfl,<-Nat.pow_add,show 2+(k-2)=k by omega]
 have h2:0<(2:Nat) ^ (k-2):=Nat.pow_pos (by decide)
 rw[this];omega
structure qT (s:qd):Prop where
 k4:4<=s.k
 k16:s.k<=16
 nd:(keys s.items).Nodup
 pos:∀ x∈keys s.items,0<x/\x<=s.given
 ats:∀ x∈keys s.items,∀ y∈keys s.items,(qj s.items x).at_=(qj s.items y).at_->x=y
 atw:∀ x∈keys s.items,jq (qj s.items x).at_
 tab:JT (2 ^ s.k) s.table (fun x=>x∈keys s.items) (Zb s.k s.items)
 lim:s.items.length<=ve s
 rows:s.rows.flatten.Perm (keys s.items)
 cur:s.cur<s.rows.length
 rl:s.rows.length<1000000
 ev:0<=s.ev
 dr:0<=s.dr
 sum:s.items.length+s.ev+s.dr<=s.given
 given:s.given<=2147483647
 len:s.len<=1048576
 fill:∀ r∈s.rows,qR s.items r<=s.len
theorem qT.room{s:qd}(h:qT s):∃ e,e<2 ^ s.k/\qn s.table e=0:=by
 refine h.tab.room (L:=keys s.items) (fun x hx=>hx) ?_
 have:=h.lim
 have:=(q97 h.k4).1
 rw[qI];unfold ve at *;omega
theorem q34{a b:List (Int × TR)}{l:List Int}(h:∀ x∈l,(qj a x).code.length<=(qj b x).code.length):qR a l<=qR b l:=by
 unfold qR
 induction l with
 | nil=>simp
 | cons x l ih=>
  have:=ih fun y hy=>h y (.tail _ hy)
  have:=h x (.head _)
  simp only[List.map_cons,List.sum_cons];omega
theorem q2U{a:List (Int × TR)}{l:List Int}(p:Int->Bool):qR a (l.filter p)<=qR a l:=by
 unfold qR
 induction l with
 | nil=>simp
 | cons x l ih=>
  rw[List.filter_cons]
  split
  ·simp only[List.map_cons,List.sum_cons];omega
  ·simp only[List.map_cons,List.sum_cons];omega
structure YM (a b:List (Int × TR)):Prop where
 keys:keys a=keys b
 at_:∀ x,(qj a x).at_=(qj b x).at_
 sp:∀ x,(qj a x).sp=(qj b x).sp
 code:∀ x,(qj a x).code.length<=(qj b x).code.length
theorem YM.refl(a:List (Int × TR)):YM a a:=⟨rfl,fun _=>rfl,fun _=>rfl,fun _=>Nat.le_refl _⟩
theorem YM.trans{a b c:List (Int × TR)}(h:YM a b)(g:YM b c):YM a c:=
 ⟨h.keys.trans g.keys,fun x=>(h.at_ x).trans (g.at_ x),fun x=>(h.sp x).trans (g.sp x),fun x=>Nat.le_trans (h.code x) (g.code x)⟩
theorem YM.patch{m:List (Int × TR)}{p:Int × Int}(c:Int)(h:p.1∈Ch.keys m):YM (ze m p c) m:=by
 refine⟨jW c h,fun x=>?_,fun x=>?_,fun x=>?_⟩<;>rw[QY]<;>split
 ·rfl
 ·rfl
 ·rfl
 ·rfl
 ·exact qfm _ _ _
 ·exact Nat.le_refl _
theorem Yy(id:Int):∀ (l:List (Int × Int)) (s:qd),(∀ p∈l,p.1∈keys s.items)->YM (qN id l s).items s.items/\(qN id l s).table=s.table/\(qN id l s).rows=s.rows
 | [],s,_=>⟨.refl _,rfl,rfl⟩
 | p::l,s,h=>by
  have h1:=YM.patch 0 (h p (.head _))
  have h2:=Yy id l { s with items:=ze s.items p 0,hold:=qZ s.hold p id } fun q hq=>by
   show q.1∈keys (ze s.items p 0)
   rw[h1.keys];exact h q (.tail _ hq)
  exact⟨h2.1.trans h1,h2.2.1,h2.2.2⟩
theorem jQ(id:Int):∀ (l:List EX) (s:qd),(qM id l s).items=s.items/\(qM id l s).table=s.table/\(qM id l s).rows=s.rows
 | [],s=>⟨rfl,rfl,rfl⟩
 | x::l,s=>by
  unfold qM
  have h:=jQ id l (if x.chain=0 then s else { s with hold:=qZ s.hold (id,x.slot) x.chain })
  split
  ·rename_i hc;rw[if_pos hc]at h;exact h
  ·rename_i hc;rw[if_neg hc]at h;exact h
structure qJO (s s':qd) (id:Int):Prop where
 keys:keys s'.items=(keys s.items).filter fun x=>x≠id
 at_:∀ x,x≠id->(qj s'.items x).at_=(qj s.items x).at_
 sp:∀ x,x≠id->(qj s'.items x).sp=(qj s.items x).sp
 code:∀ x,x≠id->(qj s'.items x).code.length<=(qj s.items x).code.length
 rows:s'.rows=s.rows.map fun r=>r.filter fun n=>n≠id
theorem YR{s:qd}{id:Int}{order:List (Int × Int)}(ho:∀ p∈order,p.1∈keys s.items):qJO s (forget1 order s id) id:=by
 obtain⟨a1,a2,a3⟩:=Yy id order s ho
 obtain⟨b1,b2,b3⟩:=jQ id (qB (qN id order s).items id) (qN id order s)
 unfold forget1
 dsimp only
 refine⟨?_,fun x hx=>?_,fun x hx=>?_,fun x hx=>?_,?_⟩
 ·show Ch.keys (dl (qM id _ _).items id)=_
  rw[q0q,b1,a1.keys]
 ·show(qj (dl (qM id _ _).items id) x).at_=_
  rw[QA _ hx,b1];exact a1.at_ x
 ·show(qj (dl (qM id _ _).items id) x).sp=_
  rw[QA _ hx,b1];exact a1.sp x
 ·show(qj (dl (qM id _ _).items id) x).code.length<=_
  rw[QA _ hx,b1];exact a1.code x
 ·show(qM id _ _).rows.map _=_
  rw[b3,a3]
theorem q7d(order:List (Int × Int))(s:qd)(id:Int):(forget1 order s id).len=s.len/\(forget1 order s id).k=s.k/\(forget1 order s id).cur=s.cur/\(forget1 order s id).given=s.given/\(forget1 order s id).ev=s.ev/\(forget1 order s id).dr=s.dr/\(forget1 order s id).rows.length=s.rows.length:=by
 have hf:∀ (l:List (Int × Int)) (s:qd),(qN id l s).len=s.len/\(qN id l s).k=s.k/\(qN id l s).cur=s.cur/\(qN id l s).given=s.given/\(qN id l s).ev=s.ev/\(qN id l s).dr=s.dr/\(qN id l s).rows.length=s.rows.length:=by
  intro l
  induction l with
  | nil=>exact fun s=>⟨rfl,rfl,rfl,rfl,rfl,rfl,rfl⟩
  | cons p l ih=>exact fun s=>ih _
 have hd:∀ (l:List EX) (s:qd),(qM id l s).len=s.len/\(qM id l s).k=s.k/\(qM id l s).cur=s.cur/\(qM id l s).given=s.given/\(qM id l s).ev=s.ev/\(qM id l s).dr=s.dr/\(qM id l s).rows.length=s.rows.length:=by
  intro l
  induction l with
  | nil=>exact fun s=>⟨rfl,rfl,rfl,rfl,rfl,rfl,rfl⟩
  | cons p l ih=>
   intro s
   unfold qM
   split
   ·exact ih _
   ·exact ih _
 obtain⟨a1,a2,a3,a4,a5,a6,a7⟩:=hf order s
 obtain⟨b1,b2,b3,b4,b5,b6,b7⟩:=hd (qB (qN id order s).items id) (qN id order s)
 refine⟨b1.trans a1,b2.trans a2,b3.trans a3,b4.trans a4,b5.trans a5,b6.trans a6,?_⟩
 show(List.map _ (qM id _ _).rows).length=_
 rw[List.length_map,b7,a7]
theorem Zj{l:List (List Int)}(p:Int->Bool):(l.map fun r=>r.filter p).flatten=l.flatten.filter p:=by
 induction l with
 | nil=>rfl
 | cons r l ih=>simp only[List.map_cons,List.flatten_cons,List.filter_append,ih]
theorem qT.forget1{s:qd}{id:Int}{order:List (Int × Int)}(h:qT s)(hid:id∈keys s.items)(ho:∀ p∈order,p.1∈keys s.items):qT (forget1 order s id)/\(Ch.forget1 order s id).items.length+1=s.items.length:=by
 have L:=YR (id:=id) ho
 obtain⟨c1,c2,c3,c4,c5,c6,c7⟩:=q7d order s id
 have hlen:(Ch.forget1 order s id).items.length+1=s.items.length:=by
  rw[<-qI,<-qI s.items,L.keys]
  have:=h.nd
  have h1:(keys s.items).filter (fun x=>x≠id)=(keys s.items).erase id:=by rw[List.Nodup.erase_eq_filter this];exact List.filter_congr fun x _=>by by_cases hx:x=id<;>simp[hx]
  rw[h1,List.length_erase_of_mem hid]
  have:=List.length_pos_of_mem hid
  omega
 have hk:∀ x,x∈keys (Ch.forget1 order s id).items↔x∈keys s.items/\x≠id:=fun x=>by rw[L.keys];simp
 have htab:(Ch.forget1 order s id).table=zE s id/\True:=⟨by
  obtain⟨a1,a2,a3⟩:=Yy id order s ho
  obtain⟨b1,b2,b3⟩:=jQ id (qB (qN id order s).items id) (qN id order s)
  have hkk:(qM id (qB (qN id order s).items id) (qN id order s)).k=s.k:=c2
  show zE (qM id _ _) id=_
  unfold zE
  rw[b1,b2,a2,hkk,a1.at_]
  have hg:∀ (f n:Nat) (o:Option Nat) (t:List Int),yp (qN id order s).items s.k id (zy s.k (qj s.items id).at_).toNat f n o t=yp s.items s.k id (zy s.k (qj s.items id).at_).toNat f n o t:=by
   intro f
   induction f with
   | zero=>intro n o t;cases o<;>rfl
   | succ f ih=>
    intro n o t
    cases o with
    | none=>unfold yp;rw[ih,ih]
    | some hh=>unfold yp;rw[a1.at_,ih,ih]
  exact hg _ _ _ _,trivial⟩
 refine⟨⟨by rw[c2];exact h.k4,by rw[c2];exact h.k16,?_,?_,?_,?_,?_,?_,?_,by rw[c3,c7];exact h.cur,by rw[c7];exact h.rl,by rw[c5];exact h.ev,by rw[c6];exact h.dr,?_,by rw[c4];exact h.given,by rw[c1];exact h.len,?_⟩,hlen⟩
 ·rw[L.keys];exact h.nd.filter _
 ·intro x hx;rw[c4];exact h.pos x ((hk x).1 hx).1
 ·intro x hx y hy he
  have hx':=(hk x).1 hx
  have hy':=(hk y).1 hy
  rw[L.at_ x hx'.2,L.at_ y hy'.2]at he
  exact h.ats x hx'.1 y hy'.1 he
 ·intro x hx
  have hx':=(hk x).1 hx
  rw[L.at_ x hx'.2];exact h.atw x hx'.1
 ·rw[htab.1,c2]
  obtain⟨e,he,he0⟩:=h.room
  have:=h.tab.remove (items:=s.items) (fun x _=>⟨qvK h.k4 h.k16 _ _,q36 h.k4 h.k16 _ _⟩) hid he he0
  refine JT.congr this (fun x=>(hk x).symm) fun x hx=>?_
  unfold Zb;rw[L.at_ x hx.2]
 ·have:=h.lim;unfold ve at *;rw[c2];omega
 ·rw[L.rows,L.keys,Zj]
  exact h.rows.filter _
 ·have:=h.sum;rw[c4,c5,c6];omega
 ·intro r hr
  rw[L.rows]at hr
  obtain⟨r0,hr0,rfl⟩:=List.mem_map.1 hr
  rw[c1]
  refine Int.le_trans ?_ (h.fill r0 hr0)
  refine Int.le_trans (q34 fun x hx=>L.code x ?_) (q2U _)
  have:=(List.mem_filter.1 hx).2
  simpa using this
structure vh (s s':qd) (l:List Int):Prop where
 keys:keys s'.items=(keys s.items).filter fun x=>x ∉ l
 at_:∀ x,x ∉ l->(qj s'.items x).at_=(qj s.items x).at_
 sp:∀ x,x ∉ l->(qj s'.items x).sp=(qj s.items x).sp
 rows:s'.rows=s.rows.map fun r=>r.filter fun n=>n ∉ l
theorem vh.nil(s:qd):vh s s []:=⟨(List.filter_eq_self.2 fun x _=>by simp).symm,fun _ _=>rfl,fun _ _=>rfl,by
 rw[List.map_congr_left (g:=id) fun r _=>by simp];simp⟩
theorem vh.mem{s s':qd}{l:List Int}(h:vh s s' l){x:Int}:x∈Ch.keys s'.items↔x∈Ch.keys s.items/\x ∉ l:=by rw[h.keys];simp
theorem vh.cons{s s1 s':qd}{id:Int}{l:List Int}(h:qJO s s1 id)(g:vh s1 s' l):vh s s' (id::l):=by
 refine⟨?_,fun x hx=>?_,fun x hx=>?_,?_⟩
 ·rw[g.keys,h.keys,List.filter_filter]
  exact List.filter_congr fun x _=>by by_cases h1:x=id<;>by_cases h2:x∈l<;>simp[h1,h2]
 ·rw[List.mem_cons,not_or]at hx
  exact(g.at_ x hx.2).trans (h.at_ x hx.1)
 ·rw[List.mem_cons,not_or]at hx
  exact(g.sp x hx.2).trans (h.sp x hx.1)
 ·rw[g.rows,h.rows,List.map_map]
  refine List.map_congr_left fun r _=>?_
  simp only[Function.comp_apply]
  rw[List.filter_filter]
  exact List.filter_congr fun x _=>by by_cases h1:x=id<;>by_cases h2:x∈l<;>simp[h1,h2]
theorem vh.append{s s1 s':qd}{a b:List Int}(h:vh s s1 a)(g:vh s1 s' b):vh s s' (a++b):=by
 refine⟨?_,fun x hx=>?_,fun x hx=>?_,?_⟩
 ·rw[g.keys,h.keys,List.filter_filter]
  exact List.filter_congr fun x _=>by by_cases h1:x∈a<;>by_cases h2:x∈b<;>simp[h1,h2]
 ·rw[List.mem_append,not_or]at hx
  exact(g.at_ x hx.2).trans (h.at_ x hx.1)
 ·rw[List.mem_append,not_or]at hx
  exact(g.sp x hx.2).trans (h.sp x hx.1)
 ·rw[g.rows,h.rows,List.map_map]
  refine List.map_congr_left fun r _=>?_
  simp only[Function.comp_apply]
  rw[List.filter_filter]
  exact List.filter_congr fun x _=>by by_cases h1:x∈a<;>by_cases h2:x∈b<;>simp[h1,h2]
theorem vh.len{s s':qd}{l:List Int}(h:vh s s' l)(hn:(Ch.keys s.items).Nodup)(hl:l.Nodup)(hs:∀ x∈l,x∈Ch.keys s.items):s'.items.length+l.length=s.items.length:=by
 rw[<-qI s'.items,<-qI s.items,h.keys]
 have h1:=(List.filter_append_perm (fun x=>decide (x ∉ l)) (Ch.keys s.items)).length_eq
 rw[List.length_append]at h1
 have h2:(((Ch.keys s.items).filter fun x=>!decide (x ∉ l)).Perm l):=by
  refine(List.perm_ext_iff_of_nodup (hn.filter _) hl).2 fun x=>?_
  rw[List.mem_filter]
  constructor
  ·rintro⟨_,h⟩;simpa using h
  ·intro h;exact⟨hs x h,by simpa using h⟩
 rw[<-h1,h2.length_eq]
structure JY (Q:qd->Prop):Prop where
 places:∀ s id,qT s->Q s->∀ p∈(lk s.hold id).getD [],p.1∈keys s.items
 forget:∀ s id order,qT s->Q s->id∈keys s.items->order.Perm ((lk s.hold id).getD [])->Q (forget1 order s id)
 cur:∀ s c,Q s->Q { s with cur:=c }
 ev:∀ s e,Q s->Q { s with ev:=e }
variable {Q:qd->Prop}
theorem zm.keep(hQ:JY Q){s s':qd}{l:List Int}(h:zm s l s'):qT s->Q s->l.Nodup->(∀ x∈l,x∈keys s.items)->qT s'/\Q s'/\vh s s' l:=by
 induction h with
 | nil s=>exact fun hb hq _ _=>⟨hb,hq,.nil s⟩
 | @cons s s' id l order ho _ ih=>
  intro hb hq hn hs
  have hn:=List.nodup_cons.1 hn
  have hid:=hs id (.head _)
  have hp:∀ p∈order,p.1∈keys s.items:=fun p hp=>hQ.places s id hb hq p (ho.mem_iff.1 hp)
  have hL:=YR (id:=id) hp
  obtain⟨a,b,c⟩:=ih (hb.forget1 hid hp).1 (hQ.forget s id order hb hq hid ho) hn.2 fun x hx=>by
   rw[hL.keys]
   exact List.mem_filter.2 ⟨hs x (.tail _ hx),by simp;rintro rfl;exact hn.1 hx⟩
  exact⟨a,b,.cons hL c⟩
theorem qT.row{s:qd}(h:qT s){r:List Int}(hr:r∈s.rows):r.Nodup/\∀ x∈r,x∈keys s.items:=by
 have hn:s.rows.flatten.Nodup:=h.rows.nodup_iff.2 h.nd
 refine⟨?_,fun x hx=>h.rows.mem_iff.1 (List.mem_flatten.2 ⟨r,hr,hx⟩)⟩
 exact(List.pairwise_flatten.1 hn).1 r hr
theorem zS(l:List Int):(zI l).Perm l:=List.mergeSort_perm l _
theorem qA9{s:qd}(h:qT s):(zM s).Nodup/\(∀ x∈zM s,x∈keys s.items)/\s.rows[s.cur]?=some (s.rows[s.cur]'h.cur)/\(zM s).Perm (s.rows[s.cur]'h.cur):=by
 have e:s.rows[s.cur]?=some (s.rows[s.cur]'h.cur):=List.getElem?_eq_getElem h.cur
 have hp:(zM s).Perm (s.rows[s.cur]'h.cur):=by unfold zM;rw[e];exact zS _
 obtain⟨h1,h2⟩:=h.row (List.getElem_mem h.cur)
 exact⟨hp.nodup_iff.2 h1,fun x hx=>h2 x (hp.mem_iff.1 hx),e,hp⟩
theorem qT.setCur{s:qd}(h:qT s){c:Nat}(hc:c<s.rows.length):qT { s with cur:=c }:=
 ⟨h.k4,h.k16,h.nd,h.pos,h.ats,h.atw,h.tab,h.lim,h.rows,hc,h.rl,h.ev,h.dr,h.sum,h.given,h.len,h.fill⟩
theorem qT.next{s:qd}(h:qT s):qT (qy s):=h.setCur (Nat.mod_lt _ (by have:=h.cur;omega))
theorem qT.setEv{s:qd}(h:qT s){e:Int}(h0:0<=e)(hs:s.items.length+e+s.dr<=s.given):qT { s with ev:=e }:=
 ⟨h.k4,h.k16,h.nd,h.pos,h.ats,h.atw,h.tab,h.lim,h.rows,h.cur,h.rl,h0,h.dr,hs,h.given,h.len,h.fill⟩
theorem qT.setDr{s:qd}(h:qT s){e:Int}(h0:0<=e)(hs:s.items.length+s.ev+e<=s.given):qT { s with dr:=e }:=
 ⟨h.k4,h.k16,h.nd,h.pos,h.ats,h.atw,h.tab,h.lim,h.rows,h.cur,h.rl,h.ev,h0,hs,h.given,h.len,h.fill⟩
theorem qT.few{s:qd}(h:qT s):s.items.length<60000:=by
 have h1:=h.lim
 have h2:(2:Nat) ^ s.k<=2 ^ 16:=Nat.pow_le_pow_right (by decide) h.k16
 unfold ve at h1
 omega
theorem qT.rowLen{s:qd}(h:qT s){r:List Int}(hr:r∈s.rows):r.length<=s.items.length:=by
 obtain⟨h1,h2⟩:=h.row hr
 have:=q2H h1 h2
 rw[qI]at this;exact this
theorem qT.fit{s:qd}(h:qT s):Fit s:=by
 have hf:=h.few
 refine⟨fun r hr=>by have:=h.rowLen hr;omega,h.ev,?_,by omega,fun x hx=>?_⟩
 ·have:=h.sum;have:=h.given;have:=h.dr;omega
 ·obtain⟨i,hi,rfl⟩:=List.mem_iff_getElem.1 hx
  have hs:qn s.table i=s.table[i]:=by unfold qn;rw[List.getElem?_eq_getElem hi];rfl
  by_cases h0:s.table[i]=0
  ·rw[h0];exact YS
  ·have:=h.pos _ (by have:=h.tab.mem i (by rw[<-h.tab.len];exact hi) (by rw[hs];exact h0);rw[hs]at this;exact this)
   have:=h.given
   exact⟨by omega,by omega⟩
theorem quq{s:qd}(h:qT s)(hr:∀ r∈s.rows,r=[]):s.items=[]:=by
 have h1:s.rows.flatten=[]:=List.flatten_eq_nil_iff.2 hr
 have h2:=h.rows.length_eq
 rw[h1,qI]at h2
 exact List.length_eq_zero_iff.1 h2.symm
theorem zm.round(hQ:JY Q){s s2:qd}(hb:qT s)(hq:Q s)(h:zm (qy s) (zM (qy s)) s2) :
  qT { s2 with ev:=s2.ev+(zM (qy s)).length }/\Q { s2 with ev:=s2.ev+(zM (qy s)).length }/\vh s s2 (zM (qy s))/\s2.items.length+(zM (qy s)).length=s.items.length/\
  s2.rows[(s.cur+1) % s.rows.length]?=some []:=by
 have hn:=hb.next
 obtain⟨r1,r2,r3,r4⟩:=qA9 hn
 obtain⟨a,b,c⟩:=h.keep hQ hn (hQ.cur s _ hq) r1 r2
 have hl:=c.len hn.nd r1 r2
 have hc:=h.conf
 have hl':s2.items.length+(zM (qy s)).length=s.items.length:=hl
 refine⟨a.setEv ?_ ?_,hQ.ev _ _ b,⟨c.keys,c.at_,c.sp,c.rows⟩,hl',?_⟩
 ·have:=a.ev;omega
 ·have h1:=hb.sum
  have e1:s2.ev=s.ev:=hc.2.2.2.2.1
  have e2:s2.dr=s.dr:=hc.2.2.2.2.2.1
  have e3:s2.given=s.given:=hc.2.2.2.1
  rw[e1,e2,e3];omega
 ·have e:s2.rows=s.rows.map fun r=>r.filter fun n=>n ∉ zM (qy s):=c.rows
  have r3':s.rows[(s.cur+1) % s.rows.length]?=some ((qy s).rows[(qy s).cur]'hn.cur):=r3
  rw[e,List.getElem?_map,r3',Option.map_some]
  congr 1
  refine List.filter_eq_nil_iff.2 fun x hx=>?_
  have:=r4.mem_iff.2 hx
  simp[this]
theorem EvR.of(hQ:JY Q){n:Nat}:∀ (m g:Nat) (s:qd),qT s->Q s->(n:Int)<=s.len->m<=s.rows.length->(∀ i,m<=i->i<s.rows.length->s.rows[(s.cur+1+i) % s.rows.length]?=some [])->g+s.items.length<1000000->EvR n m g s
 | 0,g,s,hb,hq,hn,_,he,hg=>by
  refine⟨hb.fit,by omega,?_⟩
  have hcur:=hb.cur
  have hr:∀ r∈s.rows,r=[]:=fun r hr=>by
   obtain⟨j,hj,rfl⟩:=List.mem_iff_getElem.1 hr
   have hR:s.rows.length≠0:=by omega
   have hc:(s.cur+1) % s.rows.length<s.rows.length:=Nat.mod_lt _ om
   have h1:=he (D s.rows.length ((s.cur+1) % s.rows.length) j) (Nat.zero_le _) (qbD hc hj)
   have h2:(s.cur+1+D s.rows.length ((s.cur+1) % s.rows.length) j) % s.rows.length=j:=by
    rw[<-Nat.mod_add_mod];exact qhV hc hj
   rw[h2,List.getElem?_eq_getElem hj]at h1
   exact Option.some.inj h1
  have hi:=quq hb hr
  have hf:zt s s.cur=0:=by
   unfold zt
   rw[List.getElem?_eq_getElem hcur,hr _ (List.getElem_mem hcur)];rfl
  unfold jh
  rw[hf,hi]
  have:=(q97 hb.k4).2
  simp only[List.length_nil,Bool.or_eq_false_iff,decide_eq_false_iff_not]
  unfold ve
  exact⟨by omega,by omega⟩
 | m+1,g,s,hb,hq,hn,hm,he,hg=>by
  refine⟨hb.fit,by omega,fun _ s2 hF=>?_⟩
  obtain⟨a,b,c,d,e⟩:=hF.round hQ hb hq
  have hc:=hF.conf
  have hR:s2.rows.length=s.rows.length:=hc.2.2.2.2.2.2
  have hcu:s2.cur=(s.cur+1) % s.rows.length:=hc.2.2.1
  refine EvR.of hQ m _ _ a b ?_ ?_ ?_ ?_
  ·show(n:Int)<=s2.len
   rw[hc.1];exact hn
  ·show m<=s2.rows.length
   omega
  ·intro i h1 h2
   show s2.rows[(s2.cur+1+i) % s2.rows.length]?=some []
   have h2':i<s.rows.length:=by rw[<-hR];exact h2
   rw[hR,hcu]
   have hmod:((s.cur+1) % s.rows.length+1+i) % s.rows.length=(s.cur+1+(i+1)) % s.rows.length:=by
    rw[Nat.add_assoc,Nat.mod_add_mod,Nat.add_comm 1 i]
   rw[hmod]
   by_cases hi:i+1<s.rows.length
   ·have h3:=he (i+1) om hi
    rw[c.rows,List.getElem?_map,h3];rfl
   ·have:i+1=s.rows.length:=by omega
    rw[this,Nat.add_mod_right]
    exact e
  ·show g+_+s2.items.length<_
   omega
theorem qT.evR(hQ:JY Q){n:Nat}{s:qd}(hb:qT s)(hq:Q s)(hn:(n:Int)<=s.len):EvR n s.rows.length 0 s:=
 EvR.of hQ _ 0 s hb hq hn (Nat.le_refl _) (fun i h1 h2=>by omega) (by have:=hb.few;omega)
theorem yd.keep(hQ:JY Q){n:Nat}{s s':qd}{gone:List Int}(h:yd n s gone s'):qT s->Q s->qT s'/\Q s'/\vh s s' gone/\jh s' n=false/\s'.items.length+gone.length=s.items.length/\s'.ev=s.ev+gone.length:=by
 induction h with
 | done hf=>exact fun hb hq=>⟨hb,hq,.nil _,hf,by simp,by simp⟩
 | @step s s2 s' gone hf hF _ ih=>
  intro hb hq
  obtain⟨a,b,c,d,e⟩:=hF.round hQ hb hq
  obtain⟨a',b',c',d',e',f'⟩:=ih a b
  have c2:vh { s2 with ev:=s2.ev+(zM (qy s)).length } s' gone:=c'
  have e2:s'.items.length+gone.length=s2.items.length:=e'
  have f2:s'.ev=s2.ev+(zM (qy s)).length+gone.length:=f'
  have hc:s2.ev=s.ev:=hF.conf.2.2.2.2.1
  refine⟨a',b',vh.append c ⟨c2.keys,c2.at_,c2.sp,c2.rows⟩,d',?_,?_⟩
  ·rw[List.length_append];omega
  ·rw[List.length_append,f2,hc];omega
theorem q3K{a b:List (Int × TR)}{l:List Int}(h:∀ x∈l,qj a x=qj b x):qR a l=qR b l:=by
 unfold qR
 rw[List.map_congr_left fun x hx=>by rw[h x hx]]
theorem q3c{l:List (List Int)}{i:Nat}(hi:i<l.length)(x:Int):(l.modify i fun r=>r++[x]).flatten.Perm (l.flatten++[x]):=by
 induction l generalizing i with
 | nil=>simp at hi
 | cons r l ih=>
  cases i with
  | zero=>
   simp only[List.modify_zero_cons,List.flatten_cons,List.append_assoc]
   exact List.Perm.append_left r (List.perm_append_comm)
  | succ i=>
   simp only[List.modify_succ_cons,List.flatten_cons,List.append_assoc]
   exact List.Perm.append_left r (ih (by simpa using hi))
theorem q3k(s:qd)(t:TR):(zL s t).items=pt s.items (s.given+1) t:=rfl
theorem qT.add{s:qd}{t:TR}(h:qT s)(hf:jh s t.code.length=false)(ha:jq t.at_)(hd:∀ x∈keys s.items,(qj s.items x).at_≠t.at_)(hg:s.given<2147483647) :
  qT (zL s t)/\keys (zL s t).items=keys s.items++[s.given+1]/\(∀ x∈keys s.items,qj (zL s t).items x=qj s.items x)/\qj (zL s t).items (s.given+1)=t/\s.given+1 ∉ keys s.items:=by
 have hnew:s.given+1 ∉ keys s.items:=fun hh=>by have:=(h.pos _ hh).2;omega
 have hk:keys (zL s t).items=keys s.items++[s.given+1]:=JJ _ hnew
 have hne:∀ x∈keys s.items,x≠s.given+1:=fun x hx hh=>hnew (hh▸hx)
 have hold:∀ x∈keys s.items,qj (zL s t).items x=qj s.items x:=fun x hx=>by
  rw[q3k,Jj,if_neg (hne x hx)]
 have hnw:qj (zL s t).items (s.given+1)=t:=by rw[q3k,Jj,if_pos rfl]
 have hmem:∀ x,x∈keys (zL s t).items↔x∈keys s.items\/x=s.given+1:=fun x=>by rw[hk];simp
 have hg0:0<=s.given:=by have:=h.sum;have:=h.ev;have:=h.dr;omega
 unfold jh at hf
 simp only[Bool.or_eq_false_iff,decide_eq_false_iff_not]at hf
 refine⟨⟨h.k4,h.k16,?_,?_,?_,?_,?_,?_,?_,?_,?_,h.ev,h.dr,?_,?_,h.len,?_⟩,hk,hold,hnw,hnew⟩
 ·rw[hk]
  exact List.nodup_append.2 ⟨h.nd,by simp,fun a ha b hb=>by rw[List.mem_singleton.1 hb];exact hne a ha⟩
 ·intro x hx
  show 0<x/\x<=s.given+1
  rcases(hmem x).1 hx with hx | rfl
  ·have:=h.pos x hx;omega
  ·omega
 ·intro x hx y hy he
  rcases(hmem x).1 hx with hx | rfl<;>rcases(hmem y).1 hy with hy | rfl
  ·rw[hold x hx,hold y hy]at he;exact h.ats x hx y hy he
  ·rw[hold x hx,hnw]at he;exact absurd he (hd x hx)
  ·rw[hold y hy,hnw]at he;exact absurd he.symm (hd y hy)
  ·rfl
 ·intro x hx
  rcases(hmem x).1 hx with hx | rfl
  ·rw[hold x hx];exact h.atw x hx
  ·rw[hnw];exact ha
 ·obtain⟨e,he,he0⟩:=h.room
  have h0:JT (2 ^ s.k) s.table (fun x=>x∈keys s.items) (Zb s.k (zL s t).items):=h.tab.congr (fun _=>Iff.rfl) fun x hx=>by unfold Zb;rw[hold x hx]
  have:=h0.insert (id:=s.given+1) hnew om (q36 h.k4 h.k16 _ _) he he0
  exact this.congr (fun x=>(hmem x).symm) fun x _=>rfl
 ·show(zL s t).items.length<=ve s
  rw[<-qI,hk,List.length_append,qI]
  simp only[List.length_cons,List.length_nil]
  omega
 ·rw[hk]
  exact(q3c h.cur _).trans (h.rows.append_right _)
 ·show s.cur<(s.rows.modify s.cur _).length
  rw[List.length_modify];exact h.cur
 ·show(s.rows.modify s.cur _).length<_
  rw[List.length_modify];exact h.rl
 ·show((zL s t).items.length:Int)+s.ev+s.dr<=s.given+1
  have:=h.sum
  rw[<-qI,hk,List.length_append,qI]
  simp only[List.length_cons,List.length_nil]
  omega
 ·show s.given+1<=_
  omega
 ·intro r hr
  obtain⟨i,hi,hri⟩:=List.mem_iff_getElem?.1 hr |>.imp fun i hi=>(⟨by
   have:=(List.getElem?_eq_some_iff.1 hi).1
   have e:(zL s t).rows.length=s.rows.length:=List.length_modify _ _ _
   omega,hi⟩:i<s.rows.length/\(zL s t).rows[i]?=some r)
  have e:(zL s t).rows[i]?=if s.cur=i then some (s.rows[i]++[s.given+1])else some s.rows[i]:=by
   show(s.rows.modify s.cur _)[i]?=_
   rw[List.getElem?_modify,List.getElem?_eq_getElem hi]
   split<;>rfl
  rw[e]at hri
  have hrow:∀ x∈s.rows[i],qj (zL s t).items x=qj s.items x:=fun x hx=>hold x ((h.row (List.getElem_mem hi)).2 x hx)
  have h1:qR (zL s t).items s.rows[i]=qR s.items s.rows[i]:=q3K hrow
  have h2:=h.fill _ (List.getElem_mem hi)
  show qR _ r<=s.len
  split at hri
  ·rename_i hci
   cases hri
   subst hci
   have h3:zt s s.cur=qR s.items s.rows[s.cur]:=by unfold zt qR;rw[List.getElem?_eq_getElem hi];rfl
   have h4:qR (zL s t).items (s.rows[s.cur]++[s.given+1])=qR (zL s t).items s.rows[s.cur]+t.code.length:=by
    unfold qR
    rw[List.map_append,List.sum_append]
    simp[hnw]
   rw[h4,h1,<-h3]
   omega
  ·cases hri
   rw[h1];exact h2
theorem qT.look_some{s:qd}(h:qT s){a x:Int}(hx:x∈keys s.items)(ha:(qj s.items x).at_=a) :
  ∃ i,i<2 ^ s.k/\qn s.table i=x/\(∀ m,m<D (2 ^ s.k) (zy s.k a).toNat i->qn s.table (((zy s.k a).toNat+m) % 2 ^ s.k)≠0)/\zO s a=(x,D (2 ^ s.k) (zy s.k a).toNat i+1):=by
 obtain⟨e,he,he0⟩:=h.room
 have hh:Zb s.k s.items x=(zy s.k a).toNat:=by unfold Zb;rw[ha]
 exact h.tab.look_some hx (by rw[<-hh];exact q36 h.k4 h.k16 _ _) hh ha (fun y hy hya=>h.ats y hy x hx (hya.trans ha.symm)) he he0
theorem qT.look_none{s:qd}(h:qT s){a:Int}(ha:∀ x∈keys s.items,(qj s.items x).at_≠a) :
  ∃ r,r<2 ^ s.k/\qn s.table (((zy s.k a).toNat+r) % 2 ^ s.k)=0/\(∀ m,m<r->qn s.table (((zy s.k a).toNat+m) % 2 ^ s.k)≠0)/\zO s a=(0,r+1):=by
 obtain⟨e,he,he0⟩:=h.room
 have hf:(zy s.k a).toNat<2 ^ s.k:=by
  have:=ZA h.k4 h.k16 a
  have h2:((2:Int) ^ s.k)=((2 ^ s.k:Nat):Int):=by rw[Int.natCast_pow];rfl
  omega
 obtain⟨r,hr,hr1,hr2⟩:=qsq (p:=fun m=>qn s.table (((zy s.k a).toNat+m) % 2 ^ s.k)=0) (D (2 ^ s.k) (zy s.k a).toNat e) (by show qn _ _=0;rw[qhV hf he];exact he0)
 have hlt:=qbD hf he
 exact⟨r,by omega,hr,hr2,h.tab.look_none hf ha om hr hr2⟩
theorem qT.look_iff{s:qd}(h:qT s)(a:Int):(zO s a).1≠0↔∃ x∈keys s.items,(qj s.items x).at_=a:=by
 constructor
 ·intro h0
  refine Classical.byContradiction fun hno=>h0 ?_
  obtain⟨r,_,_,_,e⟩:=h.look_none (a:=a) fun x hx hxa=>hno ⟨x,hx,hxa⟩
  rw[e]
 ·rintro⟨x,hx,hxa⟩
  obtain⟨i,_,_,_,e⟩:=h.look_some hx hxa
  rw[e]
  have:=(h.pos x hx).1
  show x≠0
  omega
end Go.Fx.Ch
namespace Go.Fx.Ch
open Go.Fx.Tryz
set_option linter.all false
set_option maxRecDepth 100000
theorem qT.new{n k:Nat}{len:Int}(h1:1<=n)(hn:n<1000000)(h4:4<=k)(h16:k<=16)(hl0:0<=len)(hl:len<=1048576):qT (jf n len k):=by
 have hk:∀ x,¬ x∈keys (jf n len k).items:=fun x hx=>by cases hx
 have hf:(jf n len k).rows.flatten=[]:=List.flatten_eq_nil_iff.2 fun r hr=>(List.mem_replicate.1 hr).2
 refine⟨h4,h16,List.nodup_nil,fun x hx=>absurd hx (hk x),fun x hx=>absurd hx (hk x),fun x hx=>absurd hx (hk x),(JT.empty (2 ^ k) fun _=>0).congr (fun x=>⟨fun h=>h.elim,fun h=>absurd h (hk x)⟩) fun x h=>h.elim,Nat.zero_le _,?_,?_,?_,Int.le_refl _,Int.le_refl _,?_,?_,hl,fun r hr=>?_⟩
 ·rw[hf];exact List.Perm.nil
 ·show 0<(List.replicate n ([]:List Int)).length
  rw[List.length_replicate];omega
 ·show(List.replicate n ([]:List Int)).length<_
  rw[List.length_replicate];omega
 ·show((0:Nat):Int)+0+0<=0
  omega
 ·show(0:Int)<=_
  omega
 ·rw[(List.mem_replicate.1 hr).2]
  exact hl0
end Go.Fx.Ch
namespace Go.Fx.Tryz
set_option maxRecDepth 100000
open Go Go.Fx Go.Proofs
end Go.Fx.Tryz
namespace Go.Fx.Ch
open Go.Fx.Tryz
end Go.Fx.Ch
namespace Go.Fx.Tryz
open Go Go.Fx Go.Fx.Ch
open Go.Proofs
set_option linter.all false
set_option maxRecDepth 20000
variable {w0 w:World} {H X N:qE} {K:KT} {s u:qd} {L L1 L2:qQ} {q q1 q2:LB}
section
variable {all:List Int} {stay:List Bool} {k n10 ac sl sc t:Nat} {aa sa:Option Addr} {at_:Int}
end
end Go.Fx.Tryz
namespace Go.Fx.Tryz
open Go Go.Fx Go.Fx.Ch
open Go.Proofs
set_option linter.all false
set_option maxRecDepth 20000
variable {w0 w:World} {H X N:qE} {K:KT} {s u:qd} {L L1 L2:qQ} {q q1 q2:LB}
section
variable {all:List Int} {stay:List Bool} {k n10 ac sl sc t:Nat} {aa sa:Option Addr} {at_:Int}
end
end Go.Fx.Tryz
namespace Go.Proofs.YtepbaneageipfaaGreatDoor
open Go
set_option maxRecDepth 100000
theorem qLr{a b:Bool}(h:a=true)(g:b=true):(a&&b)=true:=by rw[h,g];rfl
end Go.Proofs.YtepbaneageipfaaGreatDoor
namespace Go.Fx.Tryz
open Go Go.Fx Go.Fx.Ch
open Go.Proofs
open Go.ChangeShapes Go.WideShapes Go.ChangeAt Go.RowKit
set_option linter.all false
set_option maxRecDepth 100000
variable {H:Type} {enc:TypeId × Value->H} {W:World}
theorem q6o{n:Int}(h:(Lit.int .u32 n).wf=true):0<=n/\n<4294967296:=by
 simp[Lit.wf,IntKind.min,IntKind.max,IntKind.signed,IntKind.bits]at h
 omega
theorem qDH{n:Int}(h:(Lit.int .u8 n).wf=true):0<=n/\n<256:=by
 simp[Lit.wf,IntKind.min,IntKind.max,IntKind.signed,IntKind.bits]at h
 omega
theorem q0K:P.cellsOf 24=1:=kr
end Go.Fx.Tryz
namespace Go.Proofs.YtepbaneageipfaaGreatDoor
open Go Go.Fx Go.Fx.Tryz Go.Fx.Ch
open Go.ChangeShapes Go.WideShapes Go.ChangeAt Go.RowKit
set_option linter.all false
set_option maxRecDepth 100000
end Go.Proofs.YtepbaneageipfaaGreatDoor
namespace Go.Fx.Ch
open Go.Fx.Tryz
set_option linter.all false
set_option maxRecDepth 100000
structure Ag (b b':List Int) (n:Nat):Prop where
 l1:n<=b.length
 l2:n<=b'.length
 eq:∀ i,i<n->b[i]?=b'[i]?
theorem qtA{b b':List Int}{n k:Nat}{s:Rd}(h:Ag b b' n)(h1:(rd b s k).2.2=false)(h2:(rd b s k).2.1<=n):rd b' s k=rd b s k:=by
 obtain⟨_,h3⟩:=ZP h1
 rw[h3]at h2
 have:=h.l1
 have:=h.l2
 unfold rd
 rw[if_neg om,if_neg om]
 have e:(b'.drop s.1).take k=(b.drop s.1).take k:=by
  apply List.ext_getElem?
  intro i
  rw[List.getElem?_take,List.getElem?_take]
  split
  ·rw[List.getElem?_drop,List.getElem?_drop]
   exact(h.eq _ om).symm
  ·rfl
 rw[e]
def qU(f:List Int->HI × Rd->HI × Rd):Prop:=∀ (b b':List Int) (n:Nat) (s:HI × Rd),Ag b b' n->(f b s).2.2=false->(f b s).2.1<=n->f b' s=f b s/\s.2.2=false/\s.2.1<=(f b s).2.1
theorem qU.id:qU fun _ s=>s:=fun _ _ _ _ _ h _=>⟨rfl,h,Nat.le_refl _⟩
theorem qU.read(g:HI->Int->HI)(k:Nat):qU fun b s=>(g s.1 (rd b s.2 k).1,(rd b s.2 k).2):=fun b b' n s ha h1 h2=>by
 have h1:(rd b s.2 k).2.2=false:=h1
 have h2:(rd b s.2 k).2.1<=n:=h2
 refine⟨?_,(ZP h1).1,q9M⟩
 show(g s.1 (rd b' s.2 k).1,(rd b' s.2 k).2)=_
 rw[qtA ha h1 h2]
theorem qU.comp{f g:List Int->HI × Rd->HI × Rd}(hf:qU f)(hg:qU g):qU fun b s=>g b (f b s):=fun b b' n s ha h1 h2=>by
 obtain⟨g1,g2,g3⟩:=hg b b' n (f b s) ha h1 h2
 obtain⟨f1,f2,f3⟩:=hf b b' n s ha g2 (Nat.le_trans g3 h2)
 refine⟨?_,f2,Nat.le_trans f3 g3⟩
 show g b' (f b' s)=_
 rw[f1,g1]
theorem qU.decS(fs i:Nat):qU fun b s=>Ch.decS fs b i s:=by
 unfold Ch.decS
 by_cases h:has fs (qaB i)=true
 ·simp only[if_pos h]
  exact qU.read (fun x v=>q3T x i v) _
 ·simp only[if_neg h]
  exact qU.id
theorem qU.decI(fs:Nat):∀ i,qU fun b s=>Ch.decI fs b i s
 | 0=>qU.id
 | i+1=>(qU.comp (f:=fun b s=>Ch.decI fs b i s) (g:=fun b s=>Ch.decS fs b i s) (qU.decI fs i) (qU.decS fs i):qU fun b s=>Ch.decS fs b i (Ch.decI fs b i s))
theorem qU.decA(fs:Nat):qU fun b s=>Ch.decA fs b s:=by
 unfold Ch.decA
 by_cases h:has fs 256=true
 ·simp only[if_pos h]
  exact qU.read (fun x v=>{ x with i:=v }) _
 ·simp only[if_neg h]
  exact qU.id
theorem qU.decC(fs:Nat):qU fun b s=>Ch.decC fs b s:=by
 unfold Ch.decC
 by_cases h:has fs 512=true
 ·simp only[if_pos h]
  exact qU.read (fun x v=>{ x with chain:=v }) _
 ·simp only[if_neg h]
  exact qU.id
theorem qU.decV1:∀ i,qU fun b s=>Ch.decV1 b i s
 | 0=>qU.id
 | i+1=>(qU.comp (f:=fun b s=>Ch.decV1 b i s) (g:=fun b s=>(q1U s.1 i (rd b s.2 4).1,(rd b s.2 4).2)) (qU.decV1 i) (qU.read (fun x v=>q1U x i v) 4):qU fun b s=>(q1U (Ch.decV1 b i s).1 i (rd b (Ch.decV1 b i s).2 4).1,(rd b (Ch.decV1 b i s).2 4).2))
theorem qU.decV(fs:Nat):qU fun b s=>Ch.decV fs b s:=by
 unfold Ch.decV
 by_cases h:has fs 1024=true
 ·simp only[if_pos h]
  exact qU.decV1 4
 ·simp only[if_neg h]
  exact qU.id
theorem qU.head(fs:Nat):qU fun b s=>Ch.decA fs b (Ch.decI fs b 8 s):=qU.comp (qU.decI fs 8) (qU.decA fs)
theorem qU.all(fs:Nat):qU fun b s=>Ch.decV fs b (Ch.decC fs b (Ch.decA fs b (Ch.decI fs b 8 s))):=qU.comp (qU.comp (qU.head fs) (qU.decC fs)) (qU.decV fs)
theorem V6{b:List Int}{x:HI}{n:Nat}(h:decode b=some (x,n)):(rd b (0,false) 1).2=(1,false)/\1<=(rd b (0,false) 1).1/\(rd b (0,false) 1).1<46/\check x=true/\
  decV (zg (rd b (0,false) 1).1).1 b (decC (zg (rd b (0,false) 1).1).1 b (decA (zg (rd b (0,false) 1).1).1 b (decI (zg (rd b (0,false) 1).1).1 b 8 ({ op:=(rd b (0,false) 1).1 },(rd b (0,false) 1).2))))=(x,n,false):=by
 unfold decode at h
 dsimp only at h
 split at h
 ·cases h
 ·rename_i h1
  split at h
  ·cases h
  ·rename_i h2
   simp only[Option.some.injEq,Prod.mk.injEq]at h
   have h1a:=fun hh=>h1 (.inl hh)
   have h1b:(rd b (0,false) 1).2.2=false:=Bool.eq_false_iff.2 fun hh=>h1 (.inr hh)
   have h3:=Classical.not_not.1 h1a
   have hf:=Bool.eq_false_iff.2 fun hh=>h2 (.inl hh)
   have hc:¬ check _=false:=fun hh=>h2 (.inr hh)
   rw[h.1]at hc
   refine⟨Prod.ext (ZP h1b).2 h1b,h3.1,h3.2,by simpa using hc,?_⟩
   exact Prod.ext h.1 (Prod.ext h.2 hf)
theorem q46{b:List Int}{x:HI}{n:Nat}(h1:(rd b (0,false) 1).2=(1,false))(h2:1<=(rd b (0,false) 1).1)(h3:(rd b (0,false) 1).1<46)(h4:check x=true)
  (h5:decV (zg (rd b (0,false) 1).1).1 b (decC (zg (rd b (0,false) 1).1).1 b (decA (zg (rd b (0,false) 1).1).1 b (decI (zg (rd b (0,false) 1).1).1 b 8 ({ op:=(rd b (0,false) 1).1 },(rd b (0,false) 1).2))))=(x,n,false)):decode b=some (x,n):=by
 unfold decode
 dsimp only
 rw[h5,if_neg,if_neg]
 ·simp[h4]
 ·rw[h1];simp;omega
theorem qp0{b b':List Int}{x:HI}{n:Nat}(h:decode b=some (x,n))(ha:Ag b b' n):decode b'=some (x,n):=by
 obtain⟨h1,h2,h3,h4,h5⟩:=V6 h
 have hl:=v8 h
 have ho:rd b' (0,false) 1=rd b (0,false) 1:=qtA ha (by rw[h1]) (by rw[h1];exact hl.1)
 refine q46 (by rw[ho];exact h1) (by rw[ho];exact h2) (by rw[ho];exact h3) h4 ?_
 rw[ho]
 have:=(qU.all (zg (rd b (0,false) 1).1).1 b b' n ({ op:=(rd b (0,false) 1).1 },(rd b (0,false) 1).2) ha (congrArg (fun p=>p.2.2) h5) (Nat.le_of_eq (congrArg (fun p=>p.2.1) h5))).1
 exact this.trans h5
theorem qd9{fs:Nat}{x:HI}(c:Int)(h:has fs 512=true):(Yz fs { x with chain:=c }=={ x with chain:=c })=(Yz fs x==x):=by
 have e:Yz fs { x with chain:=c }={ Yz fs x with chain:=c }:=by
  unfold Yz vM
  simp only[h,pick,if_true]
 have hc:(Yz fs x).chain=x.chain:=by
  unfold Yz
  simp only[h,pick,if_true]
 rw[e]
 generalize Yz fs x=y at *
 rw[Bool.eq_iff_iff,beq_iff_eq,beq_iff_eq]
 constructor
 ·intro hh
  cases x;cases y
  simp only[HI.mk.injEq]at hh hc ⊢
  simp_all
 ·intro hh
  rw[hh]
theorem q7R{x:HI}(c:Int)(hx:x.op=39\/x.op=40):check { x with chain:=c }=check x:=by
 have hv:yK { x with chain:=c }=yK x:=by
  have h512:has (zg x.op).1 512=true:=by rcases hx with hx | hx<;>rw[hx]<;>decide
  have hr:(zg x.op).2=17:=by rcases hx with hx | hx<;>rw[hx]<;>decide
  unfold yK
  have:=qd9 (x:=x) c h512
  simp only[this,hr]
  rfl
 have h1:ju { x with chain:=c }=ju x:=by unfold ju;rw[hv];rfl
 unfold check
 rw[hv]
 have h2:yU { x with chain:=c }=yU x:=rfl
 have h3:Yb { x with chain:=c }=Yb x:=by unfold Yb;rw[h1];rfl
 rw[h1,h2,h3]
theorem q4Y{b b':List Int}{x:HI}{n:Nat}(h:decode b=some (x,n))(hx:x.op=39\/x.op=40)(ha:Ag b b' (n-4))(hn:n<=b'.length):decode b'=some ({ x with chain:=le ((b'.drop (n-4)).take 4) },n):=by
 have h4':=jp h hx
 obtain⟨h1,h2,h3,h4,h5⟩:=V6 h
 have hop:x.op=(rd b (0,false) 1).1:=by
  have:=congrArg (fun p=>p.1.op) h5
  simp only at this
  rw[qkT,qj8,qmU,q0o]at this
  exact this.symm
 have h512:has (zg (rd b (0,false) 1).1).1 512=true:=by rw[<-hop];rcases hx with hx | hx<;>rw[hx]<;>decide
 have h1024:¬ has (zg (rd b (0,false) 1).1).1 1024=true:=by rw[<-hop];rcases hx with hx | hx<;>rw[hx]<;>decide
 have hV:∀ b s,decV (zg (rd b' (0,false) 1).1).1 b s=s\/True:=fun _ _=>.inr trivial
 generalize hfs:(zg (rd b (0,false) 1).1).1=fs at *
 generalize hs0:(({ op:=(rd b (0,false) 1).1 },(rd b (0,false) 1).2):HI × Rd)=s0 at *
 generalize hsA:decA fs b (decI fs b 8 s0)=sA at *
 have hC:∀ d,decV fs d (decC fs d sA)=({ sA.1 with chain:=(rd d sA.2 4).1 },(rd d sA.2 4).2):=fun d=>by
  unfold decV decC
  rw[if_neg h1024,if_pos h512]
 rw[hC]at h5
 have h6:(rd b sA.2 4).2=(n,false):=congrArg (·.2) h5
 obtain⟨h7,h8⟩:=ZP (show(rd b sA.2 4).2.2=false by rw[h6])
 rw[h6]at h8
 have h8:n=sA.2.1+4:=h8
 have hloc:=qU.head fs b b' (n-4) s0 ha (by show(decA fs b (decI fs b 8 s0)).2.2=false;rw[hsA];exact h7) (by show(decA fs b (decI fs b 8 s0)).2.1<=n-4;rw[hsA];omega)
 have hA':decA fs b' (decI fs b' 8 s0)=sA:=hloc.1.trans hsA
 have hs01:s0.2.1=1:=by rw[<-hs0];show(rd b (0,false) 1).2.1=1;rw[h1]
 have hup:s0.2.1<=sA.2.1:=by
  have:=hloc.2.2
  have e:(decA fs b (decI fs b 8 s0)).2.1=sA.2.1:=by rw[hsA]
  exact Nat.le_trans this (Nat.le_of_eq e)
 have ho:rd b' (0,false) 1=rd b (0,false) 1:=qtA ha (by rw[h1]) (by rw[h1];show 1<=n-4;omega)
 have hrd:rd b' sA.2 4=(le ((b'.drop (n-4)).take 4),(n,false)):=by
  unfold rd
  rw[if_neg om,h7]
  have:n-4=sA.2.1:=by omega
  rw[this,h8]
 refine q46 (by rw[ho];exact h1) (by rw[ho];exact h2) (by rw[ho];exact h3) ((q7R _ hx).trans h4) ?_
 rw[ho,hfs,hs0,hA',hC,hrd]
 have hx1:({ sA.1 with chain:=(rd b sA.2 4).1 }:HI)=x:=congrArg (·.1) h5
 rw[<-hx1]
def yA(bs:List Int):Nat->List (HI × Nat)->Nat->Prop
 | a,[],b=>a=b
 | a,p::r,b=>p.2=a/\∃ n,decode (bs.drop a)=some (p.1,n)/\a+n<=bs.length/\yA bs (a+n) r b
theorem yA.whole{bs:List Int}:∀ {a:Nat} {l:List (HI × Nat)},Run bs a l↔yA bs a l bs.length
 | _,[]=>Iff.rfl
 | a,p::r=>by
  constructor
  ·rintro⟨h1,n,h2,h3,h4⟩
   exact⟨h1,n,h2,h3,yA.whole.1 h4⟩
  ·rintro⟨h1,n,h2,h3,h4⟩
   exact⟨h1,n,h2,h3,yA.whole.2 h4⟩
theorem yA.append{bs:List Int}:∀ {a:Nat} {l m:List (HI × Nat)} {c:Nat},yA bs a (l++m) c↔∃ b,yA bs a l b/\yA bs b m c
 | a,[],m,c=>⟨fun h=>⟨a,rfl,h⟩,fun⟨b,h1,h2⟩=>by have h1:a=b:=h1;rw[h1];exact h2⟩
 | a,p::l,m,c=>by
  constructor
  ·rintro⟨h1,n,h2,h3,h4⟩
   obtain⟨b,h5,h6⟩:=yA.append.1 h4
   exact⟨b,⟨h1,n,h2,h3,h5⟩,h6⟩
  ·rintro⟨b,⟨h1,n,h2,h3,h5⟩,h6⟩
   exact⟨h1,n,h2,h3,yA.append.2 ⟨b,h5,h6⟩⟩
theorem yA.le{bs:List Int}:∀ {a:Nat} {l:List (HI × Nat)} {b:Nat},yA bs a l b->a<=b
 | _,[],_,h=>Nat.le_of_eq h
 | a,p::l,b,⟨_,n,_,_,h4⟩=>by have:=yA.le h4;omega
theorem yA.congr{bs bs':List Int}(hl:bs.length=bs'.length):∀ {a:Nat} {l:List (HI × Nat)} {b:Nat},yA bs a l b->(∀ i,a<=i->i<b->bs[i]?=bs'[i]?)->yA bs' a l b
 | _,[],_,h,_=>h
 | a,p::l,b,⟨h1,n,h2,h3,h4⟩,he=>by
  have hle:=yA.le h4
  refine⟨h1,n,qp0 h2 ⟨?_,?_,fun i hi=>?_⟩,by omega,yA.congr hl h4 fun i h5 h6=>he i om h6⟩
  ·rw[List.length_drop];omega
  ·rw[List.length_drop];omega
  ·rw[List.getElem?_drop,List.getElem?_drop];exact he _ om om
def q2u:Bool->List (HI × Nat)->Prop
 | b,[]=>b=true
 | b,p::r=>b=false/\q2u (Yk p.1) r
theorem Yh(out:List (HI × Nat))(x:HI)(a:Nat):zJ (out++[(x,a)])=Yk x:=by
 unfold zJ
 rw[List.getLast?_append];rfl
theorem q4c{bs:List Int}:∀ (f a:Nat) (out l:List (HI × Nat)),QC bs f a out=some l->a<=bs.length->∃ r,l=out++r/\Run bs a r/\q2u (zJ out) r
 | 0,_,_,_,h,_=>by cases h
 | f+1,a,out,l,h,ha=>by
  unfold QC at h
  split at h
  ·rename_i hlt
   split at h
   ·cases h
   ·rename_i x n hd
    split at h
    ·cases h
    ·rename_i hne
     have hl:=v8 hd
     rw[List.length_drop]at hl
     obtain⟨r,rfl,hr,hf⟩:=q4c f (a+n) _ l h om
     rw[Yh]at hf
     exact⟨(x,a)::r,by simp,⟨rfl,n,hd,by omega,hr⟩,by simpa using hne,hf⟩
  ·rename_i hlt
   split at h
   ·rename_i he
    cases h;exact⟨[],by simp,by show a=bs.length;omega,he⟩
   ·cases h
theorem qkI{bs:List Int}:∀ (f a:Nat) (out r:List (HI × Nat)),Run bs a r->q2u (zJ out) r->bs.length-a<f->a<=bs.length->QC bs f a out=some (out++r)
 | 0,_,_,_,_,_,h,_=>by omega
 | f+1,a,out,[],hr,hf,h,ha=>by
  have hr:a=bs.length:=hr
  have hf:zJ out=true:=hf
  unfold QC
  rw[if_neg om,if_pos hf,List.append_nil]
 | f+1,a,out,p::r,⟨h1,n,h2,h3,h4⟩,hf,h,ha=>by
  have hl:=v8 h2
  have hf:zJ out=false/\q2u (Yk p.1) r:=hf
  unfold QC
  rw[if_pos om,h2]
  dsimp only
  rw[if_neg (by rw[hf.1];decide)]
  rw[qkI f (a+n) (out++[(p.1,a)]) r h4 (by rw[Yh];exact hf.2) om h3,List.append_assoc,<-h1]
  rfl
theorem JC{bs:List Int}{l:List (HI × Nat)}(h:jl bs=some l):Run bs 0 l/\q2u false l/\bs.length<=65536:=by
 have h65:=q3b h
 unfold jl at h
 rw[if_neg om]at h
 obtain⟨r,hr,h1,h2⟩:=q4c _ _ _ _ h (Nat.zero_le _)
 rw[List.nil_append]at hr
 subst hr
 exact⟨h1,h2,h65⟩
theorem qyk{bs:List Int}{l:List (HI × Nat)}(h1:Run bs 0 l)(h2:q2u false l)(h3:bs.length<=65536):jl bs=some l:=by
 unfold jl
 rw[if_neg om,qkI _ 0 [] l h1 h2 om (Nat.zero_le _)];rfl
theorem q2u.congr{p p':HI × Nat}(hp:p.1.op=p'.1.op):∀ {b:Bool} {l1 l2:List (HI × Nat)},q2u b (l1++p::l2)->q2u b (l1++p'::l2)
 | b,[],l2,h=>⟨h.1,by have e:Yk p'.1=Yk p.1:=by(unfold Yk;rw[hp])
                      rw[e];exact h.2⟩
 | b,q::l1,l2,h=>⟨h.1,q2u.congr hp h.2⟩
theorem Jo{bs:List Int}{slot:Nat}(c:Int)(h:slot+4<=bs.length):(zH bs slot c).length=bs.length:=by
 unfold zH le4
 simp only[List.length_append,List.length_take,List.length_cons,List.length_nil,List.length_drop]
 omega
theorem q9E{bs:List Int}{slot:Nat}(c:Int)(h:slot+4<=bs.length){i:Nat}(hi:i<slot):(zH bs slot c)[i]?=bs[i]?:=by
 unfold zH
 rw[List.append_assoc,List.getElem?_append_left (by rw[List.length_take];omega),List.getElem?_take,if_pos hi]
theorem qsk{bs:List Int}{slot:Nat}(c:Int)(h:slot+4<=bs.length){i:Nat}(hi:slot+4<=i):(zH bs slot c)[i]?=bs[i]?:=by
 unfold zH
 have hl:(bs.take slot++le4 c).length=slot+4:=by
  unfold le4
  simp only[List.length_append,List.length_take,List.length_cons,List.length_nil]
  omega
 rw[List.getElem?_append_right om,hl,List.getElem?_drop]
 congr 1
 omega
theorem qu8{bs:List Int}{slot:Nat}(c:Int)(h:slot+4<=bs.length):((zH bs slot c).drop slot).take 4=le4 c:=by
 unfold zH
 have hl:(bs.take slot).length=slot:=by rw[List.length_take];omega
 rw[List.append_assoc,List.drop_left' hl]
 exact List.take_left' rfl
theorem qHM{c:Int}(h:jq c):le (le4 c)=c:=by
 obtain⟨h0,h1⟩:=h
 unfold le4
 simp only[le]
 omega
theorem qfU{bs:List Int}{l1 l2:List (HI × Nat)}{p:HI × Nat}{n:Nat}{c:Int}(hc:jq c)(h:jl bs=some (l1++p::l2))(hp:p.1.op=39\/p.1.op=40)(hd:decode (bs.drop p.2)=some (p.1,n))(hn:p.2+n<=bs.length) :
  jl (zH bs (p.2+n-4) c)=some (l1++({ p.1 with chain:=c },p.2)::l2):=by
 obtain⟨h1,h2,h3⟩:=JC h
 have h4:=jp hd hp
 have hs:p.2+n-4+4<=bs.length:=by omega
 have hl:=Jo c hs
 obtain⟨b,r1,r2⟩:=yA.append.1 (yA.whole.1 h1)
 obtain⟨e1,m,e2,e3,e4⟩:=r2
 subst e1
 have hmn:m=n:=by rw[hd]at e2;injection e2 with e2;injection e2 with _ e2;exact e2.symm
 subst hmn
 refine qyk (yA.whole.2 (yA.append.2 ⟨p.2,r1.congr hl.symm fun i _ hi=>(q9E c hs om).symm,rfl,m,?_,by omega,?_⟩)) (q2u.congr (p:=p) (p':=({ p.1 with chain:=c },p.2)) rfl h2) om
 ·have:=q4Y (b':=(zH bs (p.2+m-4) c).drop p.2) hd hp ⟨by rw[List.length_drop];omega,by rw[List.length_drop];omega,fun i hi=>by
   rw[List.getElem?_drop,List.getElem?_drop]
   exact(q9E c hs om).symm⟩ (by rw[List.length_drop];omega)
  rw[List.drop_drop]at this
  have e:p.2+(m-4)=p.2+m-4:=by omega
  rw[e,qu8 c hs,qHM hc]at this
  exact this
 ·rw[hl]
  exact e4.congr hl.symm fun i hi _=>(qsk c hs om).symm
theorem Run.mono{bs:List Int}:∀ {a:Nat} {l:List (HI × Nat)},Run bs a l->(∀ p∈l,a<=p.2)/\l.Pairwise fun p q=>p.2<q.2
 | _,[],_=>⟨by simp,List.Pairwise.nil⟩
 | a,p::r,⟨h1,n,h2,h3,h4⟩=>by
  obtain⟨i1,i2⟩:=Run.mono h4
  have:=v8 h2
  refine⟨fun q hq=>?_,List.Pairwise.cons (fun q hq=>by have:=i1 q hq;omega) i2⟩
  rcases List.mem_cons.1 hq with rfl | hq
  ·omega
  ·have:=i1 q hq;omega
theorem Run.ends{bs:List Int}{l:List (HI × Nat)}(h:Run bs 0 l){i j:Nat}{p q:HI × Nat}(hij:i<j)(hi:l[i]?=some p)(hj:l[j]?=some q):jy bs.length l i<jy bs.length l j:=by
 have hp:=(h.mono).2
 obtain⟨m,d1,d2,d3⟩:=h.at hj
 have hm:=v8 d1
 have hjl:=(List.getElem?_eq_some_iff.1 hj).1
 have h1:l[i+1]?=some (l[i+1]'om):=List.getElem?_eq_getElem _
 have h2:(l[i+1]'om).2<=q.2:=by
  by_cases e:i+1=j
  ·subst e
   rw[h1]at hj
   injection hj with hj
   rw[hj];exact Nat.le_refl _
  ·have:=List.pairwise_iff_getElem.1 hp (i+1) j om hjl om
   rw[List.getElem?_eq_getElem hjl]at hj
   injection hj with hj
   rw[hj]at this
   omega
 have e1:jy bs.length l i=((l[i+1]'om).2:Int):=by unfold jy;rw[h1]
 rw[e1,d2]
 omega
theorem q7Y{α β:Type}{f g:α->Option β}:∀ {l:List α},(∀ x∈l,f x=g x)->l.filterMap f=l.filterMap g
 | [],_=>rfl
 | x::l,h=>by
  rw[List.filterMap_cons,List.filterMap_cons,h x (.head _),q7Y fun y hy=>h y (.tail _ hy)]
theorem qb4{bs:List Int}{l:List EX}{e:EX}{c:Int}(hc:jq c)(h:zd bs=some l)(he:e∈l):zd (zH bs e.slot.toNat c)=some (l.map fun x=>if x.slot=e.slot then { x with chain:=c }else x):=by
 obtain⟨al,i,p,n,h1,h2,h3,h4,h5,rfl⟩:=q2I h he
 have hn4:=jp h4 h3
 have hil:=(List.getElem?_eq_some_iff.1 h2).1
 have hsp:al=al.take i++p::al.drop (i+1):=by
  rw[List.getElem?_eq_getElem hil]at h2
  injection h2 with h2
  rw[<-h2]
  simp
 have hli:(al.take i).length=i:=by rw[List.length_take];omega
 have hpat:=qfU (l1:=al.take i) (l2:=al.drop (i+1)) (p:=p) (n:=n) hc (by rw[<-hsp];exact h1) h3 h4 h5
 have hslot:(((p.2+n:Nat):Int)-4).toNat=p.2+n-4:=by omega
 obtain⟨hrun,_,_⟩:=JC h1
 unfold zd at h ⊢
 rw[h1]at h
 dsimp only
 rw[hslot,hpat,Jo c om]
 simp only[Option.map_some,Option.some.injEq]at h ⊢
 subst h
 generalize hal':al.take i++({ p.1 with chain:=c },p.2)::al.drop (i+1)=al'
 have hlen:al'.length=al.length:=by
  rw[<-hal']
  simp only[List.length_append,List.length_take,List.length_cons,List.length_drop]
  omega
 have hat:∀ j,al'[j]?=if j=i then some ({ p.1 with chain:=c },p.2)else al[j]?:=fun j=>by
  rw[<-hal']
  rcases Nat.lt_trichotomy j i with hj | hj | hj
  ·rw[List.getElem?_append_left om,List.getElem?_take,if_pos hj,if_neg om]
  ·subst hj
   rw[List.getElem?_append_right om,hli,Nat.sub_self,if_pos rfl];rfl
  ·rw[List.getElem?_append_right om,hli,if_neg om]
   obtain⟨d,rfl⟩:∃ d,j=i+1+d:=⟨j-(i+1),by omega⟩
   have:i+1+d-i=d+1:=by omega
   rw[this,List.getElem?_cons_succ,List.getElem?_drop]
 have hend:∀ j,jy bs.length al' j=jy bs.length al j:=fun j=>by
  unfold jy
  rw[hat]
  by_cases hj:j+1=i
  ·rw[if_pos hj,hj,h2]
  ·rw[if_neg hj]
 unfold JB
 rw[hlen,List.map_filterMap]
 refine q7Y fun j hj=>?_
 have hj:=List.mem_range.1 hj
 unfold vd
 rw[hat,hend]
 by_cases hji:j=i
 ·subst hji
  rw[if_pos rfl,h2]
  dsimp only
  have hop:¬ ((p.1.op != 39&&p.1.op != 40)=true):=by rcases h3 with h3 | h3<;>rw[h3]<;>decide
  rw[if_neg hop]
  obtain⟨m,d1,d2,_⟩:=hrun.at h2
  have hmn:m=n:=by rw[h4]at d1;injection d1 with d1;injection d1 with _ d1;exact d1.symm
  subst hmn
  rw[if_neg hop]
  simp[d2]
 ·rw[if_neg hji]
  cases hq:al[j]? with
  | none=>rfl
  | some q=>
   dsimp only
   split
   ·rfl
   ·have hne:jy bs.length al j≠((p.2+n:Nat):Int):=by
     obtain⟨m,d1,d2,_⟩:=hrun.at h2
     have hmn:m=n:=by rw[h4]at d1;injection d1 with d1;injection d1 with _ d1;exact d1.symm
     subst hmn
     rw[<-d2]
     rcases Nat.lt_or_gt_of_ne hji with hlt | hgt
     ·have:=hrun.ends hlt hq h2;omega
     ·have:=hrun.ends hgt h2 hq;omega
    simp only[Option.map_some]
    rw[if_neg om]
theorem qaV{bs:List Int}{l:List EX}(h:zd bs=some l):(l.map fun e=>e.slot).Nodup:=by
 unfold zd at h
 cases h1:jl bs with
 | none=>rw[h1]at h;cases h
 | some al=>
  rw[h1]at h
  simp only[Option.map_some,Option.some.injEq]at h
  subst h
  obtain⟨hrun,_,_⟩:=JC h1
  refine List.pairwise_map.2 ?_
  unfold JB
  refine List.pairwise_filterMap.2 (List.pairwise_lt_range.imp fun {i j} hij e he e' he'=>?_)
  have key:∀ {i:Nat} {e:EX},vd bs.length al i=some e->∃ p,al[i]?=some p/\e.slot=jy bs.length al i-4:=fun {i e} he=>by
   unfold vd at he
   split at he
   ·cases he
   ·rename_i p hp
    split at he
    ·cases he
    ·cases he;exact⟨p,hp,rfl⟩
  obtain⟨p,hp,e1⟩:=key he
  obtain⟨q,hq,e2⟩:=key he'
  have:=hrun.ends hij hp hq
  omega
abbrev Zr(h:List (Int × List (Int × Int)))(c:Int):List (Int × Int):=(lk h c).getD []
structure y7 (h:List (Int × List (Int × Int))):Prop where
 nd:(keys h).Nodup
 each:∀ c l,lk h c=some l->l≠[]/\l.Nodup
theorem y7.nil:y7 []:=⟨List.nodup_nil,fun c l h=>by cases h⟩
theorem y7.nodup{h:List (Int × List (Int × Int))}(hh:y7 h)(c:Int):(Zr h c).Nodup:=by
 unfold Zr
 cases hl:lk h c with
 | none=>exact List.nodup_nil
 | some l=>exact(hh.each c l hl).2
theorem q3R{V:Type}{m:List (Int × V)}{k:Int}{v:V}(h:(keys m).Nodup):(keys (pt m k v)).Nodup:=by
 by_cases hk:k∈keys m
 ·rw[qmy v hk];exact h
 ·rw[JJ v hk]
  exact List.nodup_append.2 ⟨h,by simp,fun a ha b hb=>by rw[List.mem_singleton.1 hb];rintro rfl;exact hk ha⟩
theorem y7.dl{h:List (Int × List (Int × Int))}(hh:y7 h)(c:Int):y7 (dl h c):=by
 refine⟨by rw[q0q];exact hh.nd.filter _,fun c' l hl=>?_⟩
 rw[qrB]at hl
 split at hl
 ·cases hl
 ·exact hh.each c' l hl
theorem y7.pt{h:List (Int × List (Int × Int))}(hh:y7 h){c:Int}{v:List (Int × Int)}(h1:v≠[])(h2:v.Nodup):y7 (pt h c v):=by
 refine⟨q3R hh.nd,fun c' l hl=>?_⟩
 rw[qmj]at hl
 split at hl
 ·cases hl;exact⟨h1,h2⟩
 ·exact hh.each c' l hl
theorem y7.release{h:List (Int × List (Int × Int))}(hh:y7 h)(p:Int × Int)(c:Int):y7 (qZ h p c):=by
 unfold qZ
 split
 ·exact hh.dl c
 ·rename_i hne
  exact hh.pt hne ((hh.nodup c).filter _)
theorem y7.hold{h:List (Int × List (Int × Int))}(hh:y7 h)(p:Int × Int)(c:Int):y7 (q06 h p c):=by
 unfold q06
 split
 ·exact hh
 ·split
  ·rename_i hm
   exact hh.pt (List.ne_nil_of_mem hm) (hh.nodup c)
  ·rename_i hm
   exact hh.pt (by simp) (List.nodup_append.2 ⟨hh.nodup c,by simp,fun a ha b hb=>by rw[List.mem_singleton.1 hb];rintro rfl;exact hm ha⟩)
theorem vj(h:List (Int × List (Int × Int)))(p:Int × Int)(c c':Int)(q:Int × Int):q∈Zr (qZ h p c) c'↔q∈Zr h c'/\¬ (c'=c/\q=p):=by
 unfold qZ Zr
 split
 ·rename_i he
  rw[qrB]
  by_cases hc:c'=c
  ·subst hc
   rw[if_pos rfl]
   have:=List.filter_eq_nil_iff.1 he q
   constructor
   ·intro hh;cases hh
   ·rintro⟨h1,h2⟩
    have:=this h1
    simp at this
    exact absurd ⟨rfl,this⟩ h2
  ·rw[if_neg hc]
   exact⟨fun hh=>⟨hh,fun h2=>hc h2.1⟩,fun hh=>hh.1⟩
 ·rw[qmj]
  by_cases hc:c'=c
  ·subst hc
   rw[if_pos rfl]
   show q∈List.filter _ _↔_
   rw[List.mem_filter]
   simp
  ·rw[if_neg hc]
   exact⟨fun hh=>⟨hh,fun h2=>hc h2.1⟩,fun hh=>hh.1⟩
theorem qtW(h:List (Int × List (Int × Int)))(p:Int × Int){c:Int}(hc0:c≠0)(c':Int)(q:Int × Int):q∈Zr (q06 h p c) c'↔q∈Zr h c'\/(c'=c/\q=p):=by
 unfold q06 Zr
 rw[if_neg hc0,qmj]
 by_cases hc:c'=c
 ·subst hc
  rw[if_pos rfl]
  show q∈(if _ then _ else _)↔_
  split
  ·rename_i hm
   constructor
   ·exact Or.inl
   ·rintro(hh | ⟨_,rfl⟩)
    ·exact hh
    ·exact hm
  ·rw[List.mem_append,List.mem_singleton]
   simp
 ·rw[if_neg hc]
  constructor
  ·exact Or.inl
  ·rintro(hh | ⟨h1,_⟩)
   ·exact hh
   ·exact absurd h1 hc
structure qP (s:qd):Prop where
 dec:∀ id∈keys s.items,∃ l,zd (qj s.items id).code=some l
 up:∀ id∈keys s.items,∀ e∈qB s.items id,e.chain≠0->e.chain∈keys s.items/\(qj s.items e.chain).at_=e.to/\vE e=true
 held:∀ c p,p∈Zr s.hold c↔c≠0/\p.1∈keys s.items/\∃ e∈qB s.items p.1,e.slot=p.2/\e.chain=c
 ok:y7 s.hold
theorem vV{items:List (Int × TR)}{id:Int}{l:List EX}(h:zd (qj items id).code=some l):qB items id=l:=by unfold qB;rw[h];rfl
theorem q4S{items:List (Int × TR)}{p:Int × Int}{c:Int}(hc:jq c){l:List EX}(hl:zd (qj items p.1).code=some l){e:EX}(he:e∈qB items p.1)(hs:e.slot=p.2)(x:Int) :
  zd (qj (ze items p c) x).code=if x=p.1 then some ((qB items p.1).map fun y=>if y.slot=p.2 then { y with chain:=c }else y)else zd (qj items x).code:=by
 rw[QY]
 split
 ·rename_i hx
  subst hx
  have hel:e∈l:=by rw[vV hl]at he;exact he
  have hany:(l.any fun y=>y.slot==p.2)=true:=List.any_eq_true.2 ⟨e,hel,by simpa using hs⟩
  show zd (jr (qj items p.1).code p.2 c)=_
  unfold jr
  rw[hl]
  dsimp only
  rw[if_pos hany,<-hs,qb4 hc hl hel,vV hl]
 ·rfl
theorem Qa{items:List (Int × TR)}{id:Int}{l:List EX}(hl:zd (qj items id).code=some l){e f:EX}(he:e∈qB items id)(hf:f∈qB items id)(hs:e.slot=f.slot):e=f:=by
 rw[vV hl]at he hf
 have hn:=qaV hl
 obtain⟨i,hi,rfl⟩:=List.mem_iff_getElem.1 he
 obtain⟨j,hj,rfl⟩:=List.mem_iff_getElem.1 hf
 have hi':i<(l.map fun e=>e.slot).length:=by rw[List.length_map];exact hi
 have hj':j<(l.map fun e=>e.slot).length:=by rw[List.length_map];exact hj
 have:(l.map fun e=>e.slot)[i]=(l.map fun e=>e.slot)[j]:=by rw[List.getElem_map,List.getElem_map];exact hs
 have:=(List.getElem_inj hn).1 this
 subst this;rfl
theorem qP.step{s:qd}(h:qP s){p:Int × Int}{c:Int}(hc:jq c){e:EX}(hp:p.1∈keys s.items)(he:e∈qB s.items p.1)(hs:e.slot=p.2)(hto:c≠0->c∈keys s.items/\(qj s.items c).at_=e.to/\vE e=true)
  {hold':List (Int × List (Int × Int))} (hok:y7 hold') (hh:∀ c' q,q∈Zr hold' c'↔if q=p then c'=c/\c≠0 else q∈Zr s.hold c') :
  qP { s with items:=ze s.items p c,hold:=hold' }:=by
 obtain⟨l,hl⟩:=h.dec p.1 hp
 have hk:keys (ze s.items p c)=keys s.items:=jW c hp
 have hat:∀ x,(qj (ze s.items p c) x).at_=(qj s.items x).at_:=(YM.patch c hp).at_
 have hx:=q4S hc hl he hs
 have hex:∀ x,qB (ze s.items p c) x=if x=p.1 then(qB s.items p.1).map fun y=>if y.slot=p.2 then { y with chain:=c }else y else qB s.items x:=fun x=>by
  unfold qB
  rw[hx x]
  split
  ·rfl
  ·rfl
 refine⟨fun id hid=>?_,fun id hid f hf hf0=>?_,fun c' q=>?_,hok⟩
 ·have hid:id∈keys s.items:=by rw[<-hk];exact hid
  show ∃ l,zd (qj (ze s.items p c) id).code=some l
  rw[hx id]
  split
  ·exact⟨_,rfl⟩
  ·exact h.dec id hid
 ·have hid:id∈keys s.items:=by rw[<-hk];exact hid
  have hf:f∈qB (ze s.items p c) id:=hf
  show f.chain∈keys (ze s.items p c)/\(qj (ze s.items p c) f.chain).at_=f.to/\_
  rw[hk,hat]
  rw[hex id]at hf
  split at hf
  ·rename_i hi
   obtain⟨g,hg,rfl⟩:=List.mem_map.1 hf
   by_cases hgs:g.slot=p.2
   ·have hge:g=e:=Qa hl hg he (hgs.trans hs.symm)
    subst hge
    rw[if_pos hgs]at hf0 ⊢
    exact hto hf0
   ·rw[if_neg hgs]at hf0 ⊢
    exact h.up p.1 hp g hg hf0
  ·exact h.up id hid f hf hf0
 ·show q∈Zr hold' c'↔c'≠0/\q.1∈keys (ze s.items p c)/\∃ f∈qB (ze s.items p c) q.1,f.slot=q.2/\f.chain=c'
  rw[hh,hk,hex]
  by_cases hqp:q=p
  ·subst hqp
   rw[if_pos rfl,if_pos rfl]
   constructor
   ·rintro⟨rfl,h0⟩
    exact⟨h0,hp,{ e with chain:=c' },List.mem_map.2 ⟨e,he,by rw[if_pos hs]⟩,hs,rfl⟩
   ·rintro⟨h0,_,f,hf,hf1,hf2⟩
    obtain⟨g,hg,rfl⟩:=List.mem_map.1 hf
    by_cases hgs:g.slot=q.2
    ·rw[if_pos hgs]at hf2
     exact⟨hf2.symm,by rw[show c=c' from hf2];exact h0⟩
    ·rw[if_neg hgs]at hf1;exact absurd hf1 hgs
  ·rw[if_neg hqp,h.held]
   split
   ·rename_i hq1
    constructor
    ·rintro⟨h0,h1,f,hf,hf1,hf2⟩
     rw[hq1]at hf
     have hne:f.slot≠p.2:=fun hh=>hqp (Prod.ext hq1 (hf1.symm.trans hh))
     exact⟨h0,h1,f,List.mem_map.2 ⟨f,hf,by rw[if_neg hne]⟩,hf1,hf2⟩
    ·rintro⟨h0,h1,f,hf,hf1,hf2⟩
     obtain⟨g,hg,rfl⟩:=List.mem_map.1 hf
     have hgs:g.slot≠p.2:=fun hh=>by
      rw[if_pos hh]at hf1
      exact hqp (Prod.ext hq1 (hf1.symm.trans hh))
     rw[if_neg hgs]at hf1 hf2
     exact⟨h0,h1,g,by rw[hq1];exact hg,hf1,hf2⟩
   ·exact Iff.rfl
theorem qP.one{s:qd}(h:qP s){c c':Int}{p:Int × Int}(h1:p∈Zr s.hold c)(h2:p∈Zr s.hold c'):c=c':=by
 obtain⟨_,hp,e,he,hs,hc⟩:=(h.held c p).1 h1
 obtain⟨_,_,f,hf,ht,hd⟩:=(h.held c' p).1 h2
 obtain⟨l,hl⟩:=h.dec p.1 hp
 have:=Qa hl he hf (hs.trans ht.symm)
 rw[<-hc,<-hd,this]
theorem qP.free1{s:qd}(h:qP s){p:Int × Int}{id:Int}(hp:p∈Zr s.hold id):qP { s with items:=ze s.items p 0,hold:=qZ s.hold p id }:=by
 obtain⟨h0,h1,e,he,hs,hc⟩:=(h.held id p).1 hp
 refine h.step (c:=0) YS h1 he hs (fun hh=>absurd rfl hh) (h.ok.release p id) fun c' q=>?_
 rw[vj]
 by_cases hqp:q=p
 ·subst hqp
  rw[if_pos rfl]
  constructor
  ·rintro⟨h2,h3⟩
   exact absurd ⟨h.one h2 hp,rfl⟩ h3
  ·rintro⟨_,hh⟩;exact absurd rfl hh
 ·rw[if_neg hqp]
  exact⟨fun hh=>hh.1,fun hh=>⟨hh,fun hx=>hqp hx.2⟩⟩
theorem qP.free{id:Int}:∀ {order:List (Int × Int)} {s:qd},qP s->order.Nodup->(∀ p∈order,p∈Zr s.hold id)->qP (qN id order s)/\∀ c q,q∈Zr (qN id order s).hold c↔q∈Zr s.hold c/\¬ (c=id/\q∈order)
 | [],s,h,_,_=>⟨h,fun c q=>⟨fun hh=>⟨hh,fun hx=>by cases hx.2⟩,fun hh=>hh.1⟩⟩
 | p::order,s,h,hn,ho=>by
  have hn:=List.nodup_cons.1 hn
  have h1:=h.free1 (ho p (.head _))
  obtain⟨a,b⟩:=qP.free (id:=id) (order:=order) h1 hn.2 fun q hq=>by
   show q∈Zr (qZ s.hold p id) id
   rw[vj]
   exact⟨ho q (.tail _ hq),fun hx=>hn.1 (hx.2▸hq)⟩
  refine⟨a,fun c q=>?_⟩
  refine(b c q).trans ?_
  show q∈Zr (qZ s.hold p id) c/\_↔_
  rw[vj,List.mem_cons]
  constructor
  ·rintro⟨⟨h2,h3⟩,h4⟩
   exact⟨h2,fun hx=>hx.2.elim (fun e=>h3 ⟨hx.1,e⟩) fun e=>h4 ⟨hx.1,e⟩⟩
  ·rintro⟨h2,h3⟩
   exact⟨⟨h2,fun hx=>h3 ⟨hx.1,.inl hx.2⟩⟩,fun hx=>h3 ⟨hx.1,.inr hx.2⟩⟩
theorem YF{id:Int}:∀ {l:List EX} {s:qd},y7 s.hold->y7 (qM id l s).hold/\∀ c q,q∈Zr (qM id l s).hold c↔q∈Zr s.hold c/\¬ ∃ x∈l,x.chain≠0/\c=x.chain/\q=(id,x.slot)
 | [],s,h=>⟨h,fun c q=>⟨fun hh=>⟨hh,fun⟨x,hx,_⟩=>by cases hx⟩,fun hh=>hh.1⟩⟩
 | x::l,s,h=>by
  unfold qM
  split
  ·rename_i hx0
   obtain⟨a,b⟩:=YF (id:=id) (l:=l) (s:=s) h
   refine⟨a,fun c q=>(b c q).trans ?_⟩
   constructor
   ·rintro⟨h1,h2⟩
    refine⟨h1,fun⟨y,hy,hy0,hy1⟩=>?_⟩
    rcases List.mem_cons.1 hy with rfl | hy
    ·exact hy0 hx0
    ·exact h2 ⟨y,hy,hy0,hy1⟩
   ·rintro⟨h1,h2⟩
    exact⟨h1,fun⟨y,hy,hy0⟩=>h2 ⟨y,.tail _ hy,hy0⟩⟩
  ·rename_i hx0
   obtain⟨a,b⟩:=YF (id:=id) (l:=l) (s:={ s with hold:=qZ s.hold (id,x.slot) x.chain }) (h.release _ _)
   refine⟨a,fun c q=>(b c q).trans ?_⟩
   show q∈Zr (qZ s.hold (id,x.slot) x.chain) c/\_↔_
   rw[vj]
   constructor
   ·rintro⟨⟨h1,h3⟩,h2⟩
    refine⟨h1,fun⟨y,hy,hy0,hy1⟩=>?_⟩
    rcases List.mem_cons.1 hy with rfl | hy
    ·exact h3 hy1
    ·exact h2 ⟨y,hy,hy0,hy1⟩
   ·rintro⟨h1,h2⟩
    exact⟨⟨h1,fun hx=>h2 ⟨x,.head _,hx0,hx⟩⟩,fun⟨y,hy,hy0⟩=>h2 ⟨y,.tail _ hy,hy0⟩⟩
theorem qP.forget1{s:qd}(h:qP s){id:Int}{order:List (Int × Int)}(ho:order.Perm (Zr s.hold id)):qP (Ch.forget1 order s id):=by
 obtain⟨f1,f2⟩:=h.free (id:=id) (ho.nodup_iff.2 (h.ok.nodup id)) fun p hp=>ho.mem_iff.1 hp
 obtain⟨a1,a2,a3⟩:=jQ id (qB (qN id order s).items id) (qN id order s)
 obtain⟨d1,d2⟩:=YF (id:=id) (l:=qB (qN id order s).items id) f1.ok
 unfold Ch.forget1
 dsimp only
 generalize hs1:qN id order s=s1 at *
 have hfree:∀ q,q ∉ Zr s1.hold id:=fun q hq=>by
  have:=(f2 id q).1 hq
  exact this.2 ⟨rfl,ho.mem_iff.2 this.1⟩
 have hitem:∀ x,x≠id->qj (dl (qM id (qB s1.items id) s1).items id) x=qj s1.items x:=fun x hx=>by rw[QA _ hx,a1]
 have hkey:∀ x,x∈keys (dl (qM id (qB s1.items id) s1).items id)↔x∈keys s1.items/\x≠id:=fun x=>by rw[q0q,a1];simp
 have hex:∀ x,x≠id->qB (dl (qM id (qB s1.items id) s1).items id) x=qB s1.items x:=fun x hx=>congrArg (fun t:TR=>(zd t.code).getD []) (hitem x hx)
 refine⟨fun x hx=>?_,fun x hx e he h0=>?_,fun c p=>?_,d1⟩
 ·have hx:=(hkey x).1 hx
  show ∃ l,zd (qj (dl _ id) x).code=some l
  rw[hitem x hx.2]
  exact f1.dec x hx.1
 ·have hx:=(hkey x).1 hx
  have he:e∈qB (dl (qM id (qB s1.items id) s1).items id) x:=he
  rw[hex x hx.2]at he
  obtain⟨g1,g2,g3⟩:=f1.up x hx.1 e he h0
  have hne:e.chain≠id:=fun hh=>hfree (x,e.slot) ((f1.held id (x,e.slot)).2 ⟨by rw[<-hh];exact h0,hx.1,e,he,rfl,hh⟩)
  refine⟨(hkey _).2 ⟨g1,hne⟩,?_,g3⟩
  show(qj (dl _ id) e.chain).at_=_
  rw[hitem _ hne];exact g2
 ·show p∈Zr (qM id (qB s1.items id) s1).hold c↔c≠0/\p.1∈keys (dl (qM id (qB s1.items id) s1).items id)/\_
  rw[d2,f1.held,hkey]
  constructor
  ·rintro⟨⟨g0,g1,e,he,hs,hc⟩,hno⟩
   have hne:p.1≠id:=fun hh=>by
    rw[hh]at he
    exact hno ⟨e,he,by rw[hc];exact g0,hc.symm,Prod.ext hh hs.symm⟩
   refine⟨g0,⟨g1,hne⟩,e,?_,hs,hc⟩
   show e∈qB (dl _ id) p.1
   rw[hex _ hne];exact he
  ·rintro⟨g0,⟨g1,hne⟩,e,he,hs,hc⟩
   have he:e∈qB (dl (qM id (qB s1.items id) s1).items id) p.1:=he
   rw[hex _ hne]at he
   exact⟨⟨g0,g1,e,he,hs,hc⟩,fun⟨x,_,_,_,hx⟩=>hne (by rw[hx])⟩
theorem QM:JY qP:=
 ⟨fun s id _ hq p hp=>((hq.held id p).1 hp).2.1,fun s id order _ hq _ ho=>hq.forget1 ho,fun s c hq=>⟨hq.dec,hq.up,hq.held,hq.ok⟩,fun s e hq=>⟨hq.dec,hq.up,hq.held,hq.ok⟩⟩
theorem qP.setDr{s:qd}(h:qP s)(e:Int):qP { s with dr:=e }:=⟨h.dec,h.up,h.held,h.ok⟩
theorem qP.new(n:Nat)(len:Int)(k:Nat):qP (jf n len k):=by
 refine⟨fun id hid=>(by cases hid),fun id hid=>(by cases hid),fun c p=>?_,y7.nil⟩
 constructor
 ·intro hh;cases hh
 ·rintro⟨_,h1,_⟩;cases h1
theorem qP.add{s:qd}{t:TR}(h:qP s){l:List EX}(hl:zd t.code=some l)(h0:∀ e∈l,e.chain=0)(hk:keys (zL s t).items=keys s.items++[s.given+1])(ho:∀ x∈keys s.items,qj (zL s t).items x=qj s.items x)(hn:qj (zL s t).items (s.given+1)=t)(hnew:s.given+1 ∉ keys s.items):qP (zL s t):=by
 have hmem:∀ x,x∈keys (zL s t).items↔x∈keys s.items\/x=s.given+1:=fun x=>by rw[hk];simp
 have hex:∀ x∈keys s.items,qB (zL s t).items x=qB s.items x:=fun x hx=>by unfold qB;rw[ho x hx]
 have hexn:qB (zL s t).items (s.given+1)=l:=by unfold qB;rw[hn,hl];rfl
 refine⟨fun x hx=>?_,fun x hx e he he0=>?_,fun c p=>?_,h.ok⟩
 ·rcases(hmem x).1 hx with hx | rfl
  ·rw[ho x hx];exact h.dec x hx
  ·rw[hn];exact⟨l,hl⟩
 ·rcases(hmem x).1 hx with hx | rfl
  ·rw[hex x hx]at he
   obtain⟨g1,g2,g3⟩:=h.up x hx e he he0
   exact⟨(hmem _).2 (.inl g1),by rw[ho _ g1];exact g2,g3⟩
  ·rw[hexn]at he
   exact absurd (h0 e he) he0
 ·show p∈Zr s.hold c↔_
  rw[h.held]
  constructor
  ·rintro⟨g0,g1,e,he,hs⟩
   exact⟨g0,(hmem _).2 (.inl g1),e,by rw[hex _ g1];exact he,hs⟩
  ·rintro⟨g0,g1,e,he,hs⟩
   rcases(hmem _).1 g1 with g1 | g1
   ·exact⟨g0,g1,e,by rw[<-hex _ g1];exact he,hs⟩
   ·rw[g1,hexn]at he
    exact absurd (hs.2.symm.trans (h0 e he)) g0
theorem qT.akin{s:qd}(h:qT s){items:List (Int × TR)}(ha:YM items s.items)(hold:List (Int × List (Int × Int))):qT { s with items:=items,hold:=hold }:=by
 have hlen:items.length=s.items.length:=by rw[<-qI,<-qI s.items,ha.keys]
 refine⟨h.k4,h.k16,?_,?_,?_,?_,?_,?_,?_,h.cur,h.rl,h.ev,h.dr,?_,h.given,h.len,?_⟩
 ·show(keys items).Nodup
  rw[ha.keys];exact h.nd
 ·show ∀ x∈keys items,_
  rw[ha.keys];exact h.pos
 ·show ∀ x∈keys items,∀ y∈keys items,(qj items x).at_=(qj items y).at_->x=y
  rw[ha.keys]
  intro x hx y hy he
  rw[ha.at_,ha.at_]at he
  exact h.ats x hx y hy he
 ·show ∀ x∈keys items,jq (qj items x).at_
  rw[ha.keys]
  intro x hx
  rw[ha.at_];exact h.atw x hx
 ·show JT (2 ^ s.k) s.table (fun x=>x∈keys items) (Zb s.k items)
  rw[ha.keys]
  exact h.tab.congr (fun _=>Iff.rfl) fun x _=>by unfold Zb;rw[ha.at_]
 ·show items.length<=_
  rw[hlen];exact h.lim
 ·show s.rows.flatten.Perm (keys items)
  rw[ha.keys];exact h.rows
 ·show(items.length:Int)+s.ev+s.dr<=s.given
  rw[hlen];exact h.sum
 ·intro r hr
  show qR items r<=s.len
  exact Int.le_trans (q34 fun x _=>ha.code x) (h.fill r hr)
theorem qT.look_is{s:qd}(h:qT s){a:Int}(h0:(zO s a).1≠0):(zO s a).1∈keys s.items/\(qj s.items (zO s a).1).at_=a:=by
 obtain⟨x,hx,ha⟩:=(h.look_iff a).1 h0
 obtain⟨i,_,_,_,e⟩:=h.look_some hx ha
 rw[e]
 exact⟨hx,ha⟩
theorem QJ{s:qd}{id slot:Int}(h:¬ (zA s id slot).2≠0):id∈keys s.items/\(zA s id slot).1∈qB s.items id/\(zA s id slot).1.slot=slot:=by
 unfold zA at h ⊢
 split at h
 ·exact absurd (by simp) h
 ·rename_i t ht
  split at h
  ·exact absurd (by simp) h
  ·rename_i e he
   exact⟨q71.2 ⟨t,ht⟩,List.mem_of_find?_eq_some he,by simpa using List.find?_some he⟩
theorem q8p{s:qd}(hb:qT s)(hc:qP s)(id slot:Int):qT (zG s id slot).1/\qP (zG s id slot).1:=by
 unfold zG
 split
 ·exact⟨hb,hc⟩
 ·rename_i h0
  obtain⟨h1,h2,h3⟩:=QJ h0
  split
  ·exact⟨hb,hc⟩
  ·rename_i hno
   have hn1:=fun hh=>hno (.inl hh)
   have hn2:vE (zA s id slot).1=true:=by
    cases hcf:vE (zA s id slot).1 with
    | true=>rfl
    | false=>exact absurd (.inr hcf) hno
   obtain⟨g1,g2⟩:=hb.look_is hn1
   have hw:jq (zO s (zA s id slot).1.to).1:=by
    have:=hb.pos _ g1
    have:=hb.given
    exact⟨by omega,by omega⟩
   refine⟨hb.akin (YM.patch _ h1) _,?_⟩
   refine hc.step (p:=(id,slot)) hw h1 h2 h3 (fun _=>⟨g1,g2,hn2⟩) (hc.ok.hold _ _) fun c' q=>?_
   rw[qtW _ _ hn1]
   by_cases hqp:q=(id,slot)
   ·subst hqp
    rw[if_pos rfl]
    constructor
    ·rintro(hh | ⟨hh,_⟩)
     ·obtain⟨k0,k1,f,kf,ks,kc⟩:=(hc.held _ _).1 hh
      obtain⟨l,hl⟩:=hc.dec id h1
      have:f=(zA s id slot).1:=Qa hl kf h2 (ks.trans h3.symm)
      subst this
      obtain⟨m1,m2,_⟩:=hc.up id h1 _ h2 (by rw[kc];exact k0)
      rw[kc]at m1 m2
      exact⟨hb.ats _ m1 _ g1 (m2.trans g2.symm),hn1⟩
     ·exact⟨hh,hn1⟩
    ·rintro⟨hh,_⟩;exact .inr ⟨hh,rfl⟩
   ·rw[if_neg hqp]
    constructor
    ·rintro(hh | ⟨_,hh⟩)
     ·exact hh
     ·exact absurd hh hqp
    ·exact Or.inl
theorem q3V{s:qd}(hb:qT s)(hc:qP s)(id slot:Int):qT (zo s id slot).1/\qP (zo s id slot).1:=by
 unfold zo
 split
 ·exact⟨hb,hc⟩
 ·rename_i h0
  obtain⟨h1,h2,h3⟩:=QJ h0
  refine⟨hb.akin (YM.patch _ h1) _,?_⟩
  refine hc.step (p:=(id,slot)) YS h1 h2 h3 (fun hh=>absurd rfl hh) (hc.ok.release _ _) fun c' q=>?_
  rw[vj]
  by_cases hqp:q=(id,slot)
  ·subst hqp
   rw[if_pos rfl]
   constructor
   ·rintro⟨hh,hno⟩
    obtain⟨k0,k1,f,kf,ks,kc⟩:=(hc.held _ _).1 hh
    obtain⟨l,hl⟩:=hc.dec id h1
    have:f=(zA s id slot).1:=Qa hl kf h2 (ks.trans h3.symm)
    subst this
    exact absurd ⟨kc.symm,rfl⟩ hno
   ·rintro⟨_,hh⟩;exact absurd rfl hh
  ·rw[if_neg hqp]
   exact⟨fun hh=>hh.1,fun hh=>⟨hh,fun hx=>hqp hx.2⟩⟩
def yL(R:Int->TR->Prop):Prop:=∀ (x:Int) (t:TR) (l:List EX) (e:EX) (c:Int),R x t->jq c->zd t.code=some l->e∈l->R x { t with code:=zH t.code e.slot.toNat c }
def VW(R:Int->TR->Prop)(s:qd):Prop:=∀ x∈keys s.items,R x (qj s.items x)
variable {R:Int->TR->Prop}
theorem VW.patch(hR:yL R){s:qd}(hc:qP s)(h:VW R s){p:Int × Int}{c:Int}(hw:jq c)(hp:p.1∈keys s.items){e:EX}(he:e∈qB s.items p.1)(hs:e.slot=p.2)(hold:List (Int × List (Int × Int))):VW R { s with items:=ze s.items p c,hold:=hold }:=by
 intro x hx
 have hx:x∈keys (ze s.items p c):=hx
 rw[jW c hp]at hx
 show R x (qj (ze s.items p c) x)
 rw[QY]
 split
 ·rename_i hxp
  subst hxp
  obtain⟨l,hl⟩:=hc.dec p.1 hp
  have hel:e∈l:=by rw[vV hl]at he;exact he
  have hany:(l.any fun y=>y.slot==p.2)=true:=List.any_eq_true.2 ⟨e,hel,by simpa using hs⟩
  have e1:jr (qj s.items p.1).code p.2 c=zH (qj s.items p.1).code e.slot.toNat c:=by
   unfold jr
   rw[hl]
   dsimp only
   rw[if_pos hany,hs]
  rw[e1]
  exact hR p.1 _ l e c (h p.1 hp) hw hl hel
 ·exact h x hx
theorem VW.free(hR:yL R){id:Int}:∀ {order:List (Int × Int)} {s:qd},qP s->VW R s->order.Nodup->(∀ p∈order,p∈Zr s.hold id)->VW R (qN id order s)
 | [],s,_,h,_,_=>h
 | p::order,s,hc,h,hn,ho=>by
  have hn:=List.nodup_cons.1 hn
  obtain⟨h0,h1,e,he,hs,_⟩:=(hc.held id p).1 (ho p (.head _))
  refine VW.free hR (id:=id) (order:=order) (hc.free1 (ho p (.head _))) (VW.patch hR hc h YS h1 he hs _) hn.2 fun q hq=>?_
  show q∈Zr (qZ s.hold p id) id
  rw[vj]
  exact⟨ho q (.tail _ hq),fun hx=>hn.1 (hx.2▸hq)⟩
theorem VW.forget1(hR:yL R){s:qd}(hc:qP s)(h:VW R s){id:Int}{order:List (Int × Int)}(ho:order.Perm (Zr s.hold id)):VW R (Ch.forget1 order s id):=by
 have hf:=VW.free hR (id:=id) hc h (ho.nodup_iff.2 (hc.ok.nodup id)) fun p hp=>ho.mem_iff.1 hp
 obtain⟨a1,_,_⟩:=jQ id (qB (qN id order s).items id) (qN id order s)
 unfold Ch.forget1
 dsimp only
 intro x hx
 have hx:x∈keys (dl (qM id (qB (qN id order s).items id) (qN id order s)).items id):=hx
 rw[q0q,a1]at hx
 obtain⟨hx,hne⟩:=List.mem_filter.1 hx
 have hne:x≠id:=by simpa using hne
 show R x (qj (dl _ id) x)
 rw[QA _ hne,a1]
 exact hf x hx
structure QR (R:Int->TR->Prop) (s:qd):Prop where
 ch:qP s
 all:VW R s
theorem YV(hR:yL R):JY (QR R):=
 ⟨fun s id hb hq p hp=>QM.places s id hb hq.ch p hp,fun s id order hb hq hid ho=>⟨hq.ch.forget1 ho,hq.all.forget1 hR hq.ch ho⟩,fun s c hq=>⟨QM.cur s c hq.ch,hq.all⟩,fun s e hq=>⟨QM.ev s e hq.ch,hq.all⟩⟩
theorem QR.setDr{s:qd}(h:QR R s)(e:Int):QR R { s with dr:=e }:=⟨h.ch.setDr e,h.all⟩
theorem qif(hR:yL R){s:qd}(hb:qT s)(h:QR R s)(id slot:Int):qT (zG s id slot).1/\QR R (zG s id slot).1:=by
 obtain⟨h1,h2⟩:=q8p hb h.ch id slot
 refine⟨h1,h2,?_⟩
 unfold zG
 split
 ·exact h.all
 ·rename_i h0
  obtain⟨g1,g2,g3⟩:=QJ h0
  split
  ·exact h.all
  ·rename_i hno
   have hn1:=fun hh=>hno (.inl hh)
   obtain⟨k1,_⟩:=hb.look_is hn1
   have:=hb.pos _ k1
   have:=hb.given
   exact h.all.patch hR h.ch (p:=(id,slot)) ⟨by omega,by omega⟩ g1 g2 g3 _
theorem q4O(hR:yL R){s:qd}(hb:qT s)(h:QR R s)(id slot:Int):qT (zo s id slot).1/\QR R (zo s id slot).1:=by
 obtain⟨h1,h2⟩:=q3V hb h.ch id slot
 refine⟨h1,h2,?_⟩
 unfold zo
 split
 ·exact h.all
 ·rename_i h0
  obtain⟨g1,g2,g3⟩:=QJ h0
  exact h.all.patch hR h.ch (p:=(id,slot)) YS g1 g2 g3 _
theorem Jl{s:qd}{t:TR}(h:yn s t=0):(∃ l,zd t.code=some l/\∀ e∈l,e.chain=0)/\zY t.sp=true/\(zO s t.at_).1=0/\(t.code.length:Int)<=s.len/\s.given≠2147483647:=by
 unfold yn at h
 cases hx:zd t.code with
 | none=>rw[hx]at h;cases h
 | some l=>
  rw[hx]at h
  dsimp only at h
  by_cases h1:zY t.sp=false\/(l.any fun e=>e.chain != 0)=true
  ·rw[if_pos h1]at h;cases h
  ·rw[if_neg h1]at h
   by_cases h2:(zO s t.at_).1≠0
   ·rw[if_pos h2]at h;cases h
   ·rw[if_neg h2]at h
    by_cases h3:(t.code.length:Int) > s.len\/s.given=2147483647
    ·rw[if_pos h3]at h;cases h
    ·have ha:zY t.sp=true:=by
      cases hs:zY t.sp with
      | true=>rfl
      | false=>exact absurd (.inl hs) h1
     refine⟨⟨l,rfl,fun e he=>Classical.byContradiction fun hne=>h1 (.inr (List.any_eq_true.2 ⟨e,he,by simpa using hne⟩))⟩,ha,Classical.not_not.1 h2,?_,fun hh=>h3 (.inr hh)⟩
     have:=fun hh=>h3 (.inl hh)
     omega
structure q0u (R:Int->TR->Prop) (s:qd) (t:TR) (gone:List Int) (s1:qd):Prop where
 base1:qT s1
 q1:QR R s1
 left:vh s s1 gone
 full:jh s1 t.code.length=false
 cnt:s1.items.length+gone.length=s.items.length
 ev:s1.ev=s.ev+gone.length
 giv:s1.given=s.given
 base:qT (zL s1 t)
 ch:qP (zL s1 t)
 keys:keys (zL s1 t).items=keys s1.items++[s1.given+1]
 old:∀ x∈Ch.keys s1.items,qj (zL s1 t).items x=qj s1.items x
 new:qj (zL s1 t).items (s1.given+1)=t
 fresh:s1.given+1 ∉ Ch.keys s1.items
theorem qwg(hR:yL R){s s1:qd}{t:TR}{gone:List Int}(hb:qT s)(hq:QR R s)(ha:jq t.at_)(h0:yn s t=0)(hE:yd t.code.length s gone s1):q0u R s t gone s1:=by
 obtain⟨⟨l,hl,hl0⟩,hsp,hlk,hlen,hgv⟩:=Jl h0
 obtain⟨b1,q1,L,hf,hc,hev⟩:=hE.keep (YV hR) hb hq
 have hcf:=hE.conf
 have hgiv:=hb.given
 have hfr:∀ x∈keys s1.items,(qj s1.items x).at_≠t.at_:=fun x hx he=>by
  obtain⟨hx1,hx2⟩:=L.mem.1 hx
  rw[L.at_ x hx2]at he
  exact(hb.look_iff t.at_).2 ⟨x,hx1,he⟩ hlk
 obtain⟨c1,c2,c3,c4,c5⟩:=b1.add hf ha hfr (by rw[hcf.2.2.1];omega)
 exact⟨b1,q1,L,hf,hc,hev,hcf.2.2.1,c1,q1.ch.add hl hl0 c2 c3 c4 c5,c2,c3,c4,c5⟩
theorem q0u.all{s s1:qd}{t:TR}{gone:List Int}(h:q0u R s t gone s1)(ht:R (s1.given+1) t):QR R (zL s1 t):=by
 refine⟨h.ch,fun x hx=>?_⟩
 rw[h.keys]at hx
 rcases List.mem_append.1 hx with hx | hx
 ·rw[h.old x hx];exact h.q1.all x hx
 ·rw[List.mem_singleton.1 hx,h.new];exact ht
theorem qpl(hR:yL R){s s':qd}{l:List Int}(hb:qT s)(hq:QR R s)(hF:zm s l s')(hn:l.Nodup)(hs:∀ x∈l,x∈keys s.items) :
  qT { s' with dr:=s'.dr+l.length }/\QR R { s' with dr:=s'.dr+l.length }/\vh s s' l/\s'.items.length+l.length=s.items.length/\s'.given=s.given/\s'.dr=s.dr/\s'.ev=s.ev:=by
 obtain⟨a,b,c⟩:=hF.keep (YV hR) hb hq hn hs
 have hl:=c.len hb.nd hn hs
 have hcf:=hF.conf
 refine⟨a.setDr ?_ ?_,b.setDr _,c,hl,hcf.2.2.2.1,hcf.2.2.2.2.2.1,hcf.2.2.2.2.1⟩
 ·have:=a.dr;omega
 ·have h1:=hb.sum
  rw[hcf.2.2.2.1,hcf.2.2.2.2.1,hcf.2.2.2.2.2.1];omega
theorem yL.len(m:Nat):yL fun _ t=>t.code.length<=m:=fun x t l e c h hw hl he=>by
 have hs:=vP hl he
 show(zH t.code e.slot.toNat c).length<=m
 rw[Jo c om]
 exact h
end Go.Fx.Ch
namespace Go.Fx.Tryz
set_option maxRecDepth 100000
open Go Go.Fx Go.Proofs
def Jn:=ql Tryz.f24
def qLe:=Tryz.f24.results.toList
abbrev jU K:=qr P qLe K
def f24 a b c d w K:=CS P Jn none [4] [4] (jU K) (qz 23 [(VS a b c),(VI d)]) w
def qvI a b c d w K:=SC Jn 1 [4] [4] (jU K) 23 [(0,VS a b c),(1,VI d)] w
abbrev qHN K:=kq Jn 1 [4] [4] (jU K)
def qvE a b c d w K:=SC Jn 3 [4] [4] (jU K) 23 [(4,VB false),(0,VS a b c),(1,VI d)] w
abbrev quV K:=kq Jn 3 [4] [4] (jU K)
abbrev qGi K:=kq Jn 6 [0,4] [4] (quV K)
def qrk a b c d w K:=SG Jn 7 [4] [4] (jU K) 23 [(0,VS a b c),(4,VB d)] w
abbrev q1Q K:=kq Jn 7 [4] [4] (jU K)
abbrev qGG K:=kq Jn 14 [] [4] (q1Q K)
def quM a b c d e w K:=SC Jn 29 [] [4] (q1Q K) 23 [(5,VI a),(0,VS b c d),(4,VB e)] w
abbrev qdV K:=qp 0 (q1Q K)
def qzs K Y4 e w:=zv (fun e w=>CS P (cA Jn 116) none [5,0,4] [4] (qv [5,0,4] Y4 (qdV K)) e w) e w
abbrev Vp K Y4:=qv [5,0,4] Y4 (qdV K)
def qmG a b c d f w K Y4:=SG Jn 116 [5,0,4] [4] (Vp K Y4) 23 [(5,VI a),(0,VS b c d),(4,VB f)] w
abbrev qrc K Y4:=kq Jn 116 [5,0,4] [4] (Vp K Y4)
abbrev qFR K Y4:=kq Jn 232 [0,5,4] [4] (qrc K Y4)
def qv7 a b c d f w K Y4:=SG Jn 233 [5,0,4] [4] (Vp K Y4) 23 [(0,VS a b c),(5,VI d),(4,VB f)] w
abbrev que K Y4:=kq Jn 233 [5,0,4] [4] (Vp K Y4)
abbrev qmH K Y4:=qp 1 (que K Y4)
abbrev qzi K Y4:=kq Jn 932 [0,4,5] [4,0,5] (qmH K Y4)
def qvF a b c d f w K Y4:=SG Jn 467 [5,0,4] [4] (Vp K Y4) 23 [(0,VS a b c),(4,VB d),(5,VI f)] w
theorem qqu:qvF a c d e f w K Y4=(Y4 (qi.mk 23 [(5,(Value.int .i64 (IntKind.wrap .i64 (f+1)))),(0,(Value.slice a c d)),(4,(Value.bool e))] []) w):=qD kr
theorem qq1:qv7 d e f c g w K Y4=(qh d (fun j=>0<=c/\c<(e:Nat)/\qS 3 ((j.add (Int.toNat c*9)).add 1) w (fun k=>q9 P 36 [(Value.agg k)] w (fun l h=>∃ i:Bool,l=(.bool i)/\qo (!i) (K (Value.bool false) h) (qvF d e f g c h K Y4))))):=qD (qH [0,4,5] (que K Y4) (Qp 1 [4,0,5] (qmH K Y4) (qH [22,0,5,4] (qzi K Y4) kr)))
def qtv w K:=SG Jn 15 [4] [4] (jU K) 23 [] w
abbrev qzk K:=kq Jn 15 [4] [4] (jU K)
theorem qqS:qtv w K=(K (Value.bool true) w):=qD (qH [4] (qzk K) kr)
theorem qeB:qmG c e d f g w K Y4=(qo (decide (c<((d:Nat):Int))) (qv7 e d f c g w K Y4) (qtv w K)):=qD (qH [0,5,4] (qrc K Y4) (qH [13,0,5,4] (qFR K Y4) kr))
theorem qpz:quM a c d e f w K=(qO (qzs K) (qi.mk 23 [(5,(Value.int .i64 a)),(0,(Value.slice c d e)),(4,(Value.bool f))] []) w):=Eq.trans (b:=CS P (cA Jn 29) none [] [4] (q1Q K) (qi.mk 23 [(5,(VI a)),(0,(VS c d e)),(4,(VB f))] []) w) kr (Eq.trans (Zk 0 [4] (qdV K) kr) ((zb (b:=(cA Jn 116)) (X':=[4]) (H:=[5,0,4]) kr kr kr).trans kr))
theorem qpN:qrk c d e f w K=(quM 0 c d e f w K):=qD (qH [] (q1Q K) (qH [5,0,4] (qGG K) kr))
theorem qoo:qvE d c e f w K=(qo (decide ((((c:Nat):Int):Int) > f)) (K (Value.bool false) w) (qrk d c e false w K)):=Eq.trans (b:=CS P (cA Jn 3) none [4] [4] (jU K) (qi.mk 23 [(4,(VB false)),(0,(VS d c e)),(1,(VI f))] []) w) kr (Eq.trans (zh [0,4] (quV K) kr) (Eq.trans (zh [9,0,4] (qGi K) kr) kr))
theorem qoi:qvI c d e f w K=(qvE c d e f w K):=Eq.trans (b:=CS P (cA Jn 1) none [4] [4] (jU K) (qi.mk 23 [(0,(VS c d e)),(1,(VI f))] []) w) kr (Eq.trans (zh [0,4,1] (qHN K) kr) kr)
theorem qEN:f24 a b c d w K=(qvI a b c d w K):=kr
theorem qH6 a b c d w K(h:f24 a b c d w K):q9 P 24 [(Value.slice a b c),(Value.int .i64 d)] w K:=qA Jn Tryz.func24 h
def c26:=ql Tryz.f26
def qLQ:=Tryz.f26.results.toList
abbrev qrh K:=qr P qLQ K
def f26 a w K:=CS P c26 none [2] [2] (qrh K) (qz 21 [(Value.agg a)]) w
def q5q a w K:=SG c26 15 [2] [2] (qrh K) 21 [(2,VB a)] w
theorem qqo:q5q a w K=(K (Value.bool a) w):=kr
theorem qEt:f26 b w K=(qu b 27 w (fun c d=>qS 3 (Addr.mk c 0 none) d (fun h=>q9 P 16 [(Value.agg h)] d (fun i a=>∃ e:Option Addr,∃ f:Int,i=(.tuple #[(Value.pointer e),(Value.int .i64 f)])/\qo (f==1) (qo e.isNone (qS 3 (Addr.mk c 0 none) a (fun j=>q9 P 69 [(Value.agg j)] a (fun k l=>∃ g:Bool,k=(.bool g)/\q5q (!g) l K))) (q5q false a K)) (q5q false a K))))):=kr
theorem qEh a w K(h:f26 a w K):q9 P 26 [(Value.agg a)] w K:=qA c26 Tryz.func26 h
def c32:=ql Tryz.f32
def qL6:=Tryz.f32.results.toList
abbrev Qq K:=qr P qL6 K
def f32 a b w K:=CS P c32 none [] [] (Qq K) (qz 39 [(VP a),(Value.agg b)]) w
def qvH a b w K:=SC c32 1 [] [] (Qq K) 39 [(0,VP a),(1,Value.agg b)] w
abbrev qE4 K:=kq c32 1 [] [] (Qq K)
def qrN a b c w K:=SC c32 3 [] [] (Qq K) 39 [(3,VQ a),(0,VP b),(1,Value.agg c)] w
abbrev qGB K:=kq c32 3 [] [] (Qq K)
def quH a b c d e f w K:=SC c32 7 [] [] (Qq K) 39 [(6,Value.int .u8 a),(5,Value.int .u8 b),(4,VQ c),(3,VQ d),(0,VP e),(1,Value.agg f)] w
abbrev qso K:=qp 0 (Qq K)
abbrev qEq K:=kq c32 14 [] [] (qso K)
theorem qpe:quH d f g c e h w K=(qo (d==0) (qS 3 (c.add 1) w (fun m=>q9 P 18 [(Value.pointer e),(Value.agg m)] w (fun n o=>∃ p:Int,∃ (q:OA) (r s:Nat),∃ t:Int,n=(.tuple #[(Value.int .u32 p),(Value.slice q r s),(Value.int .i64 t)])/\K (Value.tuple #[]) o))) (qo (d==4) (∃ i:Int,w.cell? (c.add 5)=some (.int .u32 i)/\∃ j:Int,w.cell? (c.add 6)=some (.int .i64 j)/\q9 P 41 [(Value.pointer e),(Value.int .u32 i),(Value.int .i64 j)] w (fun u v=>∃ x:Bool,∃ y:Int,u=(.tuple #[(Value.bool x),(Value.int .i64 y)])/\K (Value.tuple #[]) v)) (qo (d==5) (∃ k:Int,w.cell? (c.add 5)=some (.int .u32 k)/\∃ l:Int,w.cell? (c.add 6)=some (.int .i64 l)/\q9 P 42 [(Value.pointer e),(Value.int .u32 k),(Value.int .i64 l)] w (fun z a0=>∃ b0:Int,z=(.int .i64 b0)/\K (Value.tuple #[]) a0)) (qo (d==6) (qS 2 (c.add 7) w (fun c0=>q9 P 20 [(Value.pointer e),(Value.agg c0)] w (fun d0 e0=>∃ (f0:OA) (g0 h0:Nat),d0=(.slice f0 g0 h0)/\K (Value.tuple #[]) e0))) (qo (d==7) (q9 P 31 [(Value.pointer e)] w (fun i0 j0=>i0=(.tuple #[])/\K (Value.tuple #[]) j0)) (K (Value.tuple #[]) w)))))):=Eq.trans (b:=CS P (cA c32 7) none [] [] (Qq K) (qi.mk 39 [(6,(Value.int .u8 d)),(5,(Value.int .u8 f)),(4,(VP (some g))),(3,(VP (some c))),(0,(VP e)),(1,(Value.agg h))] []) w) kr (Eq.trans (Zk 0 [] (qso K) kr) (Eq.trans (zh [7,3,0,6] (qEq K) kr) kr))
theorem qqG:qrN c d e w K=(∃ f:Int,w.cell? c=some (.int .u8 f)/\(10:Int)≠0/\quH (f.tmod 10) f c c d e w K):=Eq.trans (b:=CS P (cA c32 3) none [] [] (Qq K) (qi.mk 39 [(3,(VP (some c))),(0,(VP d)),(1,(Value.agg e))] []) w) kr (Eq.trans (zh [3,0,6] (qGB K) kr) kr)
theorem qqb:qvH d c w K=(qu c 67 w (fun e f=>qrN (Addr.mk e 0 none) d c f K)):=Eq.trans (b:=CS P (cA c32 1) none [] [] (Qq K) (qi.mk 39 [(0,(VP d)),(1,(Value.agg c))] []) w) kr (Eq.trans (zh [3,0] (qE4 K) kr) kr)
theorem qI0:f32 a b w K=(qvH a b w K):=kr
theorem qIa a b w K(h:f32 a b w K):q9 P 32 [(Value.pointer a),(Value.agg b)] w K:=qA c32 Tryz.func32 h
end Go.Fx.Tryz
namespace Go.Fx.Tryz
open Go Go.Fx Go.Fx.Ch
open Go.Proofs
set_option linter.all false
set_option maxRecDepth 20000
structure yE where
 kd:Int
 tat:Int
 sa:Option Addr
 sl:Nat
 sc:Nat
 ca:Option Addr
 cl:Nat
 cc:Nat
 at_:Int
 id:Int
 slot:Int
 s1:Int
 s2:Int
 sp:List (Int × Int)
 code:List Int
def yE.cs(a:yE):List Value:=[.int .u8 a.kd,U a.tat,.slice a.sa a.sl a.sc,.slice a.ca a.cl a.cc,U a.at_,U a.id,J a.slot,U a.s1,J a.s2]
def yE.tr(a:yE):TR:=⟨a.tat,a.sp,a.code⟩
def vT(a:yE):Bool:=decide (a.cl<=5000)&&decide (a.sl<=200)
def q3U(l:List yE)(m:Nat):Bool:=decide (l.length<=m)&&l.all vT
structure qjr (w0:World) (H:qE) (a:yE):Prop where
 kd:0<=a.kd/\a.kd<256
 tat:jq a.tat
 at_:jq a.at_
 tr:vT a=true->a.sp.length=a.sl/\a.code.length=a.cl/\jP w0 H (.slice a.sa a.sl a.sc) a.sp/\yj w0 H (.slice a.ca a.cl a.cc) a.code
structure q3n (w0:World) (H:qE) (ov:Value) (l:List yE):Prop where
 row:∀ w',St w0 w' H->vo w' 9 ov l.length (l.map yE.cs).flatten
 each:∀ a∈l,qjr w0 H a
 len:l.length<9223372036854775808
inductive q3L (s:qd) (a:yE):qd->Prop
 | put {gone:List Int} {s1:qd}:a.kd % 10=0->yn s a.tr=0->yd a.tr.code.length s gone s1->q3L s a (zL s1 a.tr)
 | putNo:a.kd % 10=0->yn s a.tr≠0->q3L s a s
 | chain:a.kd % 10=4->q3L s a (zG s a.id a.slot).1
 | unchain:a.kd % 10=5->q3L s a (zo s a.id a.slot).1
 | drop {s':qd}:a.kd % 10=6->zm s (jY s (a.s1,a.s2)) s'->q3L s a { s' with dr:=s'.dr+(jY s (a.s1,a.s2)).length }
 | flush {s':qd}:a.kd % 10=7->zm s (vq s) s'->q3L s a { s' with dr:=s'.dr+(vq s).length }
 | other:a.kd % 10≠0->a.kd % 10≠4->a.kd % 10≠5->a.kd % 10≠6->a.kd % 10≠7->q3L s a s
variable {w0 w:World} {H X:qE} {K:KT} {s:qd} {L:qQ} {q:LB} {R:Int->TR->Prop}
theorem vo.elem{α:Type}{f:α->List Value}{m:Nat}(hf:∀ x,(f x).length=m){l:List α}{a:Addr}{n c:Nat}(hn:l.length=n)(h:vo w m (.slice (some a) n c) n (l.map f).flatten){i:Nat}(hi:i<l.length){j:Nat}(hj:j<m):w.cell? ((a.add (i*m)).add j)=(f l[i])[j]?:=by
 subst hn
 rcases h.2 with⟨h1,_⟩ | ⟨a',c',h1,h2⟩
 ·cases h1
 ·cases h1
  have hle:i*m+m<=l.length*m:=by rw[<-Nat.succ_mul];exact Nat.mul_le_mul_right _ hi
  rw[vv,h2 _ om]
  have:=congrArg (fun x=>x[j]?) (yY f m hf l hi)
  simp only[List.getElem?_take,hj,if_true,List.getElem?_drop]at this
  exact this
theorem vo.whole{α:Type}{f:α->List Value}{m:Nat}(hf:∀ x,(f x).length=m){l:List α}{a:Addr}{n c:Nat}(hn:l.length=n)(h:vo w m (.slice (some a) n c) n (l.map f).flatten){i:Nat}(hi:i<l.length){Q:Array Value->Prop}(hQ:Q (f l[i]).toArray):qS m (a.add (i*m)) w Q:=by
 refine⟨_,by rw[List.size_toArray];exact hf _,fun j hj=>?_,hQ⟩
 rw[vo.elem hf hn h hi hj]
 simp
theorem vo.part{α:Type}{f:α->List Value}{m:Nat}(hf:∀ x,(f x).length=m){l:List α}{a:Addr}{n c:Nat}(hn:l.length=n)(h:vo w m (.slice (some a) n c) n (l.map f).flatten){i:Nat}(hi:i<l.length){off k:Nat}(hk:off+k<=m){Q:Array Value->Prop}(hQ:Q (((f l[i]).drop off).take k).toArray):qS k ((a.add (i*m)).add off) w Q:=by
 refine⟨_,?_,fun j hj=>?_,hQ⟩
 ·rw[List.size_toArray,List.length_take,List.length_drop,hf];omega
 ·rw[vv,vo.elem hf hn h hi om]
  simp[hj]
theorem q3n.ptr{aa:Option Addr}{ac:Nat}{l:List yE}(h:q3n w0 H (.slice aa l.length ac) l){i:Nat}(hi:i<l.length)(hw:St w0 w H):∃ ad,aa=some ad:=by
 rcases(h.row w hw).2 with⟨_,h2⟩ | ⟨a,c,h1,_⟩
 ·omega
 ·injection h1 with h1 _ _;exact⟨a,h1⟩
theorem qGN{aa:Option Addr}{ac m:Nat}{l:List yE}(h:St w0 w (X++H))(hX:qF w0 X)(hl:q3n w0 H (.slice aa l.length ac) l)(hK:∀ w',St w0 w' (X++H)->K (.bool (q3U l m)) w'):q9 P 24 [.slice aa l.length ac,J m] w K:=by
 refine qH6 _ _ _ _ _ _ ?_
 rw[qEN,qoi,qoo,qg]
 refine⟨fun hb=>?_,fun hb=>?_⟩
 ·have hb:=of_decide_eq_true hb
  have e:q3U l m=false:=by unfold q3U;rw[decide_eq_false om,Bool.false_and]
  rw[e]at hK;exact hK w h
 have hb:=of_decide_eq_false hb
 have hm:decide (l.length<=m)=true:=decide_eq_true om
 have hlen:=hl.len
 rw[qpN,qpz]
 refine⟨fun n e' w'=>∃ i:Nat,i<=l.length/\n=l.length-i/\e'=qi.mk 23 [(5,J i),(0,.slice aa l.length ac),(4,.bool false)] []/\(l.take i).all vT=true/\St w0 w' (X++H),⟨_,0,by omega,rfl,rfl,rfl,h⟩,?_⟩
 rintro n e' w1 ⟨i,hi,rfl,rfl,hall,hs⟩
 show qmG ..
 rw[qeB,qg]
 refine⟨fun hlt=>?_,fun hge=>?_⟩
 ·have hlt:=of_decide_eq_true hlt
  have hi:i<l.length:=by omega
  have hs0:=hs.sub hX
  obtain⟨ad,rfl⟩:=hl.ptr hi hs0
  rw[qq1]
  refine⟨by omega,by omega,?_⟩
  rw[Int.toNat_natCast]
  refine vo.part (f:=yE.cs) (m:=9) (fun _=>rfl) rfl (hl.row w1 hs0) hi om ?_
  refine qC2 (a:=U l[i].tat) (sa:=l[i].sa) (sl:=l[i].sl) (sc:=l[i].sc) (ca:=l[i].ca) (cl:=l[i].cl) (cc:=l[i].cc) hs fun w2 h2=>⟨_,rfl,?_⟩
  have htake:(l.take (i+1)).all vT=vT l[i]:=by
   rw[List.take_succ_eq_append_getElem hi,List.all_append,hall,Bool.true_and];simp
  rw[qg]
  refine⟨fun hn=>?_,fun hn=>?_⟩
  ·have hn:vT l[i]=false:=by rw[Bool.not_eq_true']at hn;exact hn
   have e:q3U l m=false:=by
    unfold q3U
    rw[List.all_eq_false.2 ⟨l[i],List.getElem_mem hi,by rw[hn];decide⟩,Bool.and_false]
   rw[e]at hK;exact hK w2 h2
  ·have hn:vT l[i]=true:=by rw[Bool.not_eq_false']at hn;exact hn
   rw[qqu]
   refine⟨_,?_,i+1,by omega,rfl,?_,by rw[htake];exact hn,h2⟩
   ·omega
   ·rw[qc om om];rfl
 ·have hge:=of_decide_eq_false hge
  have hin:i=l.length:=by omega
  subst hin
  rw[List.take_length]at hall
  rw[qqS]
  have e:q3U l m=true:=by unfold q3U;rw[hm,hall];rfl
  rw[e]at hK;exact hK w1 hs
theorem jP.more{ov:Value}{l:List SP}(h:jP w0 H ov l)(hX:qF w0 X):jP w0 (X++H) ov l:=⟨fun w' h'=>h.row w' (h'.sub hX),h.len⟩
theorem yj.more{ov:Value}{l:List Int}(h:yj w0 H ov l)(hX:qF w0 X):yj w0 (X++H) ov l:=⟨fun w' h'=>h.row w' (h'.sub hX),h.byte,h.len,h.cap⟩
theorem qhi{l:List yE}{m:Nat}(h:q3U l m=true):l.length<=m/\∀ a∈l,vT a=true:=by
 unfold q3U at h
 rw[Bool.and_eq_true]at h
 exact⟨of_decide_eq_true h.1,fun a ha=>List.all_eq_true.1 h.2 a ha⟩
theorem qH4{a:yE}(ha:qjr w0 H a)(hlt:vT a=true)(hR:yL R)(hb:qT s)(hq:QR R s)(hL:L.Ok w0 q s)(hg:zD H)(hX:qF w0 X)(h:St w0 w (L.bl q s++(X++H)))
  (hK:∀ (w':World) (s':qd) (L':qQ) (X':qE),q3L s a s'->L'.Ok w0 q s'->qF w0 X'->St w0 w' (L'.bl q s'++(X'++H))->K (.tuple [].toArray) w'):q9 P 32 [.pointer (some ⟨q.cb,0,none⟩),.agg a.cs.toArray] w K:=by
 refine qIa _ _ _ _ ?_
 rw[qI0,qqb]
 refine h.newC fun n4 w5 hn4 h5=>?_
 have h5:St w0 w5 ((n4,Cs a.cs 67)::(L.bl q s++(X++H))):=h5
 have h6:St w0 w5 (L.bl q s++(((n4,Cs a.cs 67)::X)++H)):=h5.perm (qm fun c=>by simp only[List.map_append,List.map_cons,List.sum_append,List.sum_cons];omega)
 have hX2:qF w0 ((n4,Cs a.cs 67)::X):=fun v hv=>by
  rcases List.mem_cons.1 hv with rfl | hv
  ·exact hn4
  ·exact hX v hv
 have hg2:zD (((n4,Cs a.cs 67)::X)++H):=hg.mono fun u hu=>List.mem_append_right _ hu
 have hkd:=ha.kd
 have e10:a.kd.tmod 10=a.kd % 10:=Int.tmod_eq_emod_of_nonneg hkd.1
 rw[qqG]
 refine⟨a.kd,h5.cell (k:=0) rfl,by decide,?_⟩
 rw[qpe,e10]
 obtain⟨hsl,hcl,hS,hB⟩:=ha.tr hlt
 have hsum:=hb.sum
 have hev:=hb.ev
 have hdr:=hb.dr
 have hgv:=hb.given
 have hfew:=hb.few
 have hput:∀ {w':World} {s':qd} {L':qQ} {X':qE},q3L s a s'->L'.Ok w0 q s'->qF w0 X'->St w0 w' (X'++(L'.bl q s'++(((n4,Cs a.cs 67)::X)++H)))->K (.tuple [].toArray) w':=fun {w' s' L' X'} h1 h2 h3 h4=>
  hK w' s' L' (X'++((n4,Cs a.cs 67)::X)) h1 h2 (qF.append h3 hX2) (h4.perm (qm fun c=>by simp only[List.map_append,List.map_cons,List.sum_append,List.sum_cons];omega))
 rw[qg]
 refine⟨fun h0=>?_,fun h0=>?_⟩
 ·have h0:a.kd % 10=0:=by simpa using h0
  refine⟨#[U a.tat,.slice a.sa a.sl a.sc,.slice a.ca a.cl a.cc],rfl,fun i hi=>?_,?_⟩
  ·rw[qa,qa,h5.cell (k:=0) rfl]
   have:i=0\/i=1\/i=2:=by omega
   rcases this with rfl | rfl | rfl<;>rfl
  refine q7A (t:=a.tr) (sv:=.slice a.sa a.sl a.sc) (cv:=.slice a.ca a.cl a.cc) h6 hL hg2 (hS.more hX2) (hB.more hX2) ha.tat om hgv (fun he=>?_) (fun he w' hs'=>?_) (fun he w' L' gone s1 ov N hE hok hSl hN hs'=>?_)
  ·obtain⟨_,_,_,hlen,_⟩:=Jl he
   exact⟨_,hb.evR (YV hR) hq hlen⟩
  ·exact⟨_,_,_,_,_,rfl,hK w' s L ((n4,Cs a.cs 67)::X) (.putNo h0 he) hL hX2 hs'⟩
  ·obtain⟨oa,oc,e⟩:=hSl.form
   subst e
   exact⟨_,_,_,_,_,rfl,hput (.put h0 he hE) hok hN hs'⟩
 ·have h0:a.kd % 10≠0:=by simpa using h0
  rw[qg]
  refine⟨fun h1=>?_,fun h1=>?_⟩
  ·have h1:a.kd % 10=4:=by simpa using h1
   refine⟨a.id,by rw[qa,h5.cell (k:=0) rfl];rfl,a.slot,by rw[qa,h5.cell (k:=0) rfl];rfl,?_⟩
   exact Vc (id:=a.id) (slot:=a.slot) h6 hL hg2 hb.fit.table fun w' L' hok hs'=>⟨_,_,rfl,hK w' _ L' _ (.chain h1) hok hX2 hs'⟩
  ·have h1:a.kd % 10≠4:=by simpa using h1
   rw[qg]
   refine⟨fun h2=>?_,fun h2=>?_⟩
   ·have h2:a.kd % 10=5:=by simpa using h2
    refine⟨a.id,by rw[qa,h5.cell (k:=0) rfl];rfl,a.slot,by rw[qa,h5.cell (k:=0) rfl];rfl,?_⟩
    exact qil (id:=a.id) (slot:=a.slot) h6 hL hg2 fun w' L' hok hs'=>⟨_,rfl,hK w' _ L' _ (.unchain h2) hok hX2 hs'⟩
   ·have h2:a.kd % 10≠5:=by simpa using h2
    rw[qg]
    refine⟨fun h3=>?_,fun h3=>?_⟩
    ·have h3:a.kd % 10=6:=by simpa using h3
     refine⟨#[U a.s1,J a.s2],rfl,fun i hi=>?_,?_⟩
     ·rw[qa,qa,h5.cell (k:=0) rfl]
      have:i=0\/i=1:=by omega
      rcases this with rfl | rfl<;>rfl
     refine qmS (r:=(a.s1,a.s2)) h6 hL hg2 om hdr om fun w' L' s' ov N hF hok hSl hN hs'=>?_
     obtain⟨oa,oc,e⟩:=hSl.form
     subst e
     exact⟨_,_,_,rfl,hput (.drop h3 hF) hok hN hs'⟩
    ·have h3:a.kd % 10≠6:=by simpa using h3
     rw[qg]
     refine⟨fun h4=>?_,fun h4=>?_⟩
     ·have h4:a.kd % 10=7:=by simpa using h4
      exact qvm h6 hL hg2 om hdr om fun w' L' s' hF hok hs'=>⟨rfl,hK w' _ L' _ (.flush h4 hF) hok hX2 hs'⟩
     ·have h4:a.kd % 10≠7:=by simpa using h4
      exact hK w5 s L _ (.other h0 h1 h2 h3 h4) hL hX2 h6
end Go.Fx.Tryz
namespace Go.Fx.Tryz
open Go Go.Fx Go.Fx.Ch
open Go.Proofs
open Go.ChangeShapes Go.WideShapes Go.ChangeAt Go.RowKit
set_option linter.all false
set_option maxRecDepth 100000
variable {H:Type} {enc:TypeId × Value->H} {W:World}
theorem Jd{α:Type} [Inhabited α] {f:α->List Value} {Q:α->Prop} {t e:TypeId} {m:Nat} {base:Nat} {spare:Nat->Bool} {held:Bool} (ht:P.underlying t=some (.slice e)) (hc:P.cellsOf e=m) (hm:∀ a,(f a).length=m) (hpos:0<m)
  (hel:∀ {fuel:Nat} {cs:List Value} {x:DataW H × List MemPlace},DataW.trod enc P W base spare held fuel e cs=some x->∃ a,cs=f a/\Q a) {v:Value} {fuel:Nat} {x:DataW H × List MemPlace} (h:DataW.trod enc P W base spare held fuel t [v]=some x) :
  ∃ l:List α,vo W m v l.length (l.map f).flatten/\(∀ a∈l,Q a)/\l.length<=maxLen/\∃ a n c,v=.slice a n c/\n<=c:=by
 rcases Deep.open_slice ht h with⟨hcs,_⟩ | ⟨a,len,cap,mm,n,D,Pl,hcs,_,hle,hcm,hmm,_,hall⟩
 ·have hv:v=.slice none 0 0:=by simpa using hcs
  exact⟨[],⟨by simp,.inl ⟨hv,rfl⟩⟩,by simp,Nat.zero_le _,none,0,0,hv,Nat.le_refl _⟩
 ·have hv:v=.slice (some a) len cap:=by simpa using hcs
  have hlm:len<=mm:=by rw[hmm];split<;>omega
  obtain⟨E,hE⟩:=Deep.choose_lt (α:=α) (n:=len) (p:=fun i e=>Q e/\∀ j,j<m->W.cell? (a.add (i*m+j))=(f e)[j]?) (fun i hi=>by
   obtain⟨cs',h1,h2⟩:=hall i om
   obtain⟨e,rfl,he⟩:=hel h2
   rw[hc]at h1
   obtain⟨_,_,h3⟩:=World.cells?_some h1
   exact⟨e,he,fun j hj=>by rw[<-h3 j hj,vv]⟩)
  have hlen:((List.range len).map E).length=len:=by simp
  refine⟨(List.range len).map E,⟨?_,.inr ⟨a,cap,by rw[hlen];exact hv,fun i hi=>?_⟩⟩,fun y hy=>?_,by rw[hlen];omega,some a,len,cap,hv,hle⟩
  ·generalize (List.range len).map E=l
   induction l with
   | nil=>simp
   | cons y l ih=>
    simp only[List.map_cons,List.flatten_cons,List.length_append,List.length_cons,ih,hm,Nat.add_mul]
    omega
  ·rw[hlen]at hi
   have hq:i / m<len:=Nat.div_lt_of_lt_mul (by rw[Nat.mul_comm];exact hi)
   have hr:i % m<m:=Nat.mod_lt _ hpos
   have h1:=(hE (i / m) hq).2 (i % m) hr
   have e1:i / m*m+i % m=i:=Nat.div_add_mod' i m
   rw[e1]at h1
   have h2:=congrArg (fun l=>l[i % m]?) (yY f m hm ((List.range len).map E) (i:=i / m) (by rw[hlen];exact hq))
   simp only[List.getElem?_take,hr,if_true,List.getElem?_drop,e1]at h2
   rw[h1,h2]
   simp
  ·obtain⟨i,hi,rfl⟩:=List.mem_map.1 hy
   exact(hE i (List.mem_range.1 hi)).1
theorem q5n:P.cellsOf 36=2:=kr
theorem qlg:P.cellsOf 5=1:=kr
theorem qlx:P.cellsOf 67=9:=kr
theorem qzF:P.cellsOf 41=3:=kr
theorem q7w:P.cellsOf 3=1:=kr
theorem qA4:P.cellsOf 37=1:=kr
theorem qBF:P.cellsOf 38=1:=kr
theorem qCa:P.cellsOf 27=3:=kr
section
variable {base:Nat} {spare:Nat->Bool} {held:Bool} {fuel:Nat} {x:DataW H × List MemPlace}
theorem q4i{cs:List Value}(h:DataW.trod enc P W base spare held fuel 36 cs=some x):∃ r:SP,cs=QK r/\jq r.1:=by
 obtain⟨xs,n,_,_,hl,hlen,hf⟩:=DataW.trod_struct Tryz.underlying36 h
 rw[q5n]at hl
 match cs,hl with
 | [c0,c1],_=>
 have hx:∀ i,i<2->∃ y,xs[i]?=some y:=fun i hi=>⟨xs[i]'(by rw[hlen];exact hi),List.getElem?_eq_getElem _⟩
 obtain⟨y0,e0⟩:=hx 0 om
 obtain⟨y1,e1⟩:=hx 1 om
 obtain⟨k0,g0,_,w0⟩:=DataW.trod_int Tryz.underlying24 ((hf 0 _ rfl).trans e0)
 obtain⟨k1,g1,_⟩:=DataW.trod_int Tryz.underlying3 ((hf 1 _ rfl).trans e1)
 simp[q0K,q7w]at g0 g1
 subst g0 g1
 exact⟨(k0,k1),rfl,q6o w0⟩
theorem qqr{cs:List Value}(h:DataW.trod enc P W base spare held fuel 5 cs=some x):∃ b:Int,cs=[B b]/\(0<=b/\b<256):=by
 obtain⟨k,g,_,w⟩:=DataW.trod_int Tryz.underlying5 h
 exact⟨k,g,qDH w⟩
theorem qw5(l:List Int):(l.map fun b=>[B b]).flatten=l.map B:=by
 induction l with
 | nil=>rfl
 | cons b l ih=>simp only[List.map_cons,List.flatten_cons,ih];rfl
structure qIC (W:World) (sv cv:Value) (sp:List SP) (code:List Int):Prop where
 rsp:vo W 2 sv sp.length (sp.map QK).flatten
 rcode:vo W 1 cv code.length (code.map B)
 byte:∀ b∈code,0<=b/\b<256
 cap:∀ a n c,cv=.slice a n c->n<=c
theorem qCy{a1 a2 a3:Value}(h:DataW.trod enc P W base spare held fuel 41 [a1,a2,a3]=some x):∃ (at_:Int) (sa ca:Option Addr) (sc cc:Nat) (sp:List SP) (code:List Int),a1=U at_/\a2=.slice sa sp.length sc/\a3=.slice ca code.length cc/\jq at_/\qIC W (.slice sa sp.length sc) (.slice ca code.length cc) sp code:=by
 obtain⟨xs2,m2,_,_,_,hxs2,hf2⟩:=DataW.trod_struct Tryz.underlying41 h
 have hx2:∀ i,i<3->∃ y,xs2[i]?=some y:=fun i hi=>⟨xs2[i]'(by rw[hxs2];exact hi),List.getElem?_eq_getElem _⟩
 obtain⟨z0,q0⟩:=hx2 0 om
 obtain⟨z1,q1⟩:=hx2 1 om
 obtain⟨z2,q2⟩:=hx2 2 om
 have r0:DataW.trod enc P W base spare held m2 24 (([a1,a2,a3].drop 0).take (P.cellsOf 24))=some z0:=(hf2 0 _ rfl).trans q0
 rw[q0K]at r0
 have r1:DataW.trod enc P W base spare held m2 37 (([a1,a2,a3].drop 1).take (P.cellsOf 37))=some z1:=(hf2 1 _ rfl).trans q1
 rw[qA4]at r1
 have r2:DataW.trod enc P W base spare held m2 38 (([a1,a2,a3].drop 2).take (P.cellsOf 38))=some z2:=(hf2 2 _ rfl).trans q2
 rw[qBF]at r2
 have r0:DataW.trod enc P W base spare held m2 24 [a1]=some z0:=r0
 have r1:DataW.trod enc P W base spare held m2 37 [a2]=some z1:=r1
 have r2:DataW.trod enc P W base spare held m2 38 [a3]=some z2:=r2
 obtain⟨k1,g1,_,w1⟩:=DataW.trod_int Tryz.underlying24 r0
 simp only[List.cons.injEq,and_true]at g1
 obtain⟨sp,hsp,_,_,sa,sn,sc,e2,_⟩:=Jd (f:=QK) (Q:=fun _=>True) Tryz.underlying37 q5n q6h om (fun h=>by obtain⟨r,h1,_⟩:=q4i h;exact⟨r,h1,trivial⟩) r1
 obtain⟨code,hcode,hb,_,ca,cn,cc,e3,hcc⟩:=Jd (f:=fun b:Int=>[B b]) (Q:=fun b=>0<=b/\b<256) Tryz.underlying38 qlg (fun _=>rfl) om (fun h=>qqr h) r2
 subst e2;subst e3
 obtain⟨_,_,e⟩:=hsp.form
 injection e with _ e _
 subst e
 obtain⟨_,_,e⟩:=hcode.form
 injection e with _ e _
 subst e
 rw[qw5]at hcode
 exact⟨k1,sa,ca,sc,cc,sp,code,g1,rfl,rfl,q6o w1,hsp,hcode,hb,fun a n c e=>by injection e with _ e1 e2;subst e1;subst e2;exact hcc⟩
structure q40 (W:World) (a:yE):Prop where
 kd:0<=a.kd/\a.kd<256
 tat:jq a.tat
 at_:jq a.at_
 s1:jq a.s1
 id:jq a.id
 sl:a.sp.length=a.sl
 cl:a.code.length=a.cl
 tr:qIC W (.slice a.sa a.sl a.sc) (.slice a.ca a.cl a.cc) a.sp a.code
instance:Inhabited yE:=⟨⟨0,0,none,0,0,none,0,0,0,0,0,0,0,[],[]⟩⟩
theorem qrQ{cs:List Value}(h:DataW.trod enc P W base spare held fuel 67 cs=some x):∃ a:yE,cs=a.cs/\q40 W a:=by
 obtain⟨xs,m,_,_,hl,hxs,hf⟩:=DataW.trod_struct Tryz.underlying67 h
 rw[qlx]at hl
 match cs,hl with
 | [a0,a1,a2,a3,a4,a5,a6,a7,a8],_=>
 have hx:∀ i,i<6->∃ y,xs[i]?=some y:=fun i hi=>⟨xs[i]'(by rw[hxs];exact hi),List.getElem?_eq_getElem _⟩
 obtain⟨y0,e0⟩:=hx 0 om
 obtain⟨y1,e1⟩:=hx 1 om
 obtain⟨y2,e2⟩:=hx 2 om
 obtain⟨y3,e3⟩:=hx 3 om
 obtain⟨y4,e4⟩:=hx 4 om
 obtain⟨y5,e5⟩:=hx 5 om
 have t0:DataW.trod enc P W base spare held m 5 (([a0,a1,a2,a3,a4,a5,a6,a7,a8].drop 0).take (P.cellsOf 5))=some y0:=(hf 0 _ rfl).trans e0
 rw[qlg]at t0
 have t1:DataW.trod enc P W base spare held m 41 (([a0,a1,a2,a3,a4,a5,a6,a7,a8].drop 1).take (P.cellsOf 41))=some y1:=(hf 1 _ rfl).trans e1
 rw[qzF]at t1
 have t2:DataW.trod enc P W base spare held m 24 (([a0,a1,a2,a3,a4,a5,a6,a7,a8].drop 4).take (P.cellsOf 24))=some y2:=(hf 2 _ rfl).trans e2
 rw[q0K]at t2
 have t3:DataW.trod enc P W base spare held m 24 (([a0,a1,a2,a3,a4,a5,a6,a7,a8].drop 5).take (P.cellsOf 24))=some y3:=(hf 3 _ rfl).trans e3
 rw[q0K]at t3
 have t4:DataW.trod enc P W base spare held m 3 (([a0,a1,a2,a3,a4,a5,a6,a7,a8].drop 6).take (P.cellsOf 3))=some y4:=(hf 4 _ rfl).trans e4
 rw[q7w]at t4
 have t5:DataW.trod enc P W base spare held m 36 (([a0,a1,a2,a3,a4,a5,a6,a7,a8].drop 7).take (P.cellsOf 36))=some y5:=(hf 5 _ rfl).trans e5
 rw[q5n]at t5
 have t0:DataW.trod enc P W base spare held m 5 [a0]=some y0:=t0
 have t1:DataW.trod enc P W base spare held m 41 [a1,a2,a3]=some y1:=t1
 have t2:DataW.trod enc P W base spare held m 24 [a4]=some y2:=t2
 have t3:DataW.trod enc P W base spare held m 24 [a5]=some y3:=t3
 have t4:DataW.trod enc P W base spare held m 3 [a6]=some y4:=t4
 have t5:DataW.trod enc P W base spare held m 36 [a7,a8]=some y5:=t5
 obtain⟨k0,g0,_,w0⟩:=DataW.trod_int Tryz.underlying5 t0
 obtain⟨at_,sa,ca,sc,cc,sp,code,b1,b2,b3,b4,b5⟩:=qCy t1
 obtain⟨k4,g4,_,w4⟩:=DataW.trod_int Tryz.underlying24 t2
 obtain⟨k5,g5,_,w5⟩:=DataW.trod_int Tryz.underlying24 t3
 obtain⟨k6,g6,_⟩:=DataW.trod_int Tryz.underlying3 t4
 obtain⟨r,g7,w7⟩:=q4i t5
 simp only[List.cons.injEq,and_true,QK]at g0 g4 g5 g6 g7
 refine⟨⟨k0,at_,sa,sp.length,sc,ca,code.length,cc,k4,k5,k6,r.1,r.2,sp,code⟩,?_,⟨qDH w0,b4,q6o w4,w7,q6o w5,rfl,rfl,b5⟩⟩
 unfold yE.cs
 rw[g0,b1,b2,b3,g4,g5,g6,g7.1,g7.2]
theorem yE.cs_len(a:yE):a.cs.length=9:=rfl
end
theorem qqI{base:Nat}{spare:Nat->Bool}{held:Bool}{v:Value}{d:DataW H}{p:List MemPlace}(hv:∃ a len cap,v=.slice a len cap)(h:DataW.Trod enc P W base spare held 50 v d p)(hu:P.underlying 50=some (.slice 67)) :
  ∃ l:List yE,vo W 9 v l.length (l.map yE.cs).flatten/\(∀ a∈l,q40 W a)/\l.length<=maxLen:=by
 obtain⟨fuel,hf⟩:=h
 obtain⟨a0,len0,cap0,rfl⟩:=hv
 obtain⟨l,h1,h2,h3,_⟩:=Jd (f:=yE.cs) (Q:=q40 W) hu qlx yE.cs_len om (fun h=>qrQ h) hf
 exact⟨l,h1,h2,h3⟩
theorem q40.ok{X:qE}(hun:∀ w',St W w' X->St W w' []){a:yE}(h:q40 W a):qjr W X a:=by
 refine⟨h.kd,h.tat,h.at_,fun hl=>⟨h.sl,h.cl,⟨fun w' h'=>?_,?_⟩,⟨fun w' h'=>?_,h.tr.byte,?_,fun a n c e=>by have:=h.tr.cap a n c e;exact this⟩⟩⟩
 ·exact vo.old h.tr.rsp (qF.nil W) (hun w' h')
 ·unfold vT at hl
  rw[Bool.and_eq_true]at hl
  have:=of_decide_eq_true hl.2
  rw[h.sl];omega
 ·exact vo.old h.tr.rcode (qF.nil W) (hun w' h')
 ·unfold vT at hl
  rw[Bool.and_eq_true]at hl
  have:=of_decide_eq_true hl.1
  rw[h.cl];omega
theorem qz3{X:qE}(hun:∀ w',St W w' X->St W w' []){v:Value}{l:List yE}(hr:vo W 9 v l.length (l.map yE.cs).flatten)(ha:∀ a∈l,q40 W a)(hl:l.length<=maxLen):q3n W X v l:=
 ⟨fun w' h'=>vo.old hr (qF.nil W) (hun w' h'),fun a h=>(ha a h).ok hun,(by have h2:maxLen=9223372036854775807:=(by decide);omega)⟩
theorem qpr{base:Nat}{spare:Nat->Bool}{held:Bool}{v:Value}{d:DataW H}{p:List MemPlace}{r:Reach}{b0:Nat}(hval:Value.okWide P W r b0 27 v)(h:DataW.Trod enc P W base spare held 27 v d p):∃ sec len slots:Int,v=.agg #[J sec,J len,J slots]:=by
 obtain⟨cs0,rfl,hsz⟩:=okWide_struct Tryz.underlying27 hval
 obtain⟨fuel,hf⟩:=h
 obtain⟨xs,n,_,_,hl,hlen,hf⟩:=DataW.trod_struct (cs:=cs0.toList) Tryz.underlying27 hf
 rw[qCa]at hl
 match hc:cs0.toList,hl with
 | [c0,c1,c2],_=>
 rw[hc]at hf
 have hx:∀ i,i<3->∃ y,xs[i]?=some y:=fun i hi=>⟨xs[i]'(by rw[hlen];exact hi),List.getElem?_eq_getElem _⟩
 obtain⟨y0,e0⟩:=hx 0 om
 obtain⟨y1,e1⟩:=hx 1 om
 obtain⟨y2,e2⟩:=hx 2 om
 obtain⟨k0,g0,_⟩:=DataW.trod_int Tryz.underlying3 ((hf 0 _ rfl).trans e0)
 obtain⟨k1,g1,_⟩:=DataW.trod_int Tryz.underlying3 ((hf 1 _ rfl).trans e1)
 obtain⟨k2,g2,_⟩:=DataW.trod_int Tryz.underlying3 ((hf 2 _ rfl).trans e2)
 simp[q7w]at g0 g1 g2
 subst g0 g1 g2
 exact⟨k0,k1,k2,by rw[<-Array.toArray_toList (xs:=cs0),hc]⟩
theorem readable50:P.readableRec 50=true:=kr
theorem qA5:50<P.types.size:=of_decide_eq_true kr
theorem readable27:P.readableRec 27=true:=kr
theorem qwV:27<P.types.size:=of_decide_eq_true kr
end Go.Fx.Tryz
namespace Go.Fx.Ch
open Go.Fx.Tryz
set_option linter.all false
set_option maxRecDepth 100000
def ye(s:qd):List Int:=(s.rows.drop (s.cur+1)++s.rows.take (s.cur+1)).flatten
def zi(s:qd):Prop:=(ye s).Pairwise (· < ·)
theorem JG{s s':qd}(p:Int->Bool)(h:s'.rows=s.rows.map fun r=>r.filter p)(hc:s'.cur=s.cur):ye s'=(ye s).filter p:=by
 unfold ye
 rw[h,hc,<-List.map_drop,<-List.map_take,<-List.map_append,Zj]
theorem q3W(s:qd):(ye s).Perm s.rows.flatten:=by
 unfold ye
 rw[List.flatten_append]
 refine(List.perm_append_comm).trans ?_
 rw[<-List.flatten_append,List.take_append_drop]
theorem zi.filter{s s':qd}(h:zi s)(p:Int->Bool)(hr:s'.rows=s.rows.map fun r=>r.filter p)(hc:s'.cur=s.cur):zi s':=by
 unfold zi
 rw[JG p hr hc]
 exact List.Pairwise.filter _ h
theorem zi.same{s s':qd}(h:zi s)(hr:s'.rows=s.rows)(hc:s'.cur=s.cur):zi s':=by
 unfold zi ye
 rw[hr,hc];exact h
theorem qpZ{s:qd}(hc:s.cur<s.rows.length):∃ T,ye s=(s.rows[(qy s).cur]?).getD []++T/\ye (qy s)=T++(s.rows[(qy s).cur]?).getD []:=by
 have hn:(qy s).cur=(s.cur+1) % s.rows.length:=rfl
 by_cases h:s.cur+1<s.rows.length
 ·have hm:(qy s).cur=s.cur+1:=by rw[hn,Nat.mod_eq_of_lt h]
  refine⟨(s.rows.drop (s.cur+2)++s.rows.take (s.cur+1)).flatten,?_,?_⟩
  ·unfold ye
   rw[hm,List.getElem?_eq_getElem h,List.drop_eq_getElem_cons h]
   simp only[List.cons_append,List.flatten_cons,List.flatten_append,Option.getD_some,List.append_assoc]
  ·unfold ye
   rw[hm,List.getElem?_eq_getElem h]
   show(s.rows.drop (s.cur+1+1)++s.rows.take (s.cur+1+1)).flatten=_
   rw[List.take_succ_eq_append_getElem h]
   simp only[List.flatten_append,List.flatten_cons,List.flatten_nil,List.append_nil,Option.getD_some,List.append_assoc]
 ·have he:s.cur+1=s.rows.length:=by omega
  have hm:(qy s).cur=0:=by rw[hn,he,Nat.mod_self]
  have h0:0<s.rows.length:=by omega
  refine⟨(s.rows.drop 1).flatten,?_,?_⟩
  ·unfold ye
   rw[hm,List.getElem?_eq_getElem h0,he,List.drop_length,List.take_length]
   have:=List.drop_eq_getElem_cons h0
   rw[List.drop_zero]at this
   rw[List.nil_append,Option.getD_some,<-List.flatten_cons,<-this]
  ·unfold ye
   rw[hm,List.getElem?_eq_getElem h0]
   show(s.rows.drop (0+1)++s.rows.take (0+1)).flatten=_
   rw[List.take_succ_eq_append_getElem h0]
   simp
theorem q7p{l:List Int}(h:l.Pairwise (· < ·)):zI l=l:=by
 unfold zI
 refine List.mergeSort_of_pairwise (h.imp fun hab=>?_)
 simp;omega
theorem qdD{s s2:qd}(hc:s.cur<s.rows.length)(ho:zi s)(hr:s2.rows=s.rows.map fun r=>r.filter fun n=>n ∉ zM (qy s))(hcu:s2.cur=(qy s).cur):ye s=zM (qy s)++ye s2/\zi s2:=by
 obtain⟨T,h1,h2⟩:=qpZ hc
 have hp:=ho
 unfold zi at hp
 rw[h1,List.pairwise_append]at hp
 obtain⟨p1,p2,p3⟩:=hp
 have hrow:zM (qy s)=(s.rows[(qy s).cur]?).getD []:=by
  show zI ((s.rows[(qy s).cur]?).getD [])=_
  exact q7p p1
 have hring:ye s2=T:=by
  have e:=JG (s:=qy s) (s':=s2) (fun n=>n ∉ zM (qy s)) hr hcu
  rw[e,h2,hrow,List.filter_append]
  have e1:T.filter (fun n=>decide (n ∉ (s.rows[(qy s).cur]?).getD []))=T:=List.filter_eq_self.2 fun x hx=>by
   have:x ∉ (s.rows[(qy s).cur]?).getD []:=fun hm=>by have:=p3 x hm x hx;omega
   exact decide_eq_true this
  have e2:((s.rows[(qy s).cur]?).getD []).filter (fun n=>decide (n ∉ (s.rows[(qy s).cur]?).getD []))=[]:=List.filter_eq_nil_iff.2 fun x hx=>by simp[hx]
  rw[e1,e2,List.append_nil]
 refine⟨by rw[hring,hrow];exact h1,?_⟩
 unfold zi
 rw[hring];exact p2
variable {R:Int->TR->Prop}
theorem yd.ring{Q:qd->Prop}(hQ:JY Q){n:Nat}{s s':qd}{gone:List Int}(h:yd n s gone s'):qT s->Q s->zi s->ye s=gone++ye s'/\zi s'/\∀ r∈s.rows,(∀ x∈r,x∈gone)\/∀ x∈r,x ∉ gone:=by
 induction h with
 | done _=>exact fun _ _ ho=>⟨rfl,ho,fun r _=>.inr fun x _ hx=>by cases hx⟩
 | @step s s2 s' gone hf hF _ ih=>
  intro hb hq ho
  obtain⟨a,b,c,d,e⟩:=hF.round hQ hb hq
  have hcf:=hF.conf
  obtain⟨r1,r2⟩:=qdD hb.cur ho c.rows hcf.2.2.1
  obtain⟨i1,i2,i3⟩:=ih a b (zi.same r2 rfl rfl)
  have hring2:ye { s2 with ev:=s2.ev+(zM (qy s)).length }=ye s2:=rfl
  refine⟨?_,i2,fun r hr=>?_⟩
  ·rw[r1,List.append_assoc,<-i1,hring2]
  ·obtain⟨i,hi,rfl⟩:=List.mem_iff_getElem.1 hr
   have hnx:=hb.next
   by_cases hic:i=(qy s).cur
   ·refine .inl fun x hx=>List.mem_append_left _ ?_
    have:zM (qy s)=zI s.rows[i]:=by
     unfold zM
     show zI ((s.rows[(qy s).cur]?).getD [])=_
     rw[<-hic,List.getElem?_eq_getElem hi];rfl
    rw[this]
    exact(zS _).mem_iff.2 hx
   ·have hdis:∀ x∈s.rows[i],x ∉ zM (qy s):=fun x hx hm=>by
     have hcl:(qy s).cur<s.rows.length:=hnx.cur
     have:zM (qy s)=zI s.rows[(qy s).cur]:=by
      unfold zM
      show zI ((s.rows[(qy s).cur]?).getD [])=_
      rw[List.getElem?_eq_getElem hcl];rfl
     rw[this]at hm
     have hm:=(zS _).mem_iff.1 hm
     have hn:s.rows.flatten.Nodup:=hb.rows.nodup_iff.2 hb.nd
     have hp:=(List.pairwise_flatten.1 hn).2
     rcases Nat.lt_or_gt_of_ne hic with hlt | hgt
     ·exact(List.pairwise_iff_getElem.1 hp i _ hi hcl hlt x hx x hm) rfl
     ·exact(List.pairwise_iff_getElem.1 hp _ i hcl hi hgt x hm x hx) rfl
    have hsame:s.rows[i].filter (fun n=>decide (n ∉ zM (qy s)))=s.rows[i]:=List.filter_eq_self.2 fun x hx=>decide_eq_true (hdis x hx)
    have hm2:s.rows[i]∈s2.rows:=by
     rw[c.rows]
     exact List.mem_map.2 ⟨s.rows[i],hr,hsame⟩
    rcases i3 _ hm2 with hall | hnone
    ·exact .inl fun x hx=>List.mem_append_right _ (hall x hx)
    ·exact .inr fun x hx hm=>(List.mem_append.1 hm).elim (hdis x hx) (hnone x hx)
theorem qu4{s:qd}(hc:s.cur<s.rows.length)(t:TR):ye (zL s t)=ye s++[s.given+1]:=by
 have e:(zL s t).rows=s.rows.modify s.cur fun r=>r++[s.given+1]:=rfl
 have ec:(zL s t).cur=s.cur:=rfl
 unfold ye
 rw[e,ec]
 have h1:(s.rows.modify s.cur fun r=>r++[s.given+1]).drop (s.cur+1)=s.rows.drop (s.cur+1):=by
  apply List.ext_getElem?
  intro i
  have hne:¬ s.cur=s.cur+1+i:=by omega
  rw[List.getElem?_drop,List.getElem?_drop,List.getElem?_modify]
  simp only[hne,if_false]
  cases s.rows[s.cur+1+i]?<;>rfl
 have h2:(s.rows.modify s.cur fun r=>r++[s.given+1]).take (s.cur+1)=s.rows.take s.cur++[s.rows[s.cur]++[s.given+1]]:=by
  have hl:s.cur<(s.rows.modify s.cur fun r=>r++[s.given+1]).length:=by rw[List.length_modify];exact hc
  rw[List.take_succ_eq_append_getElem hl]
  congr 1
  ·apply List.ext_getElem?
   intro i
   rw[List.getElem?_take,List.getElem?_take]
   split
   ·have hne:¬ s.cur=i:=by omega
    rw[List.getElem?_modify]
    simp only[hne,if_false]
    cases s.rows[i]?<;>rfl
   ·rfl
  ·rw[List.getElem_modify,if_pos rfl]
 rw[h1,h2,List.take_succ_eq_append_getElem hc]
 simp only[List.flatten_append,List.flatten_cons,List.flatten_nil,List.append_nil,List.append_assoc]
theorem qT.ring{s:qd}(h:qT s):∀ x∈ye s,0<x/\x<=s.given:=fun x hx=>h.pos x (h.rows.mem_iff.1 ((q3W s).mem_iff.1 hx))
theorem zi.add{s:qd}(hb:qT s)(ho:zi s)(t:TR):zi (zL s t):=by
 unfold zi
 rw[qu4 hb.cur]
 exact List.pairwise_append.2 ⟨ho,List.pairwise_singleton _ _,fun x hx y hy=>by
  rw[List.mem_singleton.1 hy]
  have:=(hb.ring x hx).2
  omega⟩
theorem zi.new{n:Nat}{len:Int}{k:Nat}:zi (jf n len k):=by
 have hf:(jf n len k).rows.flatten=[]:=List.flatten_eq_nil_iff.2 fun r hr=>(List.mem_replicate.1 hr).2
 have:ye (jf n len k)=[]:=by
  have:=(q3W (jf n len k)).length_eq
  rw[hf]at this
  exact List.length_eq_zero_iff.1 this
 unfold zi
 rw[this];exact List.Pairwise.nil
theorem quK{s:qd}(h:qT s):(vq s).Nodup/\∀ x∈vq s,x∈keys s.items:=⟨(zS _).nodup_iff.2 h.nd,fun x hx=>(zS _).mem_iff.1 hx⟩
theorem qvz{s:qd}(h:qT s)(r:Int × Int):(jY s r).Nodup/\∀ x∈jY s r,x∈keys s.items:=by
 refine⟨(zS _).nodup_iff.2 (h.nd.filter _),fun x hx=>?_⟩
 exact(List.mem_filter.1 ((zS _).mem_iff.1 hx)).1
structure PI (R:Int->TR->Prop) (n:Nat) (len:Int) (k m:Nat) (s:qd):Prop where
 base:qT s
 q:QR R s
 ord:zi s
 rl:s.rows.length=n
 len:s.len=len
 k:s.k=k
 giv:s.given<=m
 tot:(s.items.length:Int)+s.ev+s.dr=s.given
theorem PI.new{n k:Nat}{len:Int}(h1:1<=n)(hn:n<=16)(h4:4<=k)(h16:k<=16)(hl0:0<=len)(hl:len<=1048576)(hb:qT (jf n len k)):PI R n len k 0 (jf n len k):=
 ⟨hb,⟨qP.new n len k,fun x hx=>by cases hx⟩,zi.new,List.length_replicate,rfl,rfl,Int.le_refl _,rfl⟩
theorem q81{s:qd}(id slot:Int):(zG s id slot).1.items.length=s.items.length/\(zG s id slot).1.ev=s.ev/\(zG s id slot).1.dr=s.dr:=by
 unfold zG
 split
 ·exact⟨rfl,rfl,rfl⟩
 ·rename_i h0
  obtain⟨h1,_,_⟩:=QJ h0
  split
  ·exact⟨rfl,rfl,rfl⟩
  ·refine⟨?_,rfl,rfl⟩
   show(ze s.items (id,slot) _).length=_
   rw[<-qI,jW _ h1,qI]
theorem q3O{s:qd}(id slot:Int):(zo s id slot).1.items.length=s.items.length/\(zo s id slot).1.ev=s.ev/\(zo s id slot).1.dr=s.dr:=by
 unfold zo
 split
 ·exact⟨rfl,rfl,rfl⟩
 ·rename_i h0
  obtain⟨h1,_,_⟩:=QJ h0
  refine⟨?_,rfl,rfl⟩
  show(ze s.items (id,slot) _).length=_
  rw[<-qI,jW _ h1,qI]
theorem q00(s:qd)(id slot:Int):(zG s id slot).1.rows=s.rows/\(zG s id slot).1.cur=s.cur/\(zG s id slot).1.len=s.len/\(zG s id slot).1.k=s.k/\(zG s id slot).1.given=s.given:=by
 unfold zG
 split
 ·exact⟨rfl,rfl,rfl,rfl,rfl⟩
 ·split
  ·exact⟨rfl,rfl,rfl,rfl,rfl⟩
  ·exact⟨rfl,rfl,rfl,rfl,rfl⟩
theorem Yj(s:qd)(id slot:Int):(zo s id slot).1.rows=s.rows/\(zo s id slot).1.cur=s.cur/\(zo s id slot).1.len=s.len/\(zo s id slot).1.k=s.k/\(zo s id slot).1.given=s.given:=by
 unfold zo
 split
 ·exact⟨rfl,rfl,rfl,rfl,rfl⟩
 ·exact⟨rfl,rfl,rfl,rfl,rfl⟩
theorem PI.put{n k m:Nat}{len:Int}{s s1:qd}{t:TR}{gone:List Int}(hR:yL R)(h:PI R n len k m s)(ha:jq t.at_)(h0:yn s t=0)(hE:yd t.code.length s gone s1)(ht:R (s1.given+1) t):PI R n len k (m+1) (zL s1 t)/\q0u R s t gone s1/\ye s=gone++ye s1/\∀ r∈s.rows,(∀ x∈r,x∈gone)\/∀ x∈r,x ∉ gone:=by
 have hd:=qwg hR h.base h.q ha h0 hE
 have hcf:=hE.conf
 obtain⟨r1,r2,r3⟩:=hE.ring (YV hR) h.base h.q h.ord
 refine⟨⟨hd.base,hd.all ht,r2.add hd.base1 t,?_,?_,?_,?_,?_⟩,hd,r1,r3⟩
 ·show(s1.rows.modify s1.cur _).length=n
  rw[List.length_modify,hcf.2.2.2.2];exact h.rl
 ·show s1.len=len
  rw[hcf.1];exact h.len
 ·show s1.k=k
  rw[hcf.2.1];exact h.k
 ·show s1.given+1<=_
  have:=h.giv
  rw[hcf.2.2.1];omega
 ·show((zL s1 t).items.length:Int)+s1.ev+s1.dr=s1.given+1
  have h1:=congrArg List.length hd.keys
  rw[qI,List.length_append,qI]at h1
  simp only[List.length_cons,List.length_nil]at h1
  have h2:=hd.cnt
  have h3:=hd.ev
  have h4:=h.tot
  rw[hcf.2.2.1,hcf.2.2.2.1];omega
theorem PI.gone{n k m:Nat}{len:Int}{s s':qd}{l:List Int}(hR:yL R)(h:PI R n len k m s)(hF:zm s l s')(hn:l.Nodup)(hs:∀ x∈l,x∈keys s.items):PI R n len k m { s' with dr:=s'.dr+l.length }:=by
 obtain⟨b1,b2,b3,b4,b5,b6,b7⟩:=qpl hR h.base h.q hF hn hs
 have hcf:=hF.conf
 refine⟨b1,b2,zi.filter (s:=s) h.ord (fun x=>x ∉ l) b3.rows hcf.2.2.1,?_,?_,?_,?_,?_⟩
 ·show s'.rows.length=n
  rw[hcf.2.2.2.2.2.2];exact h.rl
 ·show s'.len=len
  rw[hcf.1];exact h.len
 ·show s'.k=k
  rw[hcf.2.1];exact h.k
 ·show s'.given<=m
  rw[hcf.2.2.2.1];exact h.giv
 ·show(s'.items.length:Int)+s'.ev+(s'.dr+l.length)=s'.given
  have:=h.tot
  rw[b5,b6,b7];omega
theorem PI.mono{n k m m':Nat}{len:Int}{s:qd}(h:PI R n len k m s)(hm:m<=m'):PI R n len k m' s:=⟨h.base,h.q,h.ord,h.rl,h.len,h.k,by have:=h.giv;omega,h.tot⟩
theorem PI.act{n k m:Nat}{len:Int}{s s':qd}{a:yE}(hR:yL R)(h:PI R n len k m s)(ha:jq a.tat)(hRt:∀ x,R x a.tr)(hA:q3L s a s'):PI R n len k (m+1) s':=by
 cases hA with
 | put h1 h2 h3=>exact(h.put hR (t:=a.tr) ha h2 h3 (hRt _)).1
 | putNo _ _=>exact h.mono om
 | chain _=>
  obtain⟨b,q⟩:=qif hR h.base h.q a.id a.slot
  obtain⟨c1,c2,c3,c4,c5⟩:=q00 s a.id a.slot
  obtain⟨d1,d2,d3⟩:=q81 (s:=s) a.id a.slot
  exact⟨b,q,zi.same h.ord c1 c2,by rw[c1];exact h.rl,by rw[c3];exact h.len,by rw[c4];exact h.k,by rw[c5];have:=h.giv;omega,by rw[c5,d1,d2,d3];exact h.tot⟩
 | unchain _=>
  obtain⟨b,q⟩:=q4O hR h.base h.q a.id a.slot
  obtain⟨c1,c2,c3,c4,c5⟩:=Yj s a.id a.slot
  obtain⟨d1,d2,d3⟩:=q3O (s:=s) a.id a.slot
  exact⟨b,q,zi.same h.ord c1 c2,by rw[c1];exact h.rl,by rw[c3];exact h.len,by rw[c4];exact h.k,by rw[c5];have:=h.giv;omega,by rw[c5,d1,d2,d3];exact h.tot⟩
 | drop _ hF=>
  obtain⟨d1,d2⟩:=qvz h.base (a.s1,a.s2)
  exact(h.gone hR hF d1 d2).mono om
 | flush _ hF=>
  obtain⟨d1,d2⟩:=quK h.base
  exact(h.gone hR hF d1 d2).mono om
 | other=>exact h.mono om
end Go.Fx.Ch
namespace Go.Fx.Tryz
set_option maxRecDepth 100000
open Go Go.Fx Go.Proofs
def c69:=ql Tryz.f69
def qMV:=Tryz.f69.results.toList
abbrev jT K:=qr P qMV K
def f69 a w K:=CS P c69 none [2] [2] (jT K) (qz 30 [(Value.agg a)]) w
def qwo a w K:=SC c69 1 [2] [2] (jT K) 30 [(0,Value.agg a)] w
abbrev qFu K:=kq c69 1 [2] [2] (jT K)
def qus a b w K:=SC c69 3 [2] [2] (jT K) 30 [(2,VB false),(1,VQ a),(0,Value.agg b)] w
abbrev qhJ K:=kq c69 3 [2] [2] (jT K)
abbrev qEx K:=kq c69 6 [1,2] [2] (qhJ K)
def Ju a b c w K:=SG c69 13 [1,2] [2] (qhJ K) 30 [(21,VB a),(1,VQ b),(2,VB c)] w
def qvn a b w K:=SG c69 7 [2] [2] (jT K) 30 [(1,VQ a),(2,VB b)] w
abbrev q1X K:=kq c69 7 [2] [2] (jT K)
abbrev qHw K:=kq c69 14 [] [2] (q1X K)
def qrU a b c w K:=SC c69 29 [] [2] (q1X K) 30 [(3,VI a),(1,VQ b),(2,VB c)] w
abbrev qgC K:=qp 0 (q1X K)
def qzA K Y5 e w:=zv (fun e w=>CS P (cA c69 116) none [3,1,2] [2] (qv [3,1,2] Y5 (qgC K)) e w) e w
abbrev Vh K Y5:=qv [3,1,2] Y5 (qgC K)
def qjg a b c w K Y5:=SG c69 116 [3,1,2] [2] (Vh K Y5) 30 [(3,VI a),(1,VQ b),(2,VB c)] w
abbrev qwC K Y5:=kq c69 116 [3,1,2] [2] (Vh K Y5)
abbrev qHs K Y5:=kq c69 232 [1,3,2] [2] (qwC K Y5)
def qts a b c w K Y5:=SG c69 233 [3,1,2] [2] (Vh K Y5) 30 [(1,VQ a),(3,VI b),(2,VB c)] w
abbrev qrw K Y5:=kq c69 233 [3,1,2] [2] (Vh K Y5)
abbrev qnR K Y5:=qp 1 (qrw K Y5)
abbrev qBi K Y5:=kq c69 932 [1,2,3] [2,1,3] (qnR K Y5)
def qvp a b c w K Y5:=SG c69 467 [3,1,2] [2] (Vh K Y5) 30 [(1,VQ a),(2,VB b),(3,VI c)] w
theorem qoe:qvp a c d w K Y5=(Y5 (qi.mk 30 [(3,(Value.int .i64 (IntKind.wrap .i64 (d*2)))),(1,(Value.pointer (some a))),(2,(Value.bool c))] []) w):=qD kr
theorem qpT:qts c d e w K Y5=(∃ f:Int,w.cell? (c.add 2)=some (.int .i64 f)/\qo (f==d) (K (Value.bool true) w) (qvp c e d w K Y5)):=qD (qH [1,2,3] (qrw K Y5) (Qp 1 [2,1,3] (qnR K Y5) (qH [29,1,3,2] (qBi K Y5) kr)))
def qux w K:=SG c69 15 [2] [2] (jT K) 30 [] w
abbrev qyY K:=kq c69 15 [2] [2] (jT K)
theorem qq7:qux w K=(K (Value.bool false) w):=qD (qH [2] (qyY K) kr)
theorem qfy:qjg c d e w K Y5=(qo (decide (c<=65536)) (qts d c e w K Y5) (qux w K)):=qD (qH [1,3,2] (qwC K Y5) (qH [23,1,3,2] (qHs K Y5) kr))
theorem qqt:qrU a c d w K=(qO (qzA K) (qi.mk 30 [(3,(Value.int .i64 a)),(1,(Value.pointer (some c))),(2,(Value.bool d))] []) w):=Eq.trans (b:=CS P (cA c69 29) none [] [2] (q1X K) (qi.mk 30 [(3,(VI a)),(1,(VP (some c))),(2,(VB d))] []) w) kr (Eq.trans (Zk 0 [2] (qgC K) kr) ((zb (b:=(cA c69 116)) (X':=[2]) (H:=[3,1,2]) kr kr kr).trans kr))
theorem qqM:qvn c d w K=(qrU 16 c d w K):=qD (qH [] (q1X K) (qH [3,1,2] (qHw K) kr))
theorem q4l:Ju a c d w K=(qo a (K (Value.bool false) w) (qvn c d w K)):=qD kr
theorem qpf:qus c d w K=(∃ e:Int,w.cell? c=some (.int .i64 e)/\qo (decide (e<1)) (Ju true c false w K) (∃ f:Int,w.cell? c=some (.int .i64 f)/\qo (decide (f > 16)) (Ju true c false w K) (∃ g:Int,w.cell? (c.add 1)=some (.int .i64 g)/\qo (decide (g<256)) (Ju true c false w K) (∃ h:Int,w.cell? (c.add 1)=some (.int .i64 h)/\Ju (decide (h > 1048576)) c false w K)))):=Eq.trans (b:=CS P (cA c69 3) none [2] [2] (jT K) (qi.mk 30 [(2,(VB false)),(1,(VP (some c))),(0,(Value.agg d))] []) w) kr (Eq.trans (zh [1,2] (qhJ K) kr) (Eq.trans (zh [21,1,2] (qEx K) kr) kr))
theorem qqL:qwo c w K=(qu c 27 w (fun d e=>qus (Addr.mk d 0 none) c e K)):=Eq.trans (b:=CS P (cA c69 1) none [2] [2] (jT K) (qi.mk 30 [(0,(Value.agg c))] []) w) kr (Eq.trans (zh [1,2] (qFu K) kr) kr)
theorem qFP:f69 a w K=(qwo a w K):=kr
theorem qG6 a w K(h:f69 a w K):q9 P 69 [(Value.agg a)] w K:=qA c69 Tryz.func69 h
def c8:=ql Tryz.f8
def rs8:=Tryz.f8.results.toList
abbrev vg K:=qr P rs8 K
def f8 a b c d w K:=CS P c8 none [4] [4] (vg K) (qz 93 [(Value.agg a),(VS b c d)]) w
def qDT a b c d w K:=SC c8 1 [4] [4] (vg K) 93 [(0,Value.agg a),(1,VS b c d)] w
abbrev qK2 K:=kq c8 1 [4] [4] (vg K)
def qDR a b c d e w K:=SC c8 3 [4] [4] (vg K) 93 [(4,VB false),(2,VQ a),(0,Value.agg b),(1,VS c d e)] w
abbrev qDN K:=kq c8 3 [4] [4] (vg K)
abbrev qJZ K:=kq c8 6 [2,4,1] [4] (qDN K)
def qDU a b c d f w K:=SG c8 7 [4] [4] (vg K) 93 [(2,VQ a),(4,VB b),(1,VS c d f)] w
abbrev qJz K:=kq c8 7 [4] [4] (vg K)
def qDQ a b c d e f g h i j k l m n w K:=SC c8 15 [4] [4] (vg K) 93 [(6,VI a),(5,VP b),(21,VI c),(20,VP d),(17,(Value.tuple #[(VP e),(VI f)])),(19,(Value.tuple #[(VP g),(VI h)])),(18,Value.agg i),(2,VQ j),(4,VB k),(1,VS l m n)] w
abbrev qkH K:=kq c8 15 [4] [4] (vg K)
abbrev qIH K:=kq c8 30 [4,5,1] [4] (qkH K)
def qvu a b c d f g h w K:=SG c8 61 [4,5,1] [4] (qkH K) 93 [(27,VB a),(2,VQ b),(4,VB c),(5,VP d),(1,VS f g h)] w
def qvA a w K:=SG c8 245 [4,5,1] [4] (qkH K) 93 [(4,VB a)] w
theorem qs4:qvA a w K=(K (Value.bool a) w):=qD kr
def qE1 a b c d f w K:=SG c8 31 [4] [4] (vg K) 93 [(4,VB a),(5,VP b),(1,VS c d f)] w
abbrev qJg K:=kq c8 31 [4] [4] (vg K)
def qDV a b c d e f w K:=SC c8 63 [4] [4] (vg K) 93 [(7,Value.int .u32 a),(4,VB b),(5,VP c),(1,VS d e f)] w
abbrev qbN K:=kq c8 63 [4] [4] (vg K)
abbrev qFh K:=kq c8 126 [7,5] [4] (qbN K)
def qDY a b c d e f g w K:=SC c8 253 [7,5] [4] (qbN K) 93 [(8,VI a),(7,Value.int .u32 b),(4,VB c),(5,VP d),(1,VS e f g)] w
abbrev qik K:=qp 0 (qbN K)
def qEm K Y9 e w:=zv (fun e w=>CS P (cA c8 1012) none [4,7,5,8,1] [4,7,5] (qv [4,7,5,8,1] Y9 (qik K)) e w) e w
abbrev q2h K Y9:=qv [4,7,5,8,1] Y9 (qik K)
def qsl a b c d f g h w K Y9:=SG c8 1012 [4,7,5,8,1] [4,7,5] (q2h K Y9) 93 [(4,VB a),(7,Value.int .u32 b),(5,VP c),(8,VI d),(1,VS f g h)] w
abbrev qtp K Y9:=kq c8 1012 [4,7,5,8,1] [4,7,5] (q2h K Y9)
abbrev qEO K Y9:=kq c8 2024 [4,7,5,1,8] [4,7,5] (qtp K Y9)
def qsA a b c d f g h w K Y9:=SG c8 2025 [4,7,5,8,1] [4,7,5] (q2h K Y9) 93 [(4,VB a),(7,Value.int .u32 b),(5,VP c),(1,VS d f g),(8,VI h)] w
abbrev qs0 K Y9:=kq c8 2025 [4,7,5,8,1] [4,7,5] (q2h K Y9)
abbrev q6i K Y9:=qp 1 (qs0 K Y9)
abbrev qtD K Y9:=kq c8 8100 [4,7,5,1,8] [4,7,5,1,8] (q6i K Y9)
abbrev qGe K Y9:=kq c8 16200 [5,1,8,4,7] [4,7,5,1,8] (qtD K Y9)
def q6m a b c d f g h w K Y9:=SG c8 4051 [4,7,5,8,1] [4,7,5] (q2h K Y9) 93 [(4,VB a),(7,Value.int .u32 b),(5,VP c),(1,VS d f g),(8,VI h)] w
theorem Jq:q6m a c d e f g h w K Y9=(Y9 (qi.mk 93 [(4,(Value.bool a)),(7,(Value.int .u32 c)),(5,(Value.pointer d)),(8,(Value.int .i64 (IntKind.wrap .i64 (h+1)))),(1,(Value.slice e f g))] []) w):=qD kr
def qsK a b c d f g h w K Y9:=SG c8 16201 [4,7,5,1,8] [4,7,5,1,8] (q6i K Y9) 93 [(5,VP a),(1,VS b c d),(8,VI f),(4,VB g),(7,Value.int .u32 h)] w
abbrev qHv K Y9:=kq c8 16201 [4,7,5,1,8] [4,7,5,1,8] (q6i K Y9)
theorem qoR:qsK d e f h c i g w K Y9=(qh e (fun m=>0<=c/\c<(f:Nat)/\qS 3 ((m.add (Int.toNat c*9)).add 1) w (fun n=>q9 P 18 [(Value.pointer d),(Value.agg n)] w (fun o j=>∃ k:Int,∃ (p:OA) (q r:Nat),∃ l:Int,o=(.tuple #[(Value.int .u32 k),(Value.slice p q r),(Value.int .i64 l)])/\qo (l==0) (qo (k != (IntKind.wrap .u32 (g+1))) (K (Value.bool false) j) (q6m i (IntKind.wrap .u32 (g+1)) d e f h c j K Y9)) (q6m i g d e f h c j K Y9))))):=qD (qH [5,1,8,4,9,7,11] (qHv K Y9) kr)
theorem qob:qsA g h f d e i c w K Y9=(qh d (fun k=>0<=c/\c<(e:Nat)/\∃ j:Int,w.cell? (k.add (Int.toNat c*9))=some (.int .u8 j)/\(10:Int)≠0/\qo (((j.tmod 10):Int) != 0) (qh d (fun l=>0<=c/\c<(e:Nat)/\qS 9 (l.add (Int.toNat c*9)) w (fun m=>q9 P 32 [(Value.pointer f),(Value.agg m)] w (fun n o=>n=(.tuple #[])/\q6m g h f d e i c o K Y9)))) (qsK f d e i c g h w K Y9))):=qD (qH [4,7,5,1,8] (qs0 K Y9) (Qp 1 [4,7,5,1,8] (q6i K Y9) (qH [5,1,8,4,7] (qtD K Y9) (qH [45,4,7,5,1,8] (qGe K Y9) kr))))
def qhv a b w K:=SG c8 127 [4] [4] (vg K) 93 [(7,Value.int .u32 a),(5,VP b)] w
abbrev qHC K:=kq c8 127 [4] [4] (vg K)
def q7c a w K:=SG c8 511 [4] [4] (vg K) 93 [(4,VB a)] w
theorem qq8:q7c a w K=(K (Value.bool a) w):=qD kr
theorem qoL:qhv c d w K=(q9 P 23 [(Value.pointer d)] w (fun o p=>∃ g:Array Value,o=(.agg g)/\qu (qx P 47) 47 p (fun f q=>zW 5 (Addr.mk f 0 none) g q (fun r=>q9 P 15 [] r (fun s h=>∃ i:Bool,s=(.bool i)/\qo i (q9 P 35 [(Value.pointer d)] h (fun t e=>∃ j:Array Value,t=(.agg j)/\∃ k:Int,j[5]?=some (.int .u32 k)/\qo (k==c) (∃ l:Int,e.cell? (Addr.mk f 0 none)=some (.int .i64 l)/\∃ m:Int,e.cell? ((Addr.mk f 0 none).add 3)=some (.int .i64 m)/\∃ n:Int,e.cell? ((Addr.mk f 0 none).add 4)=some (.int .i64 n)/\q7c ((IntKind.wrap .i64 ((IntKind.wrap .i64 (l+m))+n))==(IntKind.wrap .i64 c)) e K) (q7c false e K))) (q7c false h K)))))):=qD (qH [7,12,5] (qHC K) kr)
theorem qqh:qsl g c d e h f i w K Y9=(qo (decide (e<((f:Nat):Int))) (qsA g c d h f i e w K Y9) (qhv c d w K)):=qD (qH [4,7,5,1,8] (qtp K Y9) (qH [36,4,7,5,1,8] (qEO K Y9) kr))
theorem qrp:qDY a c d e f g h w K=(qO (qEm K) (qi.mk 93 [(4,(Value.bool d)),(7,(Value.int .u32 c)),(5,(Value.pointer e)),(8,(Value.int .i64 a)),(1,(Value.slice f g h))] []) w):=Eq.trans (b:=CS P (cA c8 253) none [7,5] [4] (qbN K) (qi.mk 93 [(8,(VI a)),(7,(Value.int .u32 c)),(4,(VB d)),(5,(VP e)),(1,(VS f g h))] []) w) kr (Eq.trans (Zk 0 [4,7,5] (qik K) kr) ((zb (b:=(cA c8 1012)) (X':=[4,7,5]) (H:=[4,7,5,8,1]) kr kr kr).trans kr))
theorem qvk:qDV c d e f g h w K=(qDY 0 c d e f g h w K):=Eq.trans (b:=CS P (cA c8 63) none [4] [4] (vg K) (qi.mk 93 [(7,(Value.int .u32 c)),(4,(VB d)),(5,(VP e)),(1,(VS f g h))] []) w) kr (Eq.trans (zh [7,5] (qbN K) kr) (Eq.trans (zh [4,7,5,8,1] (qFh K) kr) kr))
theorem qr7:qE1 c d e f g w K=(qDV 0 c d e f g w K):=qD (qH [4,7,5,1] (qJg K) kr)
theorem q9L:qvu a c d e f g h w K=(qo a (q9 P 15 [] w (fun l i=>∃ j:Bool,l=(.bool j)/\qo j (qS 3 c i (fun m=>q9 P 26 [(Value.agg m)] i (fun n o=>∃ k:Bool,n=(.bool k)/\qvA k o K))) (qvA false i K))) (qE1 d e f g h w K)):=qD kr
theorem q8Q:qDQ i c j k l m n o p d e f g h w K=(qo (i != 0) (qvu true d e c f g h w K) (qvu c.isNone d e c f g h w K)):=Eq.trans (b:=CS P (cA c8 15) none [4] [4] (vg K) (qi.mk 93 [(6,(VI i)),(5,(VP c)),(21,(VI j)),(20,(VP k)),(17,(Value.tuple #[(VP l),(VI m)])),(19,(Value.tuple #[(VP n),(VI o)])),(18,(Value.agg p)),(2,(VP (some d))),(4,(VB e)),(1,(VS f g h))] []) w) kr (Eq.trans (zh [4,5,1] (qkH K) kr) (Eq.trans (zh [27,2,4,5,1] (qIH K) kr) kr))
theorem qrT:qDU c f g h i w K=(qS 3 c w (fun j=>q9 P 16 [(Value.agg j)] w (fun k l=>∃ d:Option Addr,∃ e:Int,k=(.tuple #[(Value.pointer d),(Value.int .i64 e)])/\qDQ e d e d d e d e j c f g h i l K))):=qD (qH [2,4,5,1,6] (qJz K) kr)
theorem qto:qDR f g c d e w K=(q9 P 24 [(Value.slice c d e),(Value.int .i64 60)] w (fun k h=>∃ i:Bool,k=(.bool i)/\qo (!i) (q9 P 15 [] h (fun l m=>∃ j:Bool,l=(.bool j)/\K (Value.bool j) m)) (qDU f false c d e h K))):=Eq.trans (b:=CS P (cA c8 3) none [4] [4] (vg K) (qi.mk 93 [(4,(VB false)),(2,(VP (some f))),(0,(Value.agg g)),(1,(VS c d e))] []) w) kr (Eq.trans (zh [2,4,1] (qDN K) kr) (Eq.trans (zh [15,2,4,1] (qJZ K) kr) kr))
theorem qwf:qDT c d e f w K=(qu c 27 w (fun g h=>qDR (Addr.mk g 0 none) c d e f h K)):=Eq.trans (b:=CS P (cA c8 1) none [4] [4] (vg K) (qi.mk 93 [(0,(Value.agg c)),(1,(VS d e f))] []) w) kr (Eq.trans (zh [2,4,1] (qK2 K) kr) kr)
theorem qIX:f8 a b c d w K=(qDT a b c d w K):=kr
theorem qJB a b c d w K(h:f8 a b c d w K):q9 P 8 [(Value.agg a),(Value.slice b c d)] w K:=qA c8 Tryz.func8 h
end Go.Fx.Tryz
namespace Go.Fx.Tryz
open Go Go.Fx Go.Fx.Ch
open Go.Proofs
set_option linter.all false
set_option maxRecDepth 20000
variable {w0 w:World} {H X:qE} {K:KT} {s:qd} {L:qQ} {q:LB} {R:Int->TR->Prop}
theorem q7L{sec len slots:Int}(h:St w0 w H)(hK:∀ w',St w0 w' H->K (.bool (zp sec len slots)) w'):q9 P 69 [.agg #[J sec,J len,J slots]] w K:=by
 refine qG6 _ _ _ ?_
 rw[qFP,qqL]
 refine h.newC fun n w2 hn h2=>?_
 have h2:St w0 w2 ((n,Cs (vW sec len slots) 27)::H):=h2
 have hK:=hK w2 (h2.tail hn)
 have c0:w2.cell? (Addr.mk n 0 none)=some (J sec):=h2.cell (k:=0) rfl
 have c1:w2.cell? ((Addr.mk n 0 none).add 1)=some (J len):=by rw[qa];exact h2.cell (k:=0) rfl
 have c2:w2.cell? ((Addr.mk n 0 none).add 2)=some (J slots):=by rw[qa];exact h2.cell (k:=0) rfl
 have no:zp sec len slots=false->Ju true (Addr.mk n 0 none) false w2 K:=fun hf=>by
  rw[hf]at hK
  rw[q4l,qe];exact hK
 rw[qpf]
 refine⟨sec,c0,?_⟩
 rw[qg]
 refine⟨fun hb=>no ?_,fun hb=>⟨sec,c0,?_⟩⟩
 ·have hb:=of_decide_eq_true hb
  unfold zp
  rw[decide_eq_false (show ¬ (1:Int)<=sec by omega)];rfl
 have hb:=of_decide_eq_false hb
 rw[qg]
 refine⟨fun hb2=>no ?_,fun hb2=>⟨len,c1,?_⟩⟩
 ·have hb2:=of_decide_eq_true hb2
  unfold zp
  rw[decide_eq_false (show ¬ sec<=(16:Int)by omega)];simp
 have hb2:=of_decide_eq_false hb2
 rw[qg]
 refine⟨fun hb3=>no ?_,fun hb3=>⟨len,c1,?_⟩⟩
 ·have hb3:=of_decide_eq_true hb3
  unfold zp
  rw[decide_eq_false (show ¬ (256:Int)<=len by omega)];simp
 have hb3:=of_decide_eq_false hb3
 cases hb4:decide (len > 1048576)with
 | true=>
  refine no ?_
  have hb4:=of_decide_eq_true hb4
  unfold zp
  rw[decide_eq_false (show ¬ len<=(1048576:Int)by omega)];simp
 | false=>
  have hb4:=of_decide_eq_false hb4
  rw[q4l,qb,qqM,qqt]
  refine⟨fun m e' w'=>∃ j:Nat,4<=j/\j<=17/\m=17-j/\e'=qi.mk 30 [(3,J ((2 ^ j:Nat):Int)),(1,.pointer (some (Addr.mk n 0 none))),(2,.bool false)] []/\(∀ i,4<=i->i<j->slots≠((2 ^ i:Nat):Int))/\w'=w2,⟨_,4,by omega,by omega,rfl,rfl,fun i h1 h2=>by omega,rfl⟩,?_⟩
  rintro m e' w' ⟨j,hj4,hj17,rfl,rfl,hno,rfl⟩
  show qjg ..
  rw[qfy,qg]
  have hpow:j<=16->((2 ^ j:Nat):Int)<=65536:=fun hj=>by
   have:=(zQ hj4 hj).2;omega
  refine⟨fun hlt=>?_,fun hge=>?_⟩
  ·have hlt:=of_decide_eq_true hlt
   have hj:j<=16:=by
    refine Classical.byContradiction fun hn=>?_
    have:j=17:=by omega
    subst this
    have:((2 ^ 17:Nat):Int)=131072:=rfl
    omega
   rw[qpT]
   refine⟨slots,c2,?_⟩
   rw[qg]
   refine⟨fun he=>?_,fun he=>?_⟩
   ·have he:slots=((2 ^ j:Nat):Int):=by simpa using he
    have hp:=zQ hj4 hj
    have e:zp sec len slots=true:=by
     unfold zp
     have hex:∃ k,k∈[4,5,6,7,8,9,10,11,12,13,14,15,16]/\slots=2 ^ k:=⟨j,by simp;omega,by rw[he,Int.natCast_pow];rfl⟩
     rw[decide_eq_true (show(1:Int)<=sec by omega),decide_eq_true (show sec<=(16:Int)by omega),decide_eq_true (show(256:Int)<=len by omega),decide_eq_true (show len<=(1048576:Int)by omega),
      decide_eq_true (show(16:Int)<=slots by omega),decide_eq_true (show slots<=(65536:Int)by omega),decide_eq_true hex];rfl
    rw[e]at hK;exact hK
   ·have he:slots≠((2 ^ j:Nat):Int):=by simpa using he
    rw[qoe]
    have hp:=hpow hj
    have hp0:(0:Int)<=((2 ^ j:Nat):Int):=Int.natCast_nonneg _
    refine⟨_,?_,j+1,by omega,by omega,rfl,?_,fun i h1 h2=>?_,rfl⟩
    ·omega
    ·rw[qc om om]
     have:((2 ^ j:Nat):Int)*2=((2 ^ (j+1):Nat):Int):=by rw[Nat.pow_succ,Int.natCast_mul];rfl
     rw[this]
    ·by_cases hij:i=j
     ·rw[hij];exact he
     ·exact hno i h1 om
  ·have hge:=of_decide_eq_false hge
   have hj:j=17:=by
    refine Classical.byContradiction fun hn=>?_
    have:=hpow om
    omega
   subst hj
   rw[qq7]
   have e:zp sec len slots=false:=by
    unfold zp
    have hex:¬ ∃ k,k∈[4,5,6,7,8,9,10,11,12,13,14,15,16]/\slots=2 ^ k:=fun⟨k,hk,hs⟩=>by
     have hk:4<=k/\k<17:=by simp at hk;omega
     exact hno k hk.1 hk.2 (by rw[hs,Int.natCast_pow];rfl)
    rw[decide_eq_false hex,Bool.and_false]
   rw[e]at hK;exact hK
theorem qu9{sec len slots:Int}(hf:zp sec len slots=false)(h:St w0 w H)(hK:∀ w',St w0 w' H->K (.bool true) w'):q9 P 26 [.agg #[J sec,J len,J slots]] w K:=by
 refine qEh _ _ _ ?_
 rw[qEt]
 refine h.newC fun n w2 hn h2=>?_
 have h2:St w0 w2 ((n,Cs (vW sec len slots) 27)::H):=h2
 refine h2.ldA (k:=0) rfl (by simp) ?_
 refine qhd h2 (fun _ w5 h5=>⟨_,_,rfl,?_⟩) (fun _ _ _ _ _ _ _ _ _ _ ht=>by rw[hf]at ht;cases ht)
 simp only[show((1:Int)==1)=true from rfl,qe,Option.isNone_none]
 refine h5.ldA (k:=0) rfl (by simp) ?_
 refine q7L (sec:=sec) (len:=len) (slots:=slots) h5 fun w6 h6=>⟨_,rfl,?_⟩
 rw[qqo,hf]
 exact hK w6 (h6.tail hn)
end Go.Fx.Tryz
