/- A part of the proof. -/
import Derived.Test.YtepbaneageipfaaGreatDoorKaEi
import Derived.KernelRfl
import Derived.Test.YtepbaneageipfaaGreatDoorKbEi
import Derived.Laws.CopyRow
import Derived.Shelf.SlMaps.Clone
import Derived.Shelf.SlSortCmp.Xorshift
import Derived.Sort.AssemblyPlain
set_option linter.all false
set_option autoImplicit true
set_option relaxedAutoImplicit true
noncomputable section
namespace Go.Fx.Tryz
set_option maxRecDepth 100000
open Go Go.Fx Go.Proofs
def c16:=qm Tryz.f16
def qNQ:=Tryz.f16.results.toList
abbrev qs6 K:=qr P qNQ K
def f16 a w K:=CS P c16 none [2,3] [2,3] (qs6 K) (qz 9 [(Value.agg a)]) w
def qt8 a w K:=SG c16 7 [2,3] [2,3] (qs6 K) 9 [(1,VQ a)] w
theorem qp4:qt8 a w K=(qU 3 a w (fun c=>q9 P 52 [(Value.agg c)] w (fun d e=>∃ b:Option Addr,d=(.pointer b)/\K (Value.tuple #[(Value.pointer b),(Value.int .i64 0)]) e))):=kr
theorem qHn:f16 a w K=(qv a 27 w (fun b c=>qU 3 (Addr.mk b 0 none) c (fun f=>q9 P 51 [(Value.agg f)] c (fun g d=>∃ e:Bool,g=(.bool e)/\qp (!e) (K (Value.tuple #[(Value.pointer none),(Value.int .i64 1)]) d) (qt8 (Addr.mk b 0 none) d K))))):=kr
theorem qJj a w K(h:f16 a w K):q9 P 16 [(Value.agg a)] w K:=qA c16 Tryz.func16 h
def c52:=qm Tryz.f52
def qNw:=Tryz.f52.results.toList
abbrev qxm K:=qr P qNw K
def f52 a w K:=CS P c52 none [2] [2] (qxm K) (qz 14 [(Value.agg a)]) w
def zG a w K:=SG c52 7 [2] [2] (qxm K) 14 [(2,VQ a)] w
theorem qqh:zG a w K=(K (Value.pointer (some a)) w):=kr
theorem qIi:f52 S0 w K=(qv S0 27 w (fun b e=>qU 3 (Addr.mk b 0 none) e.drew (fun a=>∃ c:Int,e.drew.cell? (Addr.mk b 0 none)=some (.int .i64 c)/\∃ d:Int,e.drew.cell? ((Addr.mk b 0 none).add 2)=some (.int .i64 d)/\(yC (.map #[] 0) e.drew (fun l a0=>(∃ (b0:OA) (c0 d0:Nat),∃ p:World,(Instr.makeSlice 106 (Value.int .i64 c) (Value.int .i64 c)).run P a0=.ok (.slice b0 c0 d0) p/\p.cell? ((Addr.mk b 0 none).add 2)=some (.int .i64 d)/\Qz 3 (Addr.mk b 0 none) a p/\(∃ (T0:OA) (U0 V0:Nat),∃ e0:World,(Instr.makeSlice 22 (Value.int .i64 d) (Value.int .i64 d)).run P p=.ok (.slice T0 U0 V0) e0/\Qz 3 (Addr.mk b 0 none) a e0/\yC (.map #[] 0) e0 (fun g3 h3=>∃ W0:Array Value,(∀ wq,(Instr.build 109 #[(0,(Value.agg a)),(1,(Value.map (some l))),(2,(Value.slice b0 c0 d0)),(3,(Value.slice T0 U0 V0)),(4,(Value.map (some g3)))]).run P wq=.ok (.agg W0) wq)/\qv W0 109 h3 (fun i3 j3=>zG (Addr.mk i3 0 none) j3 K)))/\(yC (.map #[] 0) p (fun l3 m3=>∃ (X0:OA) (Y0 Z0:Nat),∃ f0:World,(Instr.makeSlice 22 (Value.int .i64 d) (Value.int .i64 d)).run P m3=.ok (.slice X0 Y0 Z0) f0/\Qz 3 (Addr.mk b 0 none) a f0/\∃ a1:Array Value,(∀ wq,(Instr.build 109 #[(0,(Value.agg a)),(1,(Value.map (some l))),(2,(Value.slice b0 c0 d0)),(3,(Value.slice X0 Y0 Z0)),(4,(Value.map (some l3)))]).run P wq=.ok (.agg a1) wq)/\qv a1 109 f0 (fun n3 o3=>zG (Addr.mk n3 0 none) o3 K))))/\(∃ (g0:OA) (h0 i0:Nat),∃ q:World,(Instr.makeSlice 22 (Value.int .i64 d) (Value.int .i64 d)).run P a0=.ok (.slice g0 h0 i0) q/\q.cell? (Addr.mk b 0 none)=some (.int .i64 c)/\Qz 3 (Addr.mk b 0 none) a q/\(∃ (b1:OA) (c1 d1:Nat),∃ j0:World,(Instr.makeSlice 106 (Value.int .i64 c) (Value.int .i64 c)).run P q=.ok (.slice b1 c1 d1) j0/\Qz 3 (Addr.mk b 0 none) a j0/\yC (.map #[] 0) j0 (fun p3 q3=>∃ e1:Array Value,(∀ wq,(Instr.build 109 #[(0,(Value.agg a)),(1,(Value.map (some l))),(2,(Value.slice b1 c1 d1)),(3,(Value.slice g0 h0 i0)),(4,(Value.map (some p3)))]).run P wq=.ok (.agg e1) wq)/\qv e1 109 q3 (fun r3 s3=>zG (Addr.mk r3 0 none) s3 K)))/\(yC (.map #[] 0) q (fun t3 u3=>∃ (f1:OA) (g1 h1:Nat),∃ l0:World,(Instr.makeSlice 106 (Value.int .i64 c) (Value.int .i64 c)).run P u3=.ok (.slice f1 g1 h1) l0/\Qz 3 (Addr.mk b 0 none) a l0/\∃ i1:Array Value,(∀ wq,(Instr.build 109 #[(0,(Value.agg a)),(1,(Value.map (some l))),(2,(Value.slice f1 g1 h1)),(3,(Value.slice g0 h0 i0)),(4,(Value.map (some t3)))]).run P wq=.ok (.agg i1) wq)/\qv i1 109 l0 (fun v3 x3=>zG (Addr.mk v3 0 none) x3 K))))/\(yC (.map #[] 0) a0 (fun j1 l1=>(∃ (m1:OA) (o1 p1:Nat),∃ t:World,(Instr.makeSlice 106 (Value.int .i64 c) (Value.int .i64 c)).run P l1=.ok (.slice m1 o1 p1) t/\t.cell? ((Addr.mk b 0 none).add 2)=some (.int .i64 d)/\Qz 3 (Addr.mk b 0 none) a t/\∃ (q1:OA) (r1 s1:Nat),∃ m0:World,(Instr.makeSlice 22 (Value.int .i64 d) (Value.int .i64 d)).run P t=.ok (.slice q1 r1 s1) m0/\Qz 3 (Addr.mk b 0 none) a m0/\∃ t1:Array Value,(∀ wq,(Instr.build 109 #[(0,(Value.agg a)),(1,(Value.map (some l))),(2,(Value.slice m1 o1 p1)),(3,(Value.slice q1 r1 s1)),(4,(Value.map (some j1)))]).run P wq=.ok (.agg t1) wq)/\qv t1 109 m0 (fun y3 z3=>zG (Addr.mk y3 0 none) z3 K))/\(∃ (u1:OA) (v1 x1:Nat),∃ u:World,(Instr.makeSlice 22 (Value.int .i64 d) (Value.int .i64 d)).run P l1=.ok (.slice u1 v1 x1) u/\u.cell? (Addr.mk b 0 none)=some (.int .i64 c)/\Qz 3 (Addr.mk b 0 none) a u/\∃ (y1:OA) (z1 A1:Nat),∃ n0:World,(Instr.makeSlice 106 (Value.int .i64 c) (Value.int .i64 c)).run P u=.ok (.slice y1 z1 A1) n0/\Qz 3 (Addr.mk b 0 none) a n0/\∃ B1:Array Value,(∀ wq,(Instr.build 109 #[(0,(Value.agg a)),(1,(Value.map (some l))),(2,(Value.slice y1 z1 A1)),(3,(Value.slice u1 v1 x1)),(4,(Value.map (some j1)))]).run P wq=.ok (.agg B1) wq)/\qv B1 109 n0 (fun A3 B3=>zG (Addr.mk A3 0 none) B3 K))))))/\(∃ (f:OA) (g h:Nat),∃ m:World,(Instr.makeSlice 106 (Value.int .i64 c) (Value.int .i64 c)).run P e.drew=.ok (.slice f g h) m/\m.cell? ((Addr.mk b 0 none).add 2)=some (.int .i64 d)/\Qz 3 (Addr.mk b 0 none) a m/\(yC (.map #[] 0) m (fun C1 D1=>(∃ (E1:OA) (F1 G1:Nat),∃ o0:World,(Instr.makeSlice 22 (Value.int .i64 d) (Value.int .i64 d)).run P D1=.ok (.slice E1 F1 G1) o0/\Qz 3 (Addr.mk b 0 none) a o0/\yC (.map #[] 0) o0 (fun C3 D3=>∃ H1:Array Value,(∀ wq,(Instr.build 109 #[(0,(Value.agg a)),(1,(Value.map (some C1))),(2,(Value.slice f g h)),(3,(Value.slice E1 F1 G1)),(4,(Value.map (some C3)))]).run P wq=.ok (.agg H1) wq)/\qv H1 109 D3 (fun E3 F3=>zG (Addr.mk E3 0 none) F3 K)))/\(yC (.map #[] 0) D1 (fun G3 H3=>∃ (I1:OA) (J1 L1:Nat),∃ p0:World,(Instr.makeSlice 22 (Value.int .i64 d) (Value.int .i64 d)).run P H3=.ok (.slice I1 J1 L1) p0/\Qz 3 (Addr.mk b 0 none) a p0/\∃ M1:Array Value,(∀ wq,(Instr.build 109 #[(0,(Value.agg a)),(1,(Value.map (some C1))),(2,(Value.slice f g h)),(3,(Value.slice I1 J1 L1)),(4,(Value.map (some G3)))]).run P wq=.ok (.agg M1) wq)/\qv M1 109 p0 (fun I3 J3=>zG (Addr.mk I3 0 none) J3 K)))))/\(∃ (q0:OA) (r0 s0:Nat),∃ v:World,(Instr.makeSlice 22 (Value.int .i64 d) (Value.int .i64 d)).run P m=.ok (.slice q0 r0 s0) v/\Qz 3 (Addr.mk b 0 none) a v/\(yC (.map #[] 0) v (fun L3 M3=>yC (.map #[] 0) M3 (fun N3 O3=>∃ N1:Array Value,(∀ wq,(Instr.build 109 #[(0,(Value.agg a)),(1,(Value.map (some L3))),(2,(Value.slice f g h)),(3,(Value.slice q0 r0 s0)),(4,(Value.map (some N3)))]).run P wq=.ok (.agg N1) wq)/\qv N1 109 O3 (fun Q3 R3=>zG (Addr.mk Q3 0 none) R3 K))))/\(yC (.map #[] 0) v (fun S3 T3=>yC (.map #[] 0) T3 (fun U3 V3=>∃ O1:Array Value,(∀ wq,(Instr.build 109 #[(0,(Value.agg a)),(1,(Value.map (some U3))),(2,(Value.slice f g h)),(3,(Value.slice q0 r0 s0)),(4,(Value.map (some S3)))]).run P wq=.ok (.agg O1) wq)/\qv O1 109 V3 (fun W3 X3=>zG (Addr.mk W3 0 none) X3 K)))))/\(yC (.map #[] 0) m (fun Q1 R1=>(yC (.map #[] 0) R1 (fun Y3 Z3=>∃ (S1:OA) (T1 U1:Nat),∃ t0:World,(Instr.makeSlice 22 (Value.int .i64 d) (Value.int .i64 d)).run P Z3=.ok (.slice S1 T1 U1) t0/\Qz 3 (Addr.mk b 0 none) a t0/\∃ V1:Array Value,(∀ wq,(Instr.build 109 #[(0,(Value.agg a)),(1,(Value.map (some Y3))),(2,(Value.slice f g h)),(3,(Value.slice S1 T1 U1)),(4,(Value.map (some Q1)))]).run P wq=.ok (.agg V1) wq)/\qv V1 109 t0 (fun a4 b4=>zG (Addr.mk a4 0 none) b4 K)))/\(∃ (W1:OA) (X1 Y1:Nat),∃ u0:World,(Instr.makeSlice 22 (Value.int .i64 d) (Value.int .i64 d)).run P R1=.ok (.slice W1 X1 Y1) u0/\Qz 3 (Addr.mk b 0 none) a u0/\yC (.map #[] 0) u0 (fun c4 d4=>∃ Z1:Array Value,(∀ wq,(Instr.build 109 #[(0,(Value.agg a)),(1,(Value.map (some c4))),(2,(Value.slice f g h)),(3,(Value.slice W1 X1 Y1)),(4,(Value.map (some Q1)))]).run P wq=.ok (.agg Z1) wq)/\qv Z1 109 d4 (fun e4 f4=>zG (Addr.mk e4 0 none) f4 K))))))/\(∃ (i:OA) (j k:Nat),∃ n:World,(Instr.makeSlice 22 (Value.int .i64 d) (Value.int .i64 d)).run P e.drew=.ok (.slice i j k) n/\n.cell? (Addr.mk b 0 none)=some (.int .i64 c)/\Qz 3 (Addr.mk b 0 none) a n/\(yC (.map #[] 0) n (fun a2 b2=>(∃ (c2:OA) (d2 e2:Nat),∃ v0:World,(Instr.makeSlice 106 (Value.int .i64 c) (Value.int .i64 c)).run P b2=.ok (.slice c2 d2 e2) v0/\Qz 3 (Addr.mk b 0 none) a v0/\yC (.map #[] 0) v0 (fun g4 h4=>∃ f2:Array Value,(∀ wq,(Instr.build 109 #[(0,(Value.agg a)),(1,(Value.map (some a2))),(2,(Value.slice c2 d2 e2)),(3,(Value.slice i j k)),(4,(Value.map (some g4)))]).run P wq=.ok (.agg f2) wq)/\qv f2 109 h4 (fun i4 j4=>zG (Addr.mk i4 0 none) j4 K)))/\(yC (.map #[] 0) b2 (fun l4 m4=>∃ (g2:OA) (h2 i2:Nat),∃ x0:World,(Instr.makeSlice 106 (Value.int .i64 c) (Value.int .i64 c)).run P m4=.ok (.slice g2 h2 i2) x0/\Qz 3 (Addr.mk b 0 none) a x0/\∃ j2:Array Value,(∀ wq,(Instr.build 109 #[(0,(Value.agg a)),(1,(Value.map (some a2))),(2,(Value.slice g2 h2 i2)),(3,(Value.slice i j k)),(4,(Value.map (some l4)))]).run P wq=.ok (.agg j2) wq)/\qv j2 109 x0 (fun n4 o4=>zG (Addr.mk n4 0 none) o4 K)))))/\(∃ (y0:OA) (z0 A0:Nat),∃ x:World,(Instr.makeSlice 106 (Value.int .i64 c) (Value.int .i64 c)).run P n=.ok (.slice y0 z0 A0) x/\Qz 3 (Addr.mk b 0 none) a x/\(yC (.map #[] 0) x (fun p4 q4=>yC (.map #[] 0) q4 (fun r4 s4=>∃ l2:Array Value,(∀ wq,(Instr.build 109 #[(0,(Value.agg a)),(1,(Value.map (some p4))),(2,(Value.slice y0 z0 A0)),(3,(Value.slice i j k)),(4,(Value.map (some r4)))]).run P wq=.ok (.agg l2) wq)/\qv l2 109 s4 (fun t4 u4=>zG (Addr.mk t4 0 none) u4 K))))/\(yC (.map #[] 0) x (fun v4 y4=>yC (.map #[] 0) y4 (fun z4 A4=>∃ m2:Array Value,(∀ wq,(Instr.build 109 #[(0,(Value.agg a)),(1,(Value.map (some z4))),(2,(Value.slice y0 z0 A0)),(3,(Value.slice i j k)),(4,(Value.map (some v4)))]).run P wq=.ok (.agg m2) wq)/\qv m2 109 A4 (fun B4 C4=>zG (Addr.mk B4 0 none) C4 K)))))/\(yC (.map #[] 0) n (fun n2 o2=>(yC (.map #[] 0) o2 (fun D4 E4=>∃ (p2:OA) (q2 r2:Nat),∃ B0:World,(Instr.makeSlice 106 (Value.int .i64 c) (Value.int .i64 c)).run P E4=.ok (.slice p2 q2 r2) B0/\Qz 3 (Addr.mk b 0 none) a B0/\∃ s2:Array Value,(∀ wq,(Instr.build 109 #[(0,(Value.agg a)),(1,(Value.map (some D4))),(2,(Value.slice p2 q2 r2)),(3,(Value.slice i j k)),(4,(Value.map (some n2)))]).run P wq=.ok (.agg s2) wq)/\qv s2 109 B0 (fun F4 G4=>zG (Addr.mk F4 0 none) G4 K)))/\(∃ (t2:OA) (u2 v2:Nat),∃ C0:World,(Instr.makeSlice 106 (Value.int .i64 c) (Value.int .i64 c)).run P o2=.ok (.slice t2 u2 v2) C0/\Qz 3 (Addr.mk b 0 none) a C0/\yC (.map #[] 0) C0 (fun H4 I4=>∃ x2:Array Value,(∀ wq,(Instr.build 109 #[(0,(Value.agg a)),(1,(Value.map (some H4))),(2,(Value.slice t2 u2 v2)),(3,(Value.slice i j k)),(4,(Value.map (some n2)))]).run P wq=.ok (.agg x2) wq)/\qv x2 109 I4 (fun J4 L4=>zG (Addr.mk J4 0 none) L4 K))))))/\(yC (.map #[] 0) e.drew (fun o D0=>(yC (.map #[] 0) D0 (fun y2 z2=>(∃ (A2:OA) (B2 C2:Nat),∃ y:World,(Instr.makeSlice 106 (Value.int .i64 c) (Value.int .i64 c)).run P z2=.ok (.slice A2 B2 C2) y/\y.cell? ((Addr.mk b 0 none).add 2)=some (.int .i64 d)/\Qz 3 (Addr.mk b 0 none) a y/\∃ (D2:OA) (E2 F2:Nat),∃ E0:World,(Instr.makeSlice 22 (Value.int .i64 d) (Value.int .i64 d)).run P y=.ok (.slice D2 E2 F2) E0/\Qz 3 (Addr.mk b 0 none) a E0/\∃ G2:Array Value,(∀ wq,(Instr.build 109 #[(0,(Value.agg a)),(1,(Value.map (some y2))),(2,(Value.slice A2 B2 C2)),(3,(Value.slice D2 E2 F2)),(4,(Value.map (some o)))]).run P wq=.ok (.agg G2) wq)/\qv G2 109 E0 (fun M4 N4=>zG (Addr.mk M4 0 none) N4 K))/\(∃ (H2:OA) (I2 J2:Nat),∃ z:World,(Instr.makeSlice 22 (Value.int .i64 d) (Value.int .i64 d)).run P z2=.ok (.slice H2 I2 J2) z/\z.cell? (Addr.mk b 0 none)=some (.int .i64 c)/\Qz 3 (Addr.mk b 0 none) a z/\∃ (L2:OA) (M2 N2:Nat),∃ F0:World,(Instr.makeSlice 106 (Value.int .i64 c) (Value.int .i64 c)).run P z=.ok (.slice L2 M2 N2) F0/\Qz 3 (Addr.mk b 0 none) a F0/\∃ O2:Array Value,(∀ wq,(Instr.build 109 #[(0,(Value.agg a)),(1,(Value.map (some y2))),(2,(Value.slice L2 M2 N2)),(3,(Value.slice H2 I2 J2)),(4,(Value.map (some o)))]).run P wq=.ok (.agg O2) wq)/\qv O2 109 F0 (fun O4 Q4=>zG (Addr.mk O4 0 none) Q4 K))))/\(∃ (G0:OA) (H0 I0:Nat),∃ r:World,(Instr.makeSlice 106 (Value.int .i64 c) (Value.int .i64 c)).run P D0=.ok (.slice G0 H0 I0) r/\r.cell? ((Addr.mk b 0 none).add 2)=some (.int .i64 d)/\Qz 3 (Addr.mk b 0 none) a r/\(yC (.map #[] 0) r (fun R4 S4=>∃ (Q2:OA) (R2 S2:Nat),∃ J0:World,(Instr.makeSlice 22 (Value.int .i64 d) (Value.int .i64 d)).run P S4=.ok (.slice Q2 R2 S2) J0/\Qz 3 (Addr.mk b 0 none) a J0/\∃ T2:Array Value,(∀ wq,(Instr.build 109 #[(0,(Value.agg a)),(1,(Value.map (some R4))),(2,(Value.slice G0 H0 I0)),(3,(Value.slice Q2 R2 S2)),(4,(Value.map (some o)))]).run P wq=.ok (.agg T2) wq)/\qv T2 109 J0 (fun T4 U4=>zG (Addr.mk T4 0 none) U4 K)))/\(∃ (U2:OA) (V2 W2:Nat),∃ L0:World,(Instr.makeSlice 22 (Value.int .i64 d) (Value.int .i64 d)).run P r=.ok (.slice U2 V2 W2) L0/\Qz 3 (Addr.mk b 0 none) a L0/\yC (.map #[] 0) L0 (fun V4 W4=>∃ X2:Array Value,(∀ wq,(Instr.build 109 #[(0,(Value.agg a)),(1,(Value.map (some V4))),(2,(Value.slice G0 H0 I0)),(3,(Value.slice U2 V2 W2)),(4,(Value.map (some o)))]).run P wq=.ok (.agg X2) wq)/\qv X2 109 W4 (fun X4 Y4=>zG (Addr.mk X4 0 none) Y4 K))))/\(∃ (M0:OA) (N0 O0:Nat),∃ s:World,(Instr.makeSlice 22 (Value.int .i64 d) (Value.int .i64 d)).run P D0=.ok (.slice M0 N0 O0) s/\s.cell? (Addr.mk b 0 none)=some (.int .i64 c)/\Qz 3 (Addr.mk b 0 none) a s/\(yC (.map #[] 0) s (fun Z4 a5=>∃ (Y2:OA) (Z2 a3:Nat),∃ Q0:World,(Instr.makeSlice 106 (Value.int .i64 c) (Value.int .i64 c)).run P a5=.ok (.slice Y2 Z2 a3) Q0/\Qz 3 (Addr.mk b 0 none) a Q0/\∃ b3:Array Value,(∀ wq,(Instr.build 109 #[(0,(Value.agg a)),(1,(Value.map (some Z4))),(2,(Value.slice Y2 Z2 a3)),(3,(Value.slice M0 N0 O0)),(4,(Value.map (some o)))]).run P wq=.ok (.agg b3) wq)/\qv b3 109 Q0 (fun b5 c5=>zG (Addr.mk b5 0 none) c5 K)))/\(∃ (c3:OA) (d3 e3:Nat),∃ R0:World,(Instr.makeSlice 106 (Value.int .i64 c) (Value.int .i64 c)).run P s=.ok (.slice c3 d3 e3) R0/\Qz 3 (Addr.mk b 0 none) a R0/\yC (.map #[] 0) R0 (fun d5 e5=>∃ f3:Array Value,(∀ wq,(Instr.build 109 #[(0,(Value.agg a)),(1,(Value.map (some d5))),(2,(Value.slice c3 d3 e3)),(3,(Value.slice M0 N0 O0)),(4,(Value.map (some o)))]).run P wq=.ok (.agg f3) wq)/\qv f3 109 e5 (fun f5 g5=>zG (Addr.mk f5 0 none) g5 K))))))))):=kr
theorem qIk a w K(h:f52 a w K):q9 P 52 [(Value.agg a)] w K:=qA c52 Tryz.func52 h
def c58:=qm Tryz.f58
def qNk:=Tryz.f58.results.toList
abbrev qhD K:=qr P qNk K
def f58 a b w K:=CS P c58 none [4] [4] (qhD K) (qz 32 [(VP a),(VI b)]) w
abbrev qKr K:=kq c58 7 [4] [4] (qhD K)
abbrev qvg K:=qo 0 (qKr K)
def qDM K Y0 e w:=zt (fun e w=>CS P (cA c58 116) none [16,0,5,14,4,15] [4,5] (qu [16,0,5,14,4,15] Y0 (qvg K)) e w) e w
abbrev q5C K Y0:=qu [16,0,5,14,4,15] Y0 (qvg K)
def qjo a b c d f g h i w K Y0:=SG c58 116 [16,0,5,14,4,15] [4,5] (q5C K Y0) 32 [(16,VI a),(0,VP b),(5,VI c),(14,VS d f g),(4,VI h),(15,VI i)] w
def qtU a b c d f g h i w K Y0:=SG c58 467 [16,0,5,14,4,15] [4,5] (q5C K Y0) 32 [(0,VP a),(14,VS b c d),(4,VI f),(15,VI g),(16,VI h),(5,VI i)] w
def qsx a b c d f g h i w K Y0:=SG c58 935 [16,0,5,14,4,15] [4,5] (q5C K Y0) 32 [(0,VP a),(5,VI b),(14,VS c d f),(4,VI g),(15,VI h),(16,VI i)] w
theorem qrc:qsx a b c d e f g h w K Y0=(Y0 (qi.mk 32 [(16,(Value.int .i64 (IntKind.wrap .i64 (h+1)))),(0,(Value.pointer a)),(5,(Value.int .i64 b)),(14,(Value.slice c d e)),(4,(Value.int .i64 f)),(15,(Value.int .i64 g))] []) w):=kr
theorem qs0:qtU b c d e f g a h w K Y0=(qh c (fun m=>0<=a/\a<(d:Nat)/\∃ i:Int,w.cell? (m.add (Int.toNat a*1))=some (.int .u32 i)/\qh b (fun n=>∃ j:Option Nat,w.cell? (n.add 3)=some (.map j)/\∃ k:Array Value,(∀ wq,vB w wq->(Instr.lookup 105 (Value.map j) (Value.int .u32 i) false).run P wq=.ok (.agg k) wq)/\∃ (o:OA) (l p:Nat),k[2]?=some (.slice o l p)/\qsx b (IntKind.wrap .i64 (h+((l:Nat):Int))) c d e f g a w K Y0))):=kr
def qva a w K:=SG c58 15 [4] [4] (qhD K) 32 [(5,VI a)] w
theorem qqu:qva a w K=(K (Value.int .i64 a) w):=kr
theorem qhH:qjo a d b e f g h c w K Y0=(qp (decide (a<c)) (qtU d e f g h c a b w K Y0) (qva b w K)):=kr
theorem qKe:f58 b a w K=(qh b (fun h=>∃ (d:OA) (e i:Nat),w.cell? (h.add 4)=some (.slice d e i)/\qh d (fun j=>0<=a/\a<(e:Nat)/\∃ (f:OA) (c g:Nat),w.cell? (j.add (Int.toNat a*1))=some (.slice f c g)/\qK (qDM K) (qi.mk 32 [(16,(Value.int .i64 0)),(0,(Value.pointer b)),(5,(Value.int .i64 0)),(14,(Value.slice f c g)),(4,(Value.int .i64 0)),(15,(Value.int .i64 ((c:Nat):Int)))] []) w))):=kr
theorem qFS a b w K(h:f58 a b w K):q9 P 58 [(Value.pointer a),(Value.int .i64 b)] w K:=qA c58 Tryz.func58 h
def yi:=qm Tryz.f60
def qNm:=Tryz.f60.results.toList
abbrev ve K:=qr P qNm K
def f60 a b c d w K:=CS P yi none [4] [4] (ve K) (qz 92 [(VP a),(VS b c d)]) w
def quP a b c d w K:=SC yi 1 [4] [4] (ve K) 92 [(0,VP a),(1,VS b c d)] w
abbrev qGR K:=kq yi 1 [4] [4] (ve K)
def qxr a b c d e f g w K:=SC yi 3 [4] [4] (ve K) 92 [(4,VS a b c),(0,VP d),(1,VS e f g)] w
abbrev qHe K:=kq yi 3 [4] [4] (ve K)
def qxD a b c d e f g h i j k l m n o p w K:=SC yi 7 [4] [4] (ve K) 92 [(5,VS a b c),(14,VS d e f),(13,VS g h i),(4,VS j k l),(0,VP m),(1,VS n o p)] w
abbrev qJ6 K:=kq yi 7 [4] [4] (ve K)
def qvk a b c d e f g h i j k l m n o p q r s w K:=SC yi 15 [4] [4] (ve K) 92 [(16,Value.tuple #[]),(15,VS a b c),(5,VS d e f),(14,VS g h i),(13,VS j k l),(4,VS m n o),(0,VP p),(1,VS q r s)] w
abbrev q3q K:=kq yi 15 [4] [4] (ve K)
abbrev qGX K:=kq yi 30 [5] [4] (q3q K)
def quC a b c d e f g h i j k l m n o p q r s t u v x y w K:=SC yi 61 [5] [4] (q3q K) 92 [(19,VI a),(18,VI b),(17,VS c d e),(16,Value.tuple #[]),(15,VS f g h),(5,VS i j k),(14,VS l m n),(13,VS o p q),(4,VS r s t),(0,VP u),(1,VS v x y)] w
abbrev qfW K:=qo 0 (q3q K)
def qDX K Y5 e w:=zt (fun e w=>CS P (cA yi 244) none [0,4,5,19,17,18] [4,5] (qu [0,4,5,19,17,18] Y5 (qfW K)) e w) e w
abbrev Qo K Y5:=qu [0,4,5,19,17,18] Y5 (qfW K)
def qnw a b c d f g h i j k l m w K Y5:=SG yi 244 [0,4,5,19,17,18] [4,5] (Qo K Y5) 92 [(0,VP a),(4,VS b c d),(5,VS f g h),(19,VI i),(17,VS j k l),(18,VI m)] w
abbrev qJJ K Y5:=kq yi 244 [0,4,5,19,17,18] [4,5] (Qo K Y5)
def qu3 a b c d e f g h i j k l m w K Y5:=SC yi 489 [0,4,5,19,17,18] [4,5] (Qo K Y5) 92 [(20,VB a),(0,VP b),(4,VS c d e),(5,VS f g h),(19,VI i),(17,VS j k l),(18,VI m)] w
abbrev qHR K Y5:=kq yi 489 [0,4,5,19,17,18] [4,5] (Qo K Y5)
def qwV a b c d f g h i j k l m w K Y5:=SG yi 979 [0,4,5,19,17,18] [4,5] (Qo K Y5) 92 [(0,VP a),(4,VS b c d),(5,VS f g h),(17,VS i j k),(18,VI l),(19,VI m)] w
abbrev qw5 K Y5:=kq yi 979 [0,4,5,19,17,18] [4,5] (Qo K Y5)
abbrev vV K Y5:=qo 1 (qw5 K Y5)
abbrev qEB K Y5:=kq yi 3916 [0,4,5,17,18,19] [4,5,0,17,18,19] (vV K Y5)
def qfb a b c d e f g h i j k l m n o w K Y5:=SC yi 7833 [0,4,5,17,18,19] [4,5,0,17,18,19] (vV K Y5) 92 [(7,VQ a),(22,Value.int .u32 b),(21,VQ c),(0,VP d),(4,VS e f g),(5,VS h i j),(17,VS k l m),(18,VI n),(19,VI o)] w
abbrev q12 K Y5:=kq yi 7833 [0,4,5,17,18,19] [4,5,0,17,18,19] (vV K Y5)
abbrev qBk K Y5:=kq yi 15666 [7,0,4,5,17,18,19] [4,5,0,17,18,19] (q12 K Y5)
def qhj a b c d f g h i j k l m n o w K Y5:=SG yi 31333 [7,0,4,5,17,18,19] [4,5,0,17,18,19] (q12 K Y5) 92 [(7,VQ a),(0,VP b),(30,VQ c),(4,VS d f g),(5,VS h i j),(17,VS k l m),(18,VI n),(19,VI o)] w
abbrev q7B K Y5:=qo 2 (q12 K Y5)
def qwE K Y5 Y10 e w:=zt (fun e w=>CS P (cA yi 125332) none [7,0,30,4,5,17,18,19] [4,5,0,17,18,19,7] (qu [7,0,30,4,5,17,18,19] Y10 (q7B K Y5)) e w) e w
abbrev vH K Y5 Y10:=qu [7,0,30,4,5,17,18,19] Y10 (q7B K Y5)
def Vm a b c d f g h i j k l m n o w K Y5 Y10:=SG yi 125332 [7,0,30,4,5,17,18,19] [4,5,0,17,18,19,7] (vH K Y5 Y10) 92 [(7,VQ a),(0,VP b),(30,VQ c),(4,VS d f g),(5,VS h i j),(17,VS k l m),(18,VI n),(19,VI o)] w
abbrev qza K Y5 Y10:=kq yi 125332 [7,0,30,4,5,17,18,19] [4,5,0,17,18,19,7] (vH K Y5 Y10)
def qo3 a b c d e f g h i j k l m n o w K Y5 Y10:=SC yi 250665 [7,0,30,4,5,17,18,19] [4,5,0,17,18,19,7] (vH K Y5 Y10) 92 [(32,VB false),(31,(Value.tuple #[(VB a)])),(7,VQ b),(0,VP c),(30,VQ d),(4,VS e f g),(5,VS h i j),(17,VS k l m),(18,VI n),(19,VI o)] w
abbrev qnv K Y5 Y10:=kq yi 250665 [7,0,30,4,5,17,18,19] [4,5,0,17,18,19,7] (vH K Y5 Y10)
def J9 a b c d f g h i j k l m n w K Y5:=SG yi 15667 [0,4,5,17,18,19] [4,5,0,17,18,19] (vV K Y5) 92 [(7,VQ a),(0,VP b),(4,VS c d f),(5,VS g h i),(17,VS j k l),(18,VI m),(19,VI n)] w
abbrev Vn K Y5:=kq yi 15667 [0,4,5,17,18,19] [4,5,0,17,18,19] (vV K Y5)
abbrev qzC K Y5:=kq yi 31334 [7,0,4,5,17,18,19] [4,5,0,17,18,19] (Vn K Y5)
def qkl a b c d e f g h i j k l m n o p q r s t w K Y5:=SC yi 62669 [7,0,4,5,17,18,19] [4,5,0,17,18,19] (Vn K Y5) 92 [(46,VI a),(45,VI b),(44,VS c d e),(43,Value.int .u32 f),(42,VP g),(7,VQ h),(0,VP i),(4,VS j k l),(5,VS m n o),(17,VS p q r),(18,VI s),(19,VI t)] w
abbrev q58 K Y5:=qo 4 (Vn K Y5)
def qyo K Y5 Y14 e w:=zt (fun e w=>CS P (cA yi 250676) none [46,7,0,44,4,5,17,18,19,45] [4,5,0,17,18,19,7] (qu [46,7,0,44,4,5,17,18,19,45] Y14 (q58 K Y5)) e w) e w
abbrev jj K Y5 Y14:=qu [46,7,0,44,4,5,17,18,19,45] Y14 (q58 K Y5)
def q8w a b c d f g h i j k l m n o p q r s w K Y5 Y14:=SG yi 250676 [46,7,0,44,4,5,17,18,19,45] [4,5,0,17,18,19,7] (jj K Y5 Y14) 92 [(46,VI a),(7,VQ b),(0,VP c),(44,VS d f g),(4,VS h i j),(5,VS k l m),(17,VS n o p),(18,VI q),(19,VI r),(45,VI s)] w
abbrev qAN K Y5 Y14:=kq yi 250676 [46,7,0,44,4,5,17,18,19,45] [4,5,0,17,18,19,7] (jj K Y5 Y14)
def qll a b c d e f g h i j k l m n o p q r s w K Y5 Y14:=SC yi 501353 [46,7,0,44,4,5,17,18,19,45] [4,5,0,17,18,19,7] (jj K Y5 Y14) 92 [(47,VB a),(46,VI b),(7,VQ c),(0,VP d),(44,VS e f g),(4,VS h i j),(5,VS k l m),(17,VS n o p),(18,VI q),(19,VI r),(45,VI s)] w
abbrev qA5 K Y5 Y14:=kq yi 501353 [46,7,0,44,4,5,17,18,19,45] [4,5,0,17,18,19,7] (jj K Y5 Y14)
def qlk a b c d f g h i j k l m n o p q r s w K Y5 Y14:=SG yi 1002707 [46,7,0,44,4,5,17,18,19,45] [4,5,0,17,18,19,7] (jj K Y5 Y14) 92 [(7,VQ a),(0,VP b),(44,VS c d f),(4,VS g h i),(5,VS j k l),(17,VS m n o),(18,VI p),(19,VI q),(45,VI r),(46,VI s)] w
abbrev qkr K Y5 Y14:=kq yi 1002707 [46,7,0,44,4,5,17,18,19,45] [4,5,0,17,18,19,7] (jj K Y5 Y14)
abbrev qjZ K Y5 Y14:=qo 5 (qkr K Y5 Y14)
abbrev qD2 K Y5 Y14:=kq yi 4010828 [7,0,44,4,5,17,18,19,45,46] [4,5,0,17,18,19,7,44,45,46] (qjZ K Y5 Y14)
def q0W a b c d f g h i j k l m n o p q r s w K Y5 Y14:=SG yi 2005415 [46,7,0,44,4,5,17,18,19,45] [4,5,0,17,18,19,7] (jj K Y5 Y14) 92 [(7,VQ a),(0,VP b),(44,VS c d f),(4,VS g h i),(5,VS j k l),(17,VS m n o),(18,VI p),(19,VI q),(45,VI r),(46,VI s)] w
theorem qdz:q0W a c d e f g h i j k l m n o p q r s w K Y5 Y14=(Y14 (qi.mk 92 [(46,(Value.int .i64 (IntKind.wrap .i64 (s+1)))),(7,(Value.pointer (some a))),(0,(Value.pointer c)),(44,(Value.slice d e f)),(4,(Value.slice g h i)),(5,(Value.slice j k l)),(17,(Value.slice m n o)),(18,(Value.int .i64 p)),(19,(Value.int .i64 q)),(45,(Value.int .i64 r))] []) w):=qB kr
theorem qid:qlk d e f g h i j k l m n o p q r s t c w K Y5 Y14=(qh f (fun c0=>0<=c/\c<(g:Nat)/\qU 5 (c0.add (Int.toNat c*5)) w (fun d0=>qv (qx P 62) 62 w (fun v e0=>zT 5 (Addr.mk v 0 none) d0 e0 (fun u=>∃ x:Int,u.cell? ((Addr.mk v 0 none).add 4)=some (.int .u32 x)/\qp (x != 0) (∃ y:Int,u.cell? d=some (.int .u32 y)/\∃ z:Int,u.cell? ((Addr.mk v 0 none).add 1)=some (.int .i64 z)/\∃ a0:Array Value,(∀ wq,(Instr.build 142 #[(0,(Value.int .u32 y)),(1,(Value.int .i64 z))]).run P wq=.ok (.agg a0) wq)/\∃ b0:Int,u.cell? ((Addr.mk v 0 none).add 4)=some (.int .u32 b0)/\q9 P 82 [(Value.pointer e),(Value.agg a0),(Value.int .u32 b0)] u (fun f0 g0=>f0=(.tuple #[])/\q0W d e f g h i j k l m n o p q r s t c g0 K Y5 Y14)) (q0W d e f g h i j k l m n o p q r s t c u K Y5 Y14)))))):=qB (qG [7,0,44,4,5,17,18,19,45,46] (qkr K Y5 Y14) (Q8 5 [4,5,0,17,18,19,7,44,45,46] (qjZ K Y5 Y14) (qG [7,0,44,4,5,17,18,19,45,46,10] (qD2 K Y5 Y14) kr)))
def q18 a b c d f g h i j k l m n w K Y5:=SG yi 31335 [0,4,5,17,18,19] [4,5,0,17,18,19] (vV K Y5) 92 [(7,VQ a),(0,VP b),(4,VS c d f),(5,VS g h i),(17,VS j k l),(18,VI m),(19,VI n)] w
abbrev qDd K Y5:=kq yi 31335 [0,4,5,17,18,19] [4,5,0,17,18,19] (vV K Y5)
def q5h a b c d e f g h i j k l m n o w K Y5:=SC yi 62671 [0,4,5,17,18,19] [4,5,0,17,18,19] (vV K Y5) 92 [(64,Value.tuple #[]),(63,Value.int .u32 a),(62,VP b),(7,VQ c),(0,VP d),(4,VS e f g),(5,VS h i j),(17,VS k l m),(18,VI n),(19,VI o)] w
abbrev J5 K Y5:=kq yi 62671 [0,4,5,17,18,19] [4,5,0,17,18,19] (vV K Y5)
abbrev qyZ K Y5:=kq yi 125342 [0,4,5,17,18,19,7] [4,5,0,17,18,19] (J5 K Y5)
def qlR a b c d e f g h i j k l m n o p q r s t u v x w K Y5:=SC yi 250685 [0,4,5,17,18,19,7] [4,5,0,17,18,19] (J5 K Y5) 92 [(70,VI a),(69,VI b),(68,VS c d e),(67,VQ f),(66,VQ g),(65,VP h),(64,Value.tuple #[]),(63,Value.int .u32 i),(62,VP j),(7,VQ k),(0,VP l),(4,VS m n o),(5,VS p q r),(17,VS s t u),(18,VI v),(19,VI x)] w
abbrev q7e K Y5:=qo 6 (J5 K Y5)
def qy8 K Y5 Y21 e w:=zt (fun e w=>CS P (cA yi 1002740) none [70,7,0,68,4,5,17,18,19,69] [4,5,0,17,18,19,7] (qu [70,7,0,68,4,5,17,18,19,69] Y21 (q7e K Y5)) e w) e w
abbrev jh K Y5 Y21:=qu [70,7,0,68,4,5,17,18,19,69] Y21 (q7e K Y5)
def qa4 a b c d f g h i j k l m n o p q r s w K Y5 Y21:=SG yi 1002740 [70,7,0,68,4,5,17,18,19,69] [4,5,0,17,18,19,7] (jh K Y5 Y21) 92 [(70,VI a),(7,VQ b),(0,VP c),(68,VS d f g),(4,VS h i j),(5,VS k l m),(17,VS n o p),(18,VI q),(19,VI r),(69,VI s)] w
abbrev qzr K Y5 Y21:=kq yi 1002740 [70,7,0,68,4,5,17,18,19,69] [4,5,0,17,18,19,7] (jh K Y5 Y21)
def qo8 a b c d e f g h i j k l m n o p q r s w K Y5 Y21:=SC yi 2005481 [70,7,0,68,4,5,17,18,19,69] [4,5,0,17,18,19,7] (jh K Y5 Y21) 92 [(71,VB a),(70,VI b),(7,VQ c),(0,VP d),(68,VS e f g),(4,VS h i j),(5,VS k l m),(17,VS n o p),(18,VI q),(19,VI r),(69,VI s)] w
abbrev qEI K Y5 Y21:=kq yi 2005481 [70,7,0,68,4,5,17,18,19,69] [4,5,0,17,18,19,7] (jh K Y5 Y21)
def qnz a b c d f g h i j k l m n o p q r s w K Y5 Y21:=SG yi 4010963 [70,7,0,68,4,5,17,18,19,69] [4,5,0,17,18,19,7] (jh K Y5 Y21) 92 [(7,VQ a),(0,VP b),(68,VS c d f),(4,VS g h i),(5,VS j k l),(17,VS m n o),(18,VI p),(19,VI q),(69,VI r),(70,VI s)] w
abbrev qjT K Y5 Y21:=kq yi 4010963 [70,7,0,68,4,5,17,18,19,69] [4,5,0,17,18,19,7] (jh K Y5 Y21)
abbrev qmm K Y5 Y21:=qo 7 (qjT K Y5 Y21)
abbrev qD9 K Y5 Y21:=kq yi 16043852 [7,0,68,4,5,17,18,19,69,70] [4,5,0,17,18,19,7,68,69,70] (qmm K Y5 Y21)
def ql2 a b c d f g h i j k l m n o p q r s w K Y5 Y21:=SG yi 8021927 [70,7,0,68,4,5,17,18,19,69] [4,5,0,17,18,19,7] (jh K Y5 Y21) 92 [(7,VQ a),(0,VP b),(68,VS c d f),(4,VS g h i),(5,VS j k l),(17,VS m n o),(18,VI p),(19,VI q),(69,VI r),(70,VI s)] w
theorem qg2:ql2 a c d e f g h i j k l m n o p q r s w K Y5 Y21=(Y21 (qi.mk 92 [(70,(Value.int .i64 (IntKind.wrap .i64 (s+1)))),(7,(Value.pointer (some a))),(0,(Value.pointer c)),(68,(Value.slice d e f)),(4,(Value.slice g h i)),(5,(Value.slice j k l)),(17,(Value.slice m n o)),(18,(Value.int .i64 p)),(19,(Value.int .i64 q)),(69,(Value.int .i64 r))] []) w):=qB kr
theorem qdR:qnz d e f g h i j k l m n o p q r s t c w K Y5 Y21=(qh f (fun g0=>0<=c/\c<(g:Nat)/\∃ (x:OA) (y z:Nat),w.cell? (g0.add (Int.toNat c*1))=some (.slice x y z)/\qh e (fun a0=>∃ (u:OA) (v b0:Nat),w.drew.cell? (a0.add 4)=some (.slice u v b0)/\q9 P 104 [(Value.slice x y z),(Value.func (.func 105) #[] #[(Value.pointer (some d))])] w.drew (fun h0 c0=>∃ (d0:OA) (e0 f0:Nat),h0=(.slice d0 e0 f0)/\c0.cell? (a0.add 4)=some (.slice u v b0)/\qh u (fun i0=>0<=c/\c<(v:Nat)/\zW (i0.add (Int.toNat c*1)) (Value.slice d0 e0 f0) c0 (fun j0=>ql2 d e f g h i j k l m n o p q r s t c j0 K Y5 Y21)))))):=qB (qG [7,0,68,4,5,17,18,19,69,70] (qjT K Y5 Y21) (Q8 7 [4,5,0,17,18,19,7,68,69,70] (qmm K Y5 Y21) (qG [7,0,68,4,5,17,18,19,69,70,12,11] (qD9 K Y5 Y21) kr)))
def q6X a b c d f g h i j k l m n w K Y5:=SG yi 125343 [0,4,5,17,18,19] [4,5,0,17,18,19] (vV K Y5) 92 [(0,VP a),(4,VS b c d),(5,VS f g h),(17,VS i j k),(18,VI l),(19,VI m),(7,VQ n)] w
def qnb a b c d f g h i j k l m w K Y5:=SG yi 1959 [0,4,5,19,17,18] [4,5] (Qo K Y5) 92 [(0,VP a),(4,VS b c d),(5,VS f g h),(17,VS i j k),(18,VI l),(19,VI m)] w
theorem qda:qnb a c d e f g h i j k l m w K Y5=(Y5 (qi.mk 92 [(0,(Value.pointer a)),(4,(Value.slice c d e)),(5,(Value.slice f g h)),(19,(Value.int .i64 (IntKind.wrap .i64 (m+1)))),(17,(Value.slice i j k)),(18,(Value.int .i64 l))] []) w):=qB kr
theorem qg7:q6X a c d e f g h i j k l m n w K Y5=(qh a (fun r=>∃ o:Option Nat,w.drew.cell? (r.add 3)=some (.map o)/\∃ p:Int,w.drew.cell? n=some (.int .u32 p)/\∃ q:World,(Builtin.delete_ #[105,24] 0 #[(Value.map o),(Value.int .u32 p)]).run P w.drew=.ok (.tuple #[]) q/\qnb a c d e f g h i j k l m q K Y5)):=qB kr
theorem qiW:qo8 p q c d r s t e f g h i j k l m n o u w K Y5 Y21=(qp p (qnz c d r s t e f g h i j k l m n o u q w K Y5 Y21) (q6X d e f g h i j k l m n o c w K Y5)):=Eq.trans (b:=CS P (cA yi 2005481) none [70,7,0,68,4,5,17,18,19,69] [4,5,0,17,18,19,7] (jh K Y5 Y21) (qi.mk 92 [(71,(VB p)),(70,(VI q)),(7,(VP (some c))),(0,(VP d)),(68,(VS r s t)),(4,(VS e f g)),(5,(VS h i j)),(17,(VS k l m)),(18,(VI n)),(19,(VI o)),(69,(VI u))] []) w) kr (Eq.trans (qZ [7,0,68,4,5,17,18,19,69,70] (qEI K Y5 Y21) kr) kr)
theorem q8k:qa4 c e f g h i j k l m n o p q r s t d w K Y5 Y21=(qo8 (decide (c<d)) c e f g h i j k l m n o p q r s t d w K Y5 Y21):=qB (qG [71,7,0,68,4,5,17,18,19,69,70] (qzr K Y5 Y21) kr)
theorem qhy:qlR a c d e f t u v x y g h i j k l m n o p q r s w K Y5=(qK (qy8 K Y5) (qi.mk 92 [(70,(Value.int .i64 a)),(7,(Value.pointer (some g))),(0,(Value.pointer h)),(68,(Value.slice d e f)),(4,(Value.slice i j k)),(5,(Value.slice l m n)),(17,(Value.slice o p q)),(18,(Value.int .i64 r)),(19,(Value.int .i64 s)),(69,(Value.int .i64 c))] []) w):=Eq.trans (b:=CS P (cA yi 250685) none [0,4,5,17,18,19,7] [4,5,0,17,18,19] (J5 K Y5) (qi.mk 92 [(70,(VI a)),(69,(VI c)),(68,(VS d e f)),(67,(VP (some t))),(66,(VP (some u))),(65,(VP v)),(64,(Value.tuple #[])),(63,(Value.int .u32 x)),(62,(VP y)),(7,(VP (some g))),(0,(VP h)),(4,(VS i j k)),(5,(VS l m n)),(17,(VS o p q)),(18,(VI r)),(19,(VI s))] []) w) kr (Eq.trans (Zc 6 [4,5,0,17,18,19,7] (q7e K Y5) kr) ((qS (b:=(cA yi 1002740)) (X':=[4,5,0,17,18,19,7]) (H:=[70,7,0,68,4,5,17,18,19,69]) kr kr kr).trans kr))
theorem qiT:q5h d e f c g h i j k l m n o p q w K Y5=(qh c (fun r=>∃ (t:OA) (s u:Nat),w.cell? (r.add 4)=some (.slice t s u)/\qlR 0 ((s:Nat):Int) t s u (r.add 4) r c d e f c g h i j k l m n o p q w K Y5)):=Eq.trans (b:=CS P (cA yi 62671) none [0,4,5,17,18,19] [4,5,0,17,18,19] (vV K Y5) (qi.mk 92 [(64,(Value.tuple #[])),(63,(Value.int .u32 d)),(62,(VP e)),(7,(VP (some f))),(0,(VP c)),(4,(VS g h i)),(5,(VS j k l)),(17,(VS m n o)),(18,(VI p)),(19,(VI q))] []) w) kr (Eq.trans (qZ [0,4,5,17,18,19,7] (J5 K Y5) kr) (Eq.trans (qZ [70,7,0,68,4,5,17,18,19,69] (qyZ K Y5) kr) kr))
theorem qh6:q18 d c e f g h i j k l m n o w K Y5=(∃ p:Int,w.cell? d=some (.int .u32 p)/\q9 P 103 [(Value.pointer c),(Value.int .u32 p)] w (fun q r=>q=(.tuple #[])/\q5h p c d c e f g h i j k l m n o r K Y5)):=qB (qG [7,0,4,5,17,18,19] (qDd K Y5) kr)
theorem qej:qll p q c d r s t e f g h i j k l m n o u w K Y5 Y14=(qp p (qlk c d r s t e f g h i j k l m n o u q w K Y5 Y14) (q18 c d e f g h i j k l m n o w K Y5)):=Eq.trans (b:=CS P (cA yi 501353) none [46,7,0,44,4,5,17,18,19,45] [4,5,0,17,18,19,7] (jj K Y5 Y14) (qi.mk 92 [(47,(VB p)),(46,(VI q)),(7,(VP (some c))),(0,(VP d)),(44,(VS r s t)),(4,(VS e f g)),(5,(VS h i j)),(17,(VS k l m)),(18,(VI n)),(19,(VI o)),(45,(VI u))] []) w) kr (Eq.trans (qZ [7,0,44,4,5,17,18,19,45,46] (qA5 K Y5 Y14) kr) kr)
theorem qaU:q8w c e f g h i j k l m n o p q r s t d w K Y5 Y14=(qll (decide (c<d)) c e f g h i j k l m n o p q r s t d w K Y5 Y14):=qB (qG [47,7,0,44,4,5,17,18,19,45,46] (qAN K Y5 Y14) kr)
theorem qdL:qkl a c d e f t u g h i j k l m n o p q r s w K Y5=(qK (qyo K Y5) (qi.mk 92 [(46,(Value.int .i64 a)),(7,(Value.pointer (some g))),(0,(Value.pointer h)),(44,(Value.slice d e f)),(4,(Value.slice i j k)),(5,(Value.slice l m n)),(17,(Value.slice o p q)),(18,(Value.int .i64 r)),(19,(Value.int .i64 s)),(45,(Value.int .i64 c))] []) w):=Eq.trans (b:=CS P (cA yi 62669) none [7,0,4,5,17,18,19] [4,5,0,17,18,19] (Vn K Y5) (qi.mk 92 [(46,(VI a)),(45,(VI c)),(44,(VS d e f)),(43,(Value.int .u32 t)),(42,(VP u)),(7,(VP (some g))),(0,(VP h)),(4,(VS i j k)),(5,(VS l m n)),(17,(VS o p q)),(18,(VI r)),(19,(VI s))] []) w) kr (Eq.trans (Zc 4 [4,5,0,17,18,19,7] (q58 K Y5) kr) ((qS (b:=(cA yi 250676)) (X':=[4,5,0,17,18,19,7]) (H:=[46,7,0,44,4,5,17,18,19,45]) kr kr kr).trans kr))
theorem qe0:J9 d c e f g h i j k l m n o w K Y5=(∃ p:Int,w.cell? d=some (.int .u32 p)/\q9 P 102 [(Value.pointer c),(Value.int .u32 p)] w (fun t u=>∃ (r:OA) (q s:Nat),t=(.slice r q s)/\qkl 0 ((q:Nat):Int) r q s p c d c e f g h i j k l m n o u K Y5)):=qB (qG [7,0,4,5,17,18,19] (Vn K Y5) (qG [46,7,0,44,4,5,17,18,19,45] (qzC K Y5) kr))
theorem q2d:qo3 p c d q e f g h i j k l m n o w K Y5 Y10=(J9 c d e f g h i j k l m n o w K Y5):=Eq.trans (b:=CS P (cA yi 250665) none [7,0,30,4,5,17,18,19] [4,5,0,17,18,19,7] (vH K Y5 Y10) (qi.mk 92 [(32,(VB false)),(31,(Value.tuple #[(VB p)])),(7,(VP (some c))),(0,(VP d)),(30,(VP (some q))),(4,(VS e f g)),(5,(VS h i j)),(17,(VS k l m)),(18,(VI n)),(19,(VI o))] []) w) kr (Eq.trans (qZ [7,0,30,4,5,17,18,19] (qnv K Y5 Y10) kr) kr)
def qk3 a b c d e f g h i j k l m n o p q w K Y5 Y10:=SC yi 250665 [7,0,30,4,5,17,18,19] [4,5,0,17,18,19,7] (vH K Y5 Y10) 92 [(32,VB true),(31,(Value.tuple #[(VB a),b,c])),(7,VQ d),(0,VP e),(30,VQ f),(4,VS g h i),(5,VS j k l),(17,VS m n o),(18,VI p),(19,VI q)] w
def qlG a b c d f g h i j k l m n o w K Y5 Y10:=SG yi 501331 [7,0,30,4,5,17,18,19] [4,5,0,17,18,19,7] (vH K Y5 Y10) 92 [(7,VQ a),(0,VP b),(30,VQ c),(4,VS d f g),(5,VS h i j),(17,VS k l m),(18,VI n),(19,VI o)] w
abbrev qmy K Y5 Y10:=qo 3 (vH K Y5 Y10)
abbrev qBA K Y5 Y10:=kq yi 1002662 [7,0,30,4,5,17,18,19] [4,5,0,17,18,19,7,30] (qmy K Y5 Y10)
theorem qfe:qlG d c e f g h i j k l m n o p w K Y5 Y10=(∃ (k305 x:Value) (s:World),(Instr.entry (Value.pointer (some e))).run P w=.ok (.tuple #[k305,x]) s/\∃ t:Array Value,k305=(.agg t)/\qv (qx P 142) 142 s (fun q y=>zT 2 (Addr.mk q 0 none) t y (fun u=>qU 2 (Addr.mk q 0 none) u (fun z=>q9 P 80 [(Value.pointer c),(Value.agg z),(Value.int .u32 0)] u (fun a0 r=>a0=(.tuple #[])/\qU 2 (Addr.mk q 0 none) r (fun b0=>∃ v:Int,r.cell? d=some (.int .u32 v)/\q9 P 82 [(Value.pointer c),(Value.agg b0),(Value.int .u32 v)] r (fun c0 d0=>c0=(.tuple #[])/\Y10 (qi.mk 92 [(7,(Value.pointer (some d))),(0,(Value.pointer c)),(30,(Value.pointer (some e))),(4,(Value.slice f g h)),(5,(Value.slice i j k)),(17,(Value.slice l m n)),(18,(Value.int .i64 o)),(19,(Value.int .i64 p))] []) d0))))))):=qB (Q8 3 [4,5,0,17,18,19,7,30] (qmy K Y5 Y10) (qG [7,0,30,4,5,17,18,19,8] (qBA K Y5 Y10) kr))
theorem qdk:qk3 q r s c d e f g h i j k l m n o p w K Y5 Y10=(qlG c d e f g h i j k l m n o p w K Y5 Y10):=Eq.trans (b:=CS P (cA yi 250665) none [7,0,30,4,5,17,18,19] [4,5,0,17,18,19,7] (vH K Y5 Y10) (qi.mk 92 [(32,(VB true)),(31,(Value.tuple #[(VB q),r,s])),(7,(VP (some c))),(0,(VP d)),(30,(VP (some e))),(4,(VS f g h)),(5,(VS i j k)),(17,(VS l m n)),(18,(VI o)),(19,(VI p))] []) w) kr (Eq.trans (qZ [7,0,30,4,5,17,18,19] (qnv K Y5 Y10) kr) kr)
theorem ZA:Vm d e c f g h i j k l m n o p w K Y5 Y10=((∃ q:World,(Instr.next (Value.pointer (some c)) false 0).run P w=.ok (.tuple #[.bool false]) q/\qo3 false d e c f g h i j k l m n o p q K Y5 Y10)\/∃ (k95 r:Value) (s:World),(Instr.next (Value.pointer (some c)) false 0).run P w=.ok (.tuple #[.bool true,k95,r]) s/\qk3 true k95 r d e c f g h i j k l m n o p s K Y5 Y10):=qB (qG [32,7,0,30,4,5,17,18,19] (qza K Y5 Y10) kr)
theorem q4Z:qhj a c d e f g h i j k l m n o w K Y5=(qK (qwE K Y5) (qi.mk 92 [(7,(Value.pointer (some a))),(0,(Value.pointer c)),(30,(Value.pointer (some d))),(4,(Value.slice e f g)),(5,(Value.slice h i j)),(17,(Value.slice k l m)),(18,(Value.int .i64 n)),(19,(Value.int .i64 o))] []) w):=qB (Q8 2 [4,5,0,17,18,19,7] (q7B K Y5) (CSv [4,5,0,17,18,19,7] [7,0,30,4,5,17,18,19]))
theorem qr6:qfb c p q d e f g h i j k l m n o w K Y5=(qh d (fun y=>∃ r:Option Nat,w.drew.cell? (y.add 6)=some (.map r)/\∃ s:Int,w.drew.cell? c=some (.int .u32 s)/\∃ t:Option Nat,(∀ wq,vB w.drew wq->(Instr.lookup 107 (Value.map r) (Value.int .u32 s) false).run P wq=.ok (.map t) wq)/\q9 P 101 [(Value.map t)] w.drew (fun z a0=>∃ u:Option Nat,z=(.map u)/\∃ (v:Nat) (x:World),(Instr.range 124 (Value.map u)).run P a0=.ok (.pointer (some (Addr.mk v 0 none))) x/\qhj c d (Addr.mk v 0 none) e f g h i j k l m n o x K Y5))):=Eq.trans (b:=CS P (cA yi 7833) none [0,4,5,17,18,19] [4,5,0,17,18,19] (vV K Y5) (qi.mk 92 [(7,(VP (some c))),(22,(Value.int .u32 p)),(21,(VP (some q))),(0,(VP d)),(4,(VS e f g)),(5,(VS h i j)),(17,(VS k l m)),(18,(VI n)),(19,(VI o))] []) w) kr (Eq.trans (qZ [7,0,4,5,17,18,19] (q12 K Y5) kr) (Eq.trans (qZ [7,0,30,4,5,17,18,19] (qBk K Y5) kr) kr))
theorem qpr:qwV f g h i j k l d e m n c w K Y5=(qh d (fun p=>0<=c/\c<(e:Nat)/\∃ o:Int,w.cell? (p.add (Int.toNat c*1))=some (.int .u32 o)/\qv (qx P 24) 24 w (fun q r=>zW (Addr.mk q 0 none) (Value.int .u32 o) r (fun s=>qfb (Addr.mk q 0 none) o (p.add (Int.toNat c*1)) f g h i j k l d e m n c s K Y5)))):=qB (qG [0,4,5,17,18,19] (qw5 K Y5) (Q8 1 [4,5,0,17,18,19] (vV K Y5) (qG [7,0,4,5,17,18,19] (qEB K Y5) kr)))
def qoK a b c w K:=SG yi 31 [4] [4] (ve K) 92 [(5,VS a b c)] w
abbrev qCG K:=kq yi 31 [4] [4] (ve K)
theorem qg4:qoK c d e w K=(K (Value.slice c d e) w):=qB (qG [4] (qCG K) kr)
theorem qqR:qu3 f g h i j c d e k l m n o w K Y5=(qp f (qwV g h i j c d e l m n o k w K Y5) (qoK c d e w K)):=Eq.trans (b:=CS P (cA yi 489) none [0,4,5,19,17,18] [4,5] (Qo K Y5) (qi.mk 92 [(20,(VB f)),(0,(VP g)),(4,(VS h i j)),(5,(VS c d e)),(19,(VI k)),(17,(VS l m n)),(18,(VI o))] []) w) kr (Eq.trans (qZ [0,4,5,17,18,19] (qHR K Y5) kr) kr)
theorem qim:qnw e f g h i j k c l m n d w K Y5=(qu3 (decide (c<d)) e f g h i j k c l m n d w K Y5):=qB (qG [20,0,4,5,17,18,19] (qJJ K Y5) kr)
theorem qqw:quC a c d e f n o p g h i q r s t u v j k l m x y z w K=(qK (qDX K) (qi.mk 92 [(0,(Value.pointer m)),(4,(Value.slice j k l)),(5,(Value.slice g h i)),(19,(Value.int .i64 a)),(17,(Value.slice d e f)),(18,(Value.int .i64 c))] []) w):=Eq.trans (b:=CS P (cA yi 61) none [5] [4] (q3q K) (qi.mk 92 [(19,(VI a)),(18,(VI c)),(17,(VS d e f)),(16,(Value.tuple #[])),(15,(VS n o p)),(5,(VS g h i)),(14,(VS q r s)),(13,(VS t u v)),(4,(VS j k l)),(0,(VP m)),(1,(VS x y z))] []) w) kr (Eq.trans (Zc 0 [4,5] (qfW K) kr) ((qS (b:=(cA yi 244)) (X':=[4,5]) (H:=[0,4,5,19,17,18]) kr kr kr).trans kr))
theorem qq9:qvk f g h d c e i j k l m n o p q r s t u w K=(quC 0 ((c:Nat):Int) d c e f g h d c e i j k l m n o p q r s t u w K):=Eq.trans (b:=CS P (cA yi 15) none [4] [4] (ve K) (qi.mk 92 [(16,(Value.tuple #[])),(15,(VS f g h)),(5,(VS d c e)),(14,(VS i j k)),(13,(VS l m n)),(4,(VS o p q)),(0,(VP r)),(1,(VS s t u))] []) w) kr (Eq.trans (qZ [5] (q3q K) kr) (Eq.trans (qZ [0,4,5,19,17,18] (qGX K) kr) kr))
theorem qqb:qxD c d e f g h i j k l m n o p q r w K=(q9 P 61 [(Value.slice c d e)] w (fun s t=>s=(.tuple #[])/\qvk c d e c d e f g h i j k l m n o p q r t K)):=Eq.trans (b:=CS P (cA yi 7) none [4] [4] (ve K) (qi.mk 92 [(5,(VS c d e)),(14,(VS f g h)),(13,(VS i j k)),(4,(VS l m n)),(0,(VP o)),(1,(VS p q r))] []) w) kr (Eq.trans (qZ [0,4,5] (qJ6 K) kr) kr)
theorem qqg:qxr f g h i c d e w K=(q9 P 75 [(Value.slice c d e)] w (fun m n=>∃ (j:OA) (k l:Nat),m=(.slice j k l)/\qxD j k l j k l c d e f g h i c d e n K)):=Eq.trans (b:=CS P (cA yi 3) none [4] [4] (ve K) (qi.mk 92 [(4,(VS f g h)),(0,(VP i)),(1,(VS c d e))] []) w) kr (Eq.trans (qZ [0,4,5] (qHe K) kr) kr)
theorem qp0:quP c d e f w K=(qxr none 0 0 c d e f w K):=Eq.trans (b:=CS P (cA yi 1) none [4] [4] (ve K) (qi.mk 92 [(0,(VP c)),(1,(VS d e f))] []) w) kr (Eq.trans (qZ [0,4,1] (qGR K) kr) kr)
theorem qKw:f60 a b c d w K=(quP a b c d w K):=kr
theorem qK2 a b c d w K(h:f60 a b c d w K):q9 P 60 [(Value.pointer a),(Value.slice b c d)] w K:=qA yi Tryz.func60 h
def c63:=qm Tryz.f63
def qrz:=Tryz.f63.results.toList
abbrev qdJ K:=qr P qrz K
def f63 a b w K:=CS P c63 none [] [] (qdJ K) (qz 32 [(VP a),(Value.int .u32 b)]) w
def qst a b c w K:=SG c63 7 [] [] (qdJ K) 32 [(15,a),(3,VQ b),(2,VQ c)] w
abbrev qd0 K:=qo 0 (qdJ K)
def ql9(a b:Addr)(l:Nat)(R:LoopState->Option Code->Loop)(post:Option Code->World->Prop)(args:List Value)(W:World):Prop:=args.length=1/\CS P (cA c63 28) (some l) [3,4,2] [] (jw P (cA c63 29) l R post) { zl (qi.mk 32 [(3,(VP (some a))),(2,(VP (some b)))] []) [16] args with d:=[] } W
abbrev qDx(l:Nat)(R:LoopState->Option Code->Loop)(post:Option Code->World->Prop):Exit->YT:=jw P (cA c63 29) l R post
def qkU(a b:Addr)(c:Int)(w:World)(l:Nat)(R:LoopState->Option Code->Loop)(post:Option Code->World->Prop):Prop:=CS P (cA c63 28) (some l) [3,4,2] [] (qDx l R post) (qi.mk 32 [(16,(VI c)),(3,(VP (some a))),(2,(VP (some b)))] []) w
def qtu a b c w l R post:=Ys P (cA c63 29) (some l) [] [] (q1k l R post) (qi.mk 32 [(3,(VP (some a))),(4,(VI b)),(2,(VP (some c)))] []) w
abbrev qHa l R post:=qo 1 (q1k l R post)
def qv5 w l R post:=Ys P (cA c63 469) (some l) [] [] (qHa l R post) (qi.mk 32 [] []) w
theorem qrK:qv5 w l R post=(w.heap[l]?=some (.loop (R .busy none))/\post (some .ret) (w.putObj l (.loop (R .done (some .ret))))):=kr
theorem qr8:qtu c a b w l R post=(∃ d:Option Addr,w.cell? b=some (.pointer d)/\qh d (fun m=>∃ (e:OA) (f n:Nat),w.cell? (m.add 5)=some (.slice e f n)/\qh e (fun o=>0<=a/\a<(f:Nat)/\∃ g:Int,w.cell? (o.add (Int.toNat a*1))=some (.int .u32 g)/\qp (g==0) (∃ h:Option Addr,w.drew.cell? b=some (.pointer h)/\qh h (fun p=>∃ (i:OA) (j q:Nat),w.drew.cell? (p.add 5)=some (.slice i j q)/\∃ k:Int,w.drew.cell? c=some (.int .u32 k)/\qh i (fun r=>0<=a/\a<(j:Nat)/\zW (r.add (Int.toNat a*1)) (Value.int .u32 k) w.drew (fun s=>qv5 s l R post)))) (w.heap[l]?=some (.loop (R .busy none))/\post none (w.putObj l (.loop (R .ready none))))))):=kr
theorem qeg:qkU a b c w l R post=(w.heap[l]?=some (.loop (R .ready none))/\qtu a c b (w.putObj l (.loop (R .busy none))) l R post):=kr
theorem qdU:ql9 b c l R post [(Value.int .i64 a)] w=([(Value.int .i64 a)].length=1/\qkU b c a w l R post):=kr
def qlx(a b:Addr)(d:List Deferred)(w:World)(K:KT):Prop:=(qd0 K) .normal (qi.mk 32 [(3,(VP (some a))),(2,(VP (some b)))] d) w
theorem qe6:qlx a b d w K=(zr P qrz (qi.mk 32 [(3,(Value.pointer (some a))),(2,(Value.pointer (some b)))] d) K d w):=kr
def qo5(a b:Addr)(d:List Deferred)(w:World)(K:KT):Prop:=(qd0 K) .ret (qi.mk 32 [(3,(VP (some a))),(2,(VP (some b)))] d) w
theorem qde:qo5 a b d w K=(zr P qrz (qi.mk 32 [(3,(Value.pointer (some a))),(2,(Value.pointer (some b)))] d) K d w):=kr
theorem qqB:qst c a b w K=(Q6 P (qd0 K) (qi.mk 32 [(3,(Value.pointer (some a))),(2,(Value.pointer (some b)))] []) w c (ql9 a b)):=kr
theorem qHo:f63 d e w K=(qv #[(Value.pointer d)] 28 w (fun b p=>qv #[(Value.int .u32 e)] 24 p (fun f a=>∃ c:Option Addr,a.drew.cell? (Addr.mk b 0 none)=some (.pointer c)/\∃ g:Option Addr,a.drew.cell? (Addr.mk b 0 none)=some (.pointer g)/\∃ h:Option Addr,a.drew.cell? (Addr.mk b 0 none)=some (.pointer h)/\qh h (fun q=>∃ i:Option Nat,a.drew.cell? (q.add 3)=some (.map i)/\∃ j:Int,a.drew.cell? (Addr.mk f 0 none)=some (.int .u32 j)/\∃ k:Array Value,(∀ wq,vB a.drew wq->(Instr.lookup 105 (Value.map i) (Value.int .u32 j) false).run P wq=.ok (.agg k) wq)/\∃ l:Int,k[0]?=some (.int .u32 l)/\q9 P 111 [(Value.pointer g),(Value.int .u32 l)] a.drew (fun r m=>∃ n:Int,r=(.int .i64 n)/\m.cell? (Addr.mk b 0 none)=some (.pointer c)/\q9 P 110 [(Value.pointer c),(Value.int .i64 n)] m (fun s t=>∃ o:Value,s=o/\qst o (Addr.mk f 0 none) (Addr.mk b 0 none) t K)))))):=kr
theorem qIY a b w K(h:f63 a b w K):q9 P 63 [(Value.pointer a),(Value.int .u32 b)] w K:=qA c63 Tryz.func63 h
def YK:=qm Tryz.f68
def qeG:=Tryz.f68.results.toList
abbrev vW K:=qr P qeG K
def f68 a b w K:=CS P YK none [4,5] [4,5] (vW K) (qz 39 [(VP a),(Value.int .u32 b)]) w
def qvX a b w K:=SC YK 1 [4,5] [4,5] (vW K) 39 [(0,VP a),(1,Value.int .u32 b)] w
abbrev qIX K:=kq YK 1 [4,5] [4,5] (vW K)
def qx8 a b c d e f w K:=SC YK 3 [4,5] [4,5] (vW K) 39 [(5,VQ a),(4,VQ b),(3,VQ c),(2,VQ d),(0,VP e),(1,Value.int .u32 f)] w
abbrev qJL K:=kq YK 3 [4,5] [4,5] (vW K)
def qxZ a b c d e f g w K:=SC YK 7 [4,5] [4,5] (vW K) 39 [(6,VQ a),(5,VQ b),(4,VQ c),(3,VQ d),(2,VQ e),(0,VP f),(1,Value.int .u32 g)] w
abbrev q7V K:=kq YK 7 [4,5] [4,5] (vW K)
abbrev qHY K:=kq YK 14 [4,5,6] [4,5] (q7V K)
def qvo a b c d f g w K:=SG YK 29 [4,5,6] [4,5] (q7V K) 39 [(13,a),(5,VQ b),(4,VQ c),(6,VQ d),(3,VQ f),(2,VQ g)] w
abbrev q7D K:=qo 0 (q7V K)
def qjX(a b c e f:Addr)(l:Nat)(R:LoopState->Option Code->Loop)(post:Option Code->World->Prop)(args:List Value)(W:World):Prop:=args.length=1/\CS P (cA YK 116) (some l) [5,4,6,3,2,7] [] (jw P (cA YK 117) l R post) { zl (qi.mk 39 [(5,(VP (some a))),(4,(VP (some b))),(6,(VP (some c))),(3,(VP (some e))),(2,(VP (some f)))] []) [14] args with d:=[] } W
abbrev qC5(l:Nat)(R:LoopState->Option Code->Loop)(post:Option Code->World->Prop):Exit->YT:=jw P (cA YK 117) l R post
def qnV(a b c d e:Addr)(f:Int)(w:World)(l:Nat)(R:LoopState->Option Code->Loop)(post:Option Code->World->Prop):Prop:=CS P (cA YK 116) (some l) [5,4,6,3,2,7] [] (qC5 l R post) (qi.mk 39 [(14,(VI f)),(5,(VP (some a))),(4,(VP (some b))),(6,(VP (some c))),(3,(VP (some d))),(2,(VP (some e)))] []) w
def qut a b c d f g w l R post:=Ys P (cA YK 117) (some l) [] [] (q1k l R post) (qi.mk 39 [(5,(VP (some a))),(4,(VP (some b))),(6,(VP (some c))),(3,(VP (some d))),(2,(VP (some f))),(7,(VI g))] []) w
abbrev JK l R post:=qo 1 (q1k l R post)
abbrev qIH l R post:=Jq P (cA YK 468) (cA YK 469) (some l) [] [] (JK l R post)
abbrev qJM l R post:=Jq P (cA YK 1878) (cA YK 1879) (some l) [] [] (JK l R post)
def qxL w l R post:=Ys P (cA YK 15029) (some l) [5,4,6,8,3,2] [] (qJM l R post) (qi.mk 39 [] []) w
theorem qp1:qxL w l R post=(w.heap[l]?=some (.loop (R .busy none))/\post (some .ret) (w.putObj l (.loop (R .done (some .ret))))):=Eq.trans SGe kr
def qvh a b c d f g w l R post:=Ys P (cA YK 1879) (some l) [] [] (JK l R post) (qi.mk 39 [(5,(VP (some a))),(4,(VP (some b))),(6,(VP (some c))),(8,(Value.int .u32 d)),(3,(VP (some f))),(2,(VP (some g)))] []) w
abbrev qED l R post:=Jq P (cA YK 3758) (cA YK 3759) (some l) [] [] (JK l R post)
def qsi w l R post:=Ys P (cA YK 15037) (some l) [] [] (JK l R post) (qi.mk 39 [] []) w
theorem qqN:qsi w l R post=(w.heap[l]?=some (.loop (R .busy none))/\post (some .ret) (w.putObj l (.loop (R .done (some .ret))))):=Eq.trans SGe kr
theorem qpd:qvh e f c d g h w l R post=(∃ j:Option Addr,w.drew.cell? h=some (.pointer j)/\qh j (fun q=>∃ k:Option Nat,w.drew.cell? (q.add 3)=some (.map k)/\∃ m:Array Value,(∀ wq,vB w.drew wq->(Instr.lookup 105 (Value.map k) (Value.int .u32 d) false).run P wq=.ok (.agg m) wq)/\∃ n:Int,m[0]?=some (.int .u32 n)/\∃ o:Int,w.drew.cell? g=some (.int .u32 o)/\qp (n==o) (∃ i:Int,w.drew.drew.cell? c=some (.int .i64 i)/\zW f (Value.int .u32 d) w.drew.drew (fun p=>p.cell? c=some (.int .i64 i)/\zW e (Value.int .i64 i) p (fun r=>qsi r l R post))) (w.drew.heap[l]?=some (.loop (R .busy none))/\post none (w.drew.putObj l (.loop (R .ready none)))))):=Eq.trans SGe (Eq.trans (qZ [35,5,4,6,8] (qED l R post) kr) kr)
theorem qpD:qut e f c i g d w l R post=(∃ m:Int,w.cell? c=some (.int .i64 m)/\zW c (Value.int .i64 (IntKind.wrap .i64 (m+1))) w (fun h=>∃ n:Option Addr,h.cell? g=some (.pointer n)/\qh n (fun r=>∃ (o:OA) (p s:Nat),h.cell? (r.add 5)=some (.slice o p s)/\qh o (fun t=>0<=d/\d<(p:Nat)/\∃ j:Int,h.cell? (t.add (Int.toNat d*1))=some (.int .u32 j)/\qp (j==0) (∃ k:Int,h.drew.cell? c=some (.int .i64 k)/\zW f (Value.int .u32 0) h.drew (fun q=>q.cell? c=some (.int .i64 k)/\zW e (Value.int .i64 k) q (fun u=>qxL u l R post))) (qvh e f c j i g h l R post))))):=Eq.trans SGe (Eq.trans (Zc 1 [] (JK l R post) kr) (Eq.trans (qZ [5,4,6,3,2,7] (qIH l R post) kr) kr))
theorem qgG:qnV a b c d e f w l R post=(w.heap[l]?=some (.loop (R .ready none))/\qut a b c d e f (w.putObj l (.loop (R .busy none))) l R post):=kr
theorem qea:qjX b c d e f l R post [(Value.int .i64 a)] w=([(Value.int .i64 a)].length=1/\qnV b c d e f a w l R post):=kr
def qkn(a b c e f:Addr)(d:List Deferred)(w:World)(K:KT):Prop:=(q7D K) .normal (qi.mk 39 [(5,(VP (some a))),(4,(VP (some b))),(6,(VP (some c))),(3,(VP (some e))),(2,(VP (some f)))] d) w
def qsn a b c d w K:=Ys P (cA YK 15) none [4,5] [4,5] (vW K) (qi.mk 39 [(4,(VP (some a))),(5,(VP (some b))),(6,(VP (some c)))] d) w
abbrev qCb K:=kq YK 15 [4,5] [4,5] (vW K)
def qja a b d w K:=Ys P (cA YK 31) none [4,5] [4,5] (vW K) (qi.mk 39 [(4,(VP (some a))),(5,(VP (some b)))] d) w
theorem qfM:qja a c d w K=(zr P qeG (qi.mk 39 [(4,(Value.pointer (some a))),(5,(Value.pointer (some c)))] d) K d w):=Eq.trans SGe kr
theorem qqd:qsn c e f d w K=(∃ g:Int,w.drew.cell? f=some (.int .i64 g)/\zW c (Value.int .u32 0) w.drew (fun h=>h.cell? f=some (.int .i64 g)/\zW e (Value.int .i64 g) h (fun i=>qja c e d i K))):=Eq.trans SGe (Eq.trans (qZ [4,5] (qCb K) kr) kr)
theorem qij:qkn a b c e f d w K=(qsn b a c d w K):=kr
def qjf(a b c e f:Addr)(d:List Deferred)(w:World)(K:KT):Prop:=(q7D K) .ret (qi.mk 39 [(5,(VP (some a))),(4,(VP (some b))),(6,(VP (some c))),(3,(VP (some e))),(2,(VP (some f)))] d) w
theorem qhY:qjf a b c e f d w K=(zr P qeG (qi.mk 39 [(5,(Value.pointer (some a))),(4,(Value.pointer (some b))),(6,(Value.pointer (some c))),(3,(Value.pointer (some e))),(2,(Value.pointer (some f)))] d) K d w):=kr
theorem qqH:qvo g a c d e f w K=(Q6 P (q7D K) (qi.mk 39 [(5,(Value.pointer (some a))),(4,(Value.pointer (some c))),(6,(Value.pointer (some d))),(3,(Value.pointer (some e))),(2,(Value.pointer (some f)))] []) w g (qjX a c d e f)):=qB (Q8 0 [4,5,6] (q7D K) kr)
theorem qra:qxZ e f g d c h i w K=(∃ j:Option Addr,w.drew.cell? c=some (.pointer j)/\∃ k:Option Addr,w.drew.cell? c=some (.pointer k)/\∃ l:Int,w.drew.cell? d=some (.int .u32 l)/\q9 P 111 [(Value.pointer k),(Value.int .u32 l)] w.drew (fun p m=>∃ n:Int,p=(.int .i64 n)/\m.cell? c=some (.pointer j)/\q9 P 110 [(Value.pointer j),(Value.int .i64 n)] m (fun q r=>∃ o:Value,q=o/\qvo o f g e d c r K))):=Eq.trans (b:=CS P (cA YK 7) none [4,5] [4,5] (vW K) (qi.mk 39 [(6,(VP (some e))),(5,(VP (some f))),(4,(VP (some g))),(3,(VP (some d))),(2,(VP (some c))),(0,(VP h)),(1,(Value.int .u32 i))] []) w) kr (Eq.trans (qZ [4,5,6] (q7V K) kr) (Eq.trans (qZ [13,5,4,6,3,2] (qHY K) kr) kr))
theorem qpg:qx8 c d e f g h w K=(qv (qx P 3) 3 w (fun i j=>zW (Addr.mk i 0 none) (Value.int .i64 0) j (fun k=>qxZ (Addr.mk i 0 none) c d e f g h k K))):=Eq.trans (b:=CS P (cA YK 3) none [4,5] [4,5] (vW K) (qi.mk 39 [(5,(VP (some c))),(4,(VP (some d))),(3,(VP (some e))),(2,(VP (some f))),(0,(VP g)),(1,(Value.int .u32 h))] []) w) kr (Eq.trans (qZ [5,4,6,3,2] (qJL K) kr) kr)
theorem qoO:qvX c d w K=(qv #[(Value.pointer c)] 28 w (fun e f=>qv #[(Value.int .u32 d)] 24 f (fun g h=>qv (qx P 24) 24 h (fun i j=>qv (qx P 3) 3 j (fun k l=>qx8 (Addr.mk k 0 none) (Addr.mk i 0 none) (Addr.mk g 0 none) (Addr.mk e 0 none) c d l K))))):=Eq.trans (b:=CS P (cA YK 1) none [4,5] [4,5] (vW K) (qi.mk 39 [(0,(VP c)),(1,(Value.int .u32 d))] []) w) kr (Eq.trans (qZ [5,4,3,2] (qIX K) kr) kr)
theorem qHN:f68 a b w K=(qvX a b w K):=kr
theorem qIB a b w K(h:f68 a b w K):q9 P 68 [(Value.pointer a),(Value.int .u32 b)] w K:=qA YK Tryz.func68 h
def c78:=qm Tryz.f78
def qNl:=Tryz.f78.results.toList
abbrev q7G K:=qr P qNl K
def f78 a b c w K:=CS P c78 none [6,7] [6,7] (q7G K) (qz 40 [(VP a),(Value.int .u32 b),(VI c)]) w
def qwM a b c d w K:=SG c78 7 [6,7] [6,7] (q7G K) 40 [(6,VQ a),(5,VQ b),(1,Value.int .u32 c),(0,VP d)] w
def quZ a b c d w K:=SG c78 15 [6,7] [6,7] (q7G K) 40 [(6,VQ a),(5,VQ b),(1,Value.int .u32 c),(0,VP d)] w
def qwl a b c d f w K:=SG c78 127 [6,7] [6,7] (q7G K) 40 [(6,VQ a),(11,VI b),(10,VS c d f)] w
theorem qpa:qwl b a c d f w K=(qh c (fun g=>0<=a/\a<(d:Nat)/\qU 5 (g.add (Int.toNat a*5)) w (fun h=>zT 5 b h w (fun e=>qU 5 b e (fun i=>K (Value.tuple #[(Value.agg i),(Value.int .i64 0)]) e))))):=kr
theorem qpo:quZ a f g h w K=(q9 P 102 [(Value.pointer h),(Value.int .u32 g)] w (fun l m=>∃ (b:OA) (c d:Nat),l=(.slice b c d)/\q9 P 100 [(Value.slice b c d),(Value.func (.func 122) #[] #[(Value.pointer (some f))])] m (fun n i=>∃ e:Int,n=(.int .i64 e)/\qp (decide (e<0)) (∃ j:Array Value,(∀ wq,(Instr.build 62 #[]).run P wq=.ok (.agg j) wq)/\zT 5 a j i (fun k=>qU 5 a k (fun o=>K (Value.tuple #[(Value.agg o),(Value.int .i64 1)]) k))) (qwl a e b c d i K)))):=kr
theorem qqL:qwM a d b c w K=(qh c (fun k=>∃ e:Option Nat,w.cell? (k.add 3)=some (.map e)/\∃ f:Array Value,∃ g:Bool,(∀ wq,vB w wq->(Instr.lookup 105 (Value.map e) (Value.int .u32 b) true).run P wq=.ok (.tuple #[(Value.agg f),(Value.bool g)]) wq)/\qv (qx P 41) 41 w (fun l m=>zT 3 (Addr.mk l 0 none) f m (fun h=>qp (!g) (∃ i:Array Value,(∀ wq,(Instr.build 62 #[]).run P wq=.ok (.agg i) wq)/\zT 5 a i h (fun j=>qU 5 a j (fun n=>K (Value.tuple #[(Value.agg n),(Value.int .i64 211)]) j))) (quZ a d b c h K))))):=kr
theorem qIZ:f78 a c d w K=(qv #[(Value.int .i64 d)] 3 w (fun i j=>qv (qx P 62) 62 j (fun b k=>q9 P 53 [(Value.pointer a)] k (fun l e=>∃ f:Bool,l=(.bool f)/\qp f (∃ g:Array Value,(∀ wq,(Instr.build 62 #[]).run P wq=.ok (.agg g) wq)/\zT 5 (Addr.mk b 0 none) g e (fun h=>qU 5 (Addr.mk b 0 none) h (fun m=>K (Value.tuple #[(Value.agg m),(Value.int .i64 5)]) h))) (qwM (Addr.mk b 0 none) (Addr.mk i 0 none) c a e K))))):=kr
theorem qHp a b c w K(h:f78 a b c w K):q9 P 78 [(Value.pointer a),(Value.int .u32 b),(Value.int .i64 c)] w K:=qA c78 Tryz.func78 h
def c80:=qm Tryz.f80
def qP8:=Tryz.f80.results.toList
abbrev qvD K:=qr P qP8 K
def f80 a b c w K:=CS P c80 none [] [] (qvD K) (qz 31 [(VP a),(Value.agg b),(Value.int .u32 c)]) w
def qww a b c d w K:=SG c80 7 [] [] (qvD K) 31 [(6,VQ a),(4,VQ b),(0,VP c),(2,Value.int .u32 d)] w
theorem qs2:qww a c d e w K=(∃ (f:OA) (g h:Nat),w.cell? (a.add 2)=some (.slice f g h)/\∃ i:Int,w.cell? (c.add 1)=some (.int .i64 i)/\q9 P 123 [(Value.slice f g h),(Value.int .i64 i),(Value.int .u32 e)] w (fun p q=>∃ (j:OA) (k l:Nat),∃ r:Int,p=(.tuple #[(Value.slice j k l),(Value.int .i64 r)])/\zW (a.add 2) (Value.slice j k l) q (fun b=>qh d (fun s=>∃ m:Option Nat,b.drew.cell? (s.add 3)=some (.map m)/\∃ n:Int,b.drew.cell? c=some (.int .u32 n)/\qU 3 a b.drew (fun t=>∃ o:World,(Instr.mapUpdate 105 (Value.map m) (Value.int .u32 n) (Value.agg t)).run P b.drew=.ok () o/\K (Value.tuple #[]) o))))):=kr
theorem qGN:f80 b c d w K=(qv c 142 w (fun e a=>qh b (fun j=>∃ f:Option Nat,a.drew.cell? (j.add 3)=some (.map f)/\∃ g:Int,a.drew.cell? (Addr.mk e 0 none)=some (.int .u32 g)/\∃ h:Array Value,(∀ wq,vB a.drew wq->(Instr.lookup 105 (Value.map f) (Value.int .u32 g) false).run P wq=.ok (.agg h) wq)/\qv (qx P 41) 41 a.drew (fun i k=>zT 3 (Addr.mk i 0 none) h k (fun l=>qww (Addr.mk i 0 none) (Addr.mk e 0 none) b d l K))))):=kr
theorem qJC a b c w K(h:f80 a b c w K):q9 P 80 [(Value.pointer a),(Value.agg b),(Value.int .u32 c)] w K:=qA c80 Tryz.func80 h
def c81:=qm Tryz.f81
def qNf:=Tryz.f81.results.toList
abbrev qgy K:=qr P qNf K
def f81 a b c w K:=CS P c81 none [] [] (qgy K) (qz 28 [(VP a),(Value.agg b),(Value.int .u32 c)]) w
def qtj a b c w K:=SG c81 7 [] [] (qgy K) 28 [(4,VQ a),(2,Value.int .u32 b),(0,VP c)] w
def q7i a b c w K:=SG c81 15 [] [] (qgy K) 28 [(4,VQ a),(2,Value.int .u32 b),(0,VP c)] w
theorem qqv:q7i a b c w K=(qh c (fun g=>∃ d:Option Nat,w.drew.cell? (g.add 6)=some (.map d)/\∃ e:Option Nat,(∀ wq,vB w.drew wq->(Instr.lookup 107 (Value.map d) (Value.int .u32 b) false).run P wq=.ok (.map e) wq)/\qU 2 a w.drew (fun h=>∃ f:World,(Instr.mapUpdate 124 (Value.map e) (Value.agg h) (Value.bool true)).run P w.drew=.ok () f/\K (Value.tuple #[]) f))):=kr
theorem qpG:qtj c a b w K=(qh b (fun h=>∃ d:Option Nat,w.cell? (h.add 6)=some (.map d)/\∃ e:Option Nat,(∀ wq,vB w wq->(Instr.lookup 107 (Value.map d) (Value.int .u32 a) false).run P wq=.ok (.map e) wq)/\qp e.isNone (qh b (fun i=>∃ f:Option Nat,w.cell? (i.add 6)=some (.map f)/\yC (.map #[] 0) w (fun j k=>∃ g:World,(Instr.mapUpdate 107 (Value.map f) (Value.int .u32 a) (Value.map (some j))).run P k=.ok () g/\q7i c a b g K))) (q7i c a b w K))):=kr
theorem qHv:f81 b c a w K=(qv c 142 w (fun e d=>qp (a==0) (K (Value.tuple #[]) d) (qtj (Addr.mk e 0 none) a b d K))):=kr
theorem qHh a b c w K(h:f81 a b c w K):q9 P 81 [(Value.pointer a),(Value.agg b),(Value.int .u32 c)] w K:=qA c81 Tryz.func81 h
end Go.Fx.Tryz
namespace Go.Fx.Tryz
open Go Go.Fx Go.Fx.Ch
open Go.Proofs
set_option linter.all false
set_option maxRecDepth 20000
variable {w0 w:World} {H G:qE} {K:KT} {ov:Value} {bs:List Int} {l:List SP}
def InW(G:qE)(w:World):Prop:=∀ u∈G,w.heap[u.1]?=some u.2
structure jv (G:qE) (ov:Value) (bs:List Int):Prop where
 row:∀ w',InW G w'->vn w' 1 ov bs.length (bs.map B)
 byte:∀ b∈bs,0<=b/\b<256
 len:bs.length<1000000
 cap:∀ a n c,ov=.slice a n c->n<=c
structure Qw (G:qE) (ov:Value) (l:List SP):Prop where
 row:∀ w',InW G w'->vn w' 2 ov l.length (l.map QN).flatten
 len:l.length<1000000
theorem jv.bytes(h:jv G ov bs)(hG:∀ u∈G,u∈H):yl w0 H ov bs:=⟨fun w' h'=>h.row w' fun u hu=>h'.has _ _ (hG u hu),h.byte,h.len,h.cap⟩
theorem Qw.spans(h:Qw G ov l)(hG:∀ u∈G,u∈H):jZ w0 H ov l:=⟨fun w' h'=>h.row w' fun u hu=>h'.has _ _ (hG u hu),h.len⟩
theorem jv.mono{G':qE}(h:jv G ov bs)(hG:∀ u∈G,u∈G'):jv G' ov bs:=⟨fun w' h'=>h.row w' fun u hu=>h' u (hG u hu),h.byte,h.len,h.cap⟩
theorem Qw.mono{G':qE}(h:Qw G ov l)(hG:∀ u∈G,u∈G'):Qw G' ov l:=⟨fun w' h'=>h.row w' fun u hu=>h' u (hG u hu),h.len⟩
theorem jv.of{L:qE}(h:zx 1 5 ov bs.length (bs.map B) L)(hb:∀ b∈bs,0<=b/\b<256)(hl:bs.length<1000000):jv L ov bs:=by
 refine⟨fun w' h'=>h.row h',hb,hl,fun a n c e=>?_⟩
 rcases h.2 with⟨h1,h2,_⟩ | ⟨g,cap,cur,h1,_,h3,_⟩
 ·rw[h1]at e;cases e;exact Nat.le_refl _
 ·rw[h1]at e;cases e;exact h3
theorem Qw.of{L:qE}(h:zx 2 36 ov l.length (l.map QN).flatten L)(hl:l.length<1000000):Qw L ov l:=⟨fun w' h'=>h.row h',hl⟩
structure q0m (G:qE) (v:Value) (t:TR):Prop where
 is:∃ sv cv,v=.agg (ya t.at_ sv cv).toArray/\Qw G sv t.sp/\jv G cv t.code
 at0:0<=t.at_
 at1:t.at_<4294967296
theorem q0m.mono{G':qE}{v:Value}{t:TR}(h:q0m G v t)(hG:∀ u∈G,u∈G'):q0m G' v t:=by
 obtain⟨⟨sv,cv,h1,h2,h3⟩,h4,h5⟩:=h
 exact⟨⟨sv,cv,h1,h2.mono hG,h3.mono hG⟩,h4,h5⟩
theorem q0m.zero(G:qE):q0m G (.agg #[U 0,.slice none 0 0,.slice none 0 0]) TR.zero:=
 ⟨⟨_,_,rfl,⟨fun w' _=>⟨rfl,.inl ⟨rfl,rfl⟩⟩,by decide⟩,⟨fun w' _=>⟨rfl,.inl ⟨rfl,rfl⟩⟩,by simp[TR.zero],by decide,fun a n c e=>by cases e;exact Nat.le_refl _⟩⟩,by decide,by decide⟩
abbrev qBv(x:Int):Value:=Value.int .u32 x
def zY(G:qE)(es:Array MapEntry)(clk:Nat)(items:List (Int × TR)):Prop:=∃ m,MapIs qBv es clk m/\yP (q0m G) m items
theorem zY.mono{G':qE}{es:Array MapEntry}{clk:Nat}{items:List (Int × TR)}(h:zY G es clk items)(hG:∀ u∈G,u∈G'):zY G' es clk items:=by
 obtain⟨m,h1,h2⟩:=h
 exact⟨m,h1,h2.mono fun _ _ h=>h.mono hG⟩
theorem Jv{wq:World}(hx:vB w wq){b:Nat}{o:Obj}(hb:w.heap[b]?=some o):wq.heap[b]?=some o:=by
 rw[hx b (Array.getElem?_eq_some_iff.1 hb).1,hb]
theorem qGo(w:World):(zeroValue 41).run P w=.ok (.agg #[U 0,.slice none 0 0,.slice none 0 0]) w:=kr
theorem zY.len{es:Array MapEntry}{clk:Nat}{items:List (Int × TR)}(h:zY G es clk items){b:Nat}{wq:World}(hb:wq.heap[b]?=some (.map es clk)) :
  (Builtin.len_ #[105] 3 [Value.map (some b)].toArray).run P wq=.ok (.int .i64 items.length) wq:=by
 obtain⟨m,h1,h2⟩:=h
 rw[<-h2.length]
 exact h1.len hb (by kernel_rfl:P.underlying 105=some (.map 24 41)) _
theorem zY.look{es:Array MapEntry}{clk:Nat}{items:List (Int × TR)}(h:zY G es clk items){b:Nat}(hb:w.heap[b]?=some (.map es clk))(id:Int) :
  ∃ v,q0m G v (qj items id)/\(∀ wq,vB w wq->(Instr.lookup 105 (.map (some b)) (U id) false).run P wq=.ok v wq)/\
   ∀ wq,vB w wq->(Instr.lookup 105 (.map (some b)) (U id) true).run P wq=.ok (.tuple #[v,.bool (lk items id).isSome]) wq:=by
 obtain⟨m,h1,h2⟩:=h
 have hl:∀ ok wq,vB w wq->_:=fun ok wq hx=>h1.lookup QL (by kernel_rfl:P.underlying 105=some (.map 24 41)) qGo (Jv hx hb) id ok
 rcases h2.lk id with⟨e1,e2⟩ | ⟨v,t,e1,e2,e3⟩
 ·refine⟨_,?_,fun wq hx=>hl false wq hx,fun wq hx=>?_⟩
  ·rw[vu,e1]
   unfold qj
   rw[e2]
   exact q0m.zero G
  ·have:=hl true wq hx
   rw[vu,e1]at this ⊢
   rw[e2]
   exact this
 ·refine⟨_,?_,fun wq hx=>hl false wq hx,fun wq hx=>?_⟩
  ·rw[vu,e1]
   unfold qj
   rw[e2]
   exact e3
  ·have:=hl true wq hx
   rw[vu,e1]at this ⊢
   rw[e2]
   exact this
def CCs(s:qd)(ib hb rb tb:Nat):List Value:=[J s.rows.length,J s.len,J (2 ^ s.k:Nat),.map (some ib),.slice (some ⟨rb,0,none⟩) s.rows.length s.rows.length,.slice (some ⟨tb,0,none⟩) (2 ^ s.k) (2 ^ s.k),.map (some hb),J s.cur,U s.given,J s.ev,J s.dr]
abbrev qgn(H:qE):Prop:=∃ t:TypeId,(2,Cs (Yl.map fun x=>.int .u8 x) t)∈H
theorem q0s{k:Nat}(h4:4<=k)(h16:k<=16){at_:Int}(h0:0<=at_):0<=ze k at_/\ze k at_<(2 ^ k:Nat):=by
 unfold ze
 have h1:0<=(at_ / 4*2654435761) % 4294967296:=Int.emod_nonneg _ (by decide)
 have h2:(at_ / 4*2654435761) % 4294967296<4294967296:=Int.emod_lt_of_pos _ (by decide)
 generalize (at_ / 4*2654435761) % 4294967296=x at *
 have hp:(0:Int)<2 ^ (32-k):=Int.pow_pos (by decide)
 refine⟨Int.ediv_nonneg h1 (Int.le_of_lt hp),?_⟩
 apply Int.ediv_lt_of_lt_mul hp
 have:((2 ^ k:Nat):Int)*2 ^ (32-k)=4294967296:=by
  rcases Qj h4 h16 with rfl | rfl | rfl | rfl | rfl | rfl | rfl | rfl | rfl | rfl | rfl | rfl | rfl<;>decide
 rw[this];exact h2
theorem J7{cb k:Nat}{s:qd}{ib hb rb tb:Nat}{tc:TypeId}(h:St w0 w H)(hcb:(cb,Cs (CCs s ib hb rb tb) tc)∈H)(hk:s.k=k)(h4:4<=k)(h16:k<=16)(ht:qgn H){at_:Int}(h0:0<=at_)(h1:at_<4294967296)
  (hK:∀ w',St w0 w' H->K (J (ze k at_)) w'):q9 P 111 [.pointer (some ⟨cb,0,none⟩),U at_] w K:=by
 obtain⟨t,ht⟩:=ht
 refine qBf h4 h16 ht h ?_ h0 h1 (hK w h)
 rw[qa,qw (h.has _ _ hcb),<-hk]
 show some (J (2 ^ s.k:Nat))=some (J (2 ^ s.k))
 rw[Int.natCast_pow];rfl
theorem Zq{p:Option Addr}{x:Int}(h:St w0 w H) (hK:∀ w' b1 b2,w0.heap.size<=b1->w0.heap.size<=b2->St w0 w' ((b2,Cs [J x] 3)::(b1,Cs [.pointer p] 28)::H)->
  K (.func (.func 153) #[] #[.pointer (some (Addr.mk b1 0 none)),.pointer (some (Addr.mk b2 0 none))]) w'):q9 P 110 [.pointer p,J x] w K:=by
 refine qDo _ _ _ _ ?_
 rw[qFd]
 exact h.newC fun n2 w3 h2 h3=>h3.newC fun n4 w5 h4 h5=>hK w5 n2 n4 h2 h4 h5
theorem vX{t:List Int}{i:Nat}(hi:i<t.length):t[i]?=some (qk t i):=by
 unfold qk;rw[List.getElem?_eq_getElem hi];rfl
end Go.Fx.Tryz
namespace Go.Fx.Tryz
open Go Go.Fx Go.Fx.Ch
open Go.Proofs
set_option linter.all false
set_option maxRecDepth 20000
variable {w0 w:World} {H G:qE} {K:KT}
structure q6n (H G:qE) (s:qd) (cb ib hb rb tb:Nat) (ies:Array MapEntry) (iclk:Nat) (tc:TypeId):Prop where
 c:(cb,Cs (CCs s ib hb rb tb) tc)∈H
 i:(ib,.map ies iclk)∈H
 bits:qgn H
 its:zY G ies iclk s.items
 k4:4<=s.k
 k16:s.k<=16
 tl:s.table.length=2 ^ s.k
structure qFO (H G:qE) (s:qd) (cb ib hb rb tb:Nat) (ies:Array MapEntry) (iclk:Nat) (tc tt:TypeId):Prop extends q6n H G s cb ib hb rb tb ies iclk tc where
 t:(tb,Cs (s.table.map U) tt)∈H
variable {s:qd} {cb ib hb rb tb:Nat} {ies:Array MapEntry} {iclk:Nat} {tc tt:TypeId}
theorem qM0:qx P 24=#[U 0]:=kr
theorem zc3:qx P 3=#[J 0]:=kr
theorem quL(a b:Addr)(d0:List Deferred)(w:World)(K:KT) :
  zr P qeG (qi.mk 39 [(4,(Value.pointer (some a))),(5,(Value.pointer (some b)))] d0) K [] w=(∃ x:Int,w.cell? a=some (U x)/\∃ y:Int,w.cell? b=some (J y)/\K (.tuple [U x,J y].toArray) w):=kr
theorem qrH(a b v6 v3 v2:Addr)(d0:List Deferred)(w:World)(K:KT) :
  zr P qeG (qi.mk 39 [(5,(Value.pointer (some b))),(4,(Value.pointer (some a))),(6,(Value.pointer (some v6))),(3,(Value.pointer (some v3))),(2,(Value.pointer (some v2)))] d0) K [] w=(∃ x:Int,w.cell? a=some (U x)/\∃ y:Int,w.cell? b=some (J y)/\K (.tuple [U x,J y].toArray) w):=kr
def Lbl(n18 n10 n8 n6 n4 cb:Nat)(i:Int)(at_ r1 r2:Int):List (Nat × Obj):=[(n18,Cs [J i] 3),(n10,Cs [J r2] 3),(n8,Cs [U r1] 24),(n6,Cs [U at_] 24),(n4,Cs [.pointer (some (Addr.mk cb 0 none))] 28)]
theorem qme(h:St w0 w H)(hk:qFO H G s cb ib hb rb tb ies iclk tc tt)(hG:∀ u∈G,u∈H){at_:Int}(h0:0<=at_)(h1:at_<4294967296)
  (hK:∀ w',St w0 w' H->K (.tuple [U (zE s at_).1,J (zE s at_).2].toArray) w'):q9 P 68 [.pointer (some ⟨cb,0,none⟩),U at_] w K:=by
 refine qIB _ _ _ _ ?_
 rw[qHN,qoO,qM0,zc3]
 refine h.newC fun n4 w5 hn4 h5=>h5.newC fun n6 w7 hn6 h7=>h7.newC fun n8 w9 hn8 h9=>h9.newC fun n10 w11 hn10 h11=>?_
 rw[qpg,zc3]
 refine h11.newC fun n18 w19 hn18 h19=>?_
 refine h19.st1 (k:=0) rfl (by simp) rfl fun w20 h20=>?_
 have h20:St w0 w20 (Lbl n18 n10 n8 n6 n4 cb 0 at_ 0 0++H):=h20
 rw[qra]
 have h21:=h20.drew
 refine⟨_,h21.cell (k:=4) rfl,_,h21.cell (k:=4) rfl,_,h21.cell (k:=3) rfl,?_⟩
 have mm:∀ {L:qE},qgn (L++H):=fun {L}=>by obtain⟨t,ht⟩:=hk.bits;exact⟨t,List.mem_append_right _ ht⟩
 refine J7 (s:=s) h21 (List.mem_append_right _ hk.c) rfl hk.k4 hk.k16 mm h0 h1 fun w32 h32=>⟨_,rfl,h32.cell (k:=4) rfl,?_⟩
 refine Zq h32 fun w35 b1 b2 hb1 hb2 h35=>⟨_,rfl,?_⟩
 rw[qqH]
 have hh:=q0s hk.k4 hk.k16 (k:=s.k) (at_:=at_) h0
 obtain⟨frm,hfrm⟩:=Int.eq_ofNat_of_zero_le hh.1
 rw[hfrm]at h35
 have hfr:frm<2 ^ s.k:=by omega
 have hlook:zE s at_=vG s.items s.table s.k at_ frm (2 ^ s.k) 0:=by unfold zE;rw[hfrm];rfl
 have hp:=zo hk.k4 hk.k16
 have htl:=hk.tl
 refine Zh (k:=s.k) (from_:=frm) (ca:=⟨cb,0,none⟩) (b1:=b1) (b2:=b2) (t1:=28) (t2:=3) hk.k4 hk.k16 hfr h35
  (fun i X=>X=(b2,Cs [J frm] 3)::(b1,Cs [.pointer (some (Addr.mk cb 0 none))] 28)::(Lbl n18 n10 n8 n6 n4 cb i at_ 0 0++H)/\i<=2 ^ s.k/\vG s.items s.table s.k at_ frm (2 ^ s.k-i) i=zE s at_)
  (fun c X=>c=.ret/\∃ i,X=(b2,Cs [J frm] 3)::(b1,Cs [.pointer (some (Addr.mk cb 0 none))] 28)::(Lbl n18 n10 n8 n6 n4 cb i at_ (zE s at_).1 (zE s at_).2++H))
  ⟨rfl,Nat.zero_le _,hlook.symm⟩ ?_ ?_ ?_ ?_
 ·rintro i X ⟨rfl,_,_⟩
  refine⟨.tail _ (.head _),.head _,_,_,rfl,.tail _ (.tail _ (List.mem_append_right _ hk.c)),rfl⟩
 ·rintro l l' R post i W X hi ⟨rfl,_,hgo⟩ hs hl hl' hpost hret
  rw[qea]
  refine⟨rfl,?_⟩
  rw[qgG]
  refine⟨hs.get (k:=0) rfl,?_⟩
  have h40:=hs.put (k:=0) rfl (.loop (R .busy none))
  rw[qpD]
  refine⟨_,h40.cell (k:=4) rfl,?_⟩
  refine h40.st1 (k:=4) rfl (by simp) rfl fun w56 h56=>?_
  rw[qc (x:=(i:Int)+1) om om]at h56
  have h56:St w0 w56 ((l,.loop (R .busy none))::(l',.deferred (some []))::(b2,Cs [J frm] 3)::(b1,Cs [.pointer (some (Addr.mk cb 0 none))] 28)::(Lbl n18 n10 n8 n6 n4 cb ((i+1:Nat):Int) at_ 0 0++H)):=h56
  have up:∀ {u},u∈H->u∈(l,Obj.loop (R .busy none))::(l',.deferred (some []))::(b2,Cs [J frm] 3)::(b1,Cs [.pointer (some (Addr.mk cb 0 none))] 28)::(Lbl n18 n10 n8 n6 n4 cb ((i+1:Nat):Int) at_ 0 0++H):=fun {u} hu=>.tail _ (.tail _ (.tail _ (.tail _ (List.mem_append_right _ hu))))
  have hmod:(frm+i) % 2 ^ s.k<s.table.length:=by rw[htl];exact Nat.mod_lt _ om
  generalize hj:(frm+i) % 2 ^ s.k=j at *
  refine⟨_,h56.cell (k:=8) rfl,some ⟨tb,0,none⟩,2 ^ s.k,2 ^ s.k,by rw[qa,qw (h56.has _ _ (up hk.c))];rfl,by omega,by omega,?_⟩
  refine⟨qk s.table j,?_,?_⟩
  ·rw[Int.toNat_natCast,Nat.mul_one,qa,qw (h56.has _ _ (up hk.t)),Nat.zero_add,List.getElem?_map,vX hmod];rfl
  have hst:vG s.items s.table s.k at_ frm (2 ^ s.k-i) i=if qk s.table j=0 then(0,i+1)
    else if(qj s.items (qk s.table j)).at_=at_ then(qk s.table j,i+1)else vG s.items s.table s.k at_ frm (2 ^ s.k-(i+1)) (i+1):=by
   rw[show 2 ^ s.k-i=(2 ^ s.k-(i+1))+1 by omega]
   show(if qk s.table ((frm+i) % 2 ^ s.k)=0 then _ else _)=_
   rw[hj]
  rw[qg]
  refine⟨fun hz=>?_,fun hz=>?_⟩
  ·have hz:qk s.table j=0:=by simpa using hz
   have hres:zE s at_=(0,i+1):=by rw[<-hgo,hst,if_pos hz]
   have h57:=h56.drew
   refine⟨_,h57.cell (k:=4) rfl,?_⟩
   refine h57.st1 (k:=6) rfl (by simp) rfl fun w63 h63=>⟨h63.cell (k:=4) rfl,?_⟩
   refine h63.st1 (k:=5) rfl (by simp) rfl fun w64 h64=>?_
   rw[qp1]
   refine⟨h64.get (k:=0) rfl,?_⟩
   have h65:=h64.put (k:=0) rfl (.loop (R .done (some .ret)))
   refine hret .ret _ _ ⟨rfl,((i+1:Nat):Int),rfl⟩ ?_
   rw[hres]
   exact h65
  ·have hz:qk s.table j≠0:=by simpa using hz
   rw[qpd]
   have h57:=h56.drew
   obtain⟨v,hv,hlk,_⟩:=hk.its.look (h57.has _ _ (up hk.i)) (qk s.table j)
   obtain⟨⟨sv,cv,rfl,_,_⟩,_,_⟩:=hv
   refine⟨_,h57.cell (k:=8) rfl,some ib,by rw[qa,qw (h57.has _ _ (up hk.c))];rfl,_,hlk,_,rfl,_,h57.cell (k:=7) rfl,?_⟩
   rw[qg]
   refine⟨fun ha=>?_,fun ha=>?_⟩
   ·have ha:(qj s.items (qk s.table j)).at_=at_:=by simpa using ha
    have hres:zE s at_=(qk s.table j,i+1):=by rw[<-hgo,hst,if_neg hz,if_pos ha]
    have h58:=h57.drew
    refine⟨_,h58.cell (k:=4) rfl,?_⟩
    refine h58.st1 (k:=6) rfl (by simp) rfl fun w63 h63=>⟨h63.cell (k:=4) rfl,?_⟩
    refine h63.st1 (k:=5) rfl (by simp) rfl fun w64 h64=>?_
    rw[qqN]
    refine⟨h64.get (k:=0) rfl,?_⟩
    have h65:=h64.put (k:=0) rfl (.loop (R .done (some .ret)))
    refine hret .ret _ _ ⟨rfl,((i+1:Nat):Int),rfl⟩ ?_
    rw[hres]
    exact h65
   ·have ha:(qj s.items (qk s.table j)).at_≠at_:=by simpa using ha
    refine⟨h57.get (k:=0) rfl,?_⟩
    have h65:=h57.put (k:=0) rfl (.loop (R .ready none))
    refine hpost _ _ ⟨rfl,by omega,?_⟩ h65
    rw[<-hgo,hst,if_neg hz,if_neg ha]
 ·rintro W X l' hl' ⟨rfl,_,hgo⟩ hs
  show qkn ..
  rw[qij,qqd]
  have hres:zE s at_=(0,2 ^ s.k):=by rw[<-hgo,Nat.sub_self];rfl
  have h57:=hs.drew
  refine⟨_,h57.cell (k:=3) rfl,?_⟩
  refine h57.st1 (k:=5) rfl (by simp) rfl fun w63 h63=>⟨h63.cell (k:=3) rfl,?_⟩
  refine h63.st1 (k:=4) rfl (by simp) rfl fun w64 h64=>?_
  rw[qfM]
  show w64.heap[l']?=some (.deferred (some []))/\zr P qeG _ K [] (w64.putObj l' (.deferred none))
  refine⟨h64.get (k:=0) rfl,?_⟩
  rw[quL]
  have h65:=h64.put (k:=0) rfl (.deferred none)
  refine⟨_,h65.cell (k:=5) rfl,_,h65.cell (k:=4) rfl,?_⟩
  have hK:=hK _ ((((((((h65.tail hl').tail hb2).tail hb1).tail hn18).tail hn10).tail hn8).tail hn6).tail hn4)
  rw[hres]at hK
  exact hK
 ·rintro c W X l' hl' ⟨rfl,i,rfl⟩ hs
  show qjf ..
  rw[qhY]
  show W.heap[l']?=some (.deferred (some []))/\zr P qeG _ K [] (W.putObj l' (.deferred none))
  refine⟨hs.get (k:=0) rfl,?_⟩
  rw[qrH]
  have h65:=hs.put (k:=0) rfl (.deferred none)
  refine⟨_,h65.cell (k:=5) rfl,_,h65.cell (k:=4) rfl,?_⟩
  exact hK _ ((((((((h65.tail hl').tail hb2).tail hb1).tail hn18).tail hn10).tail hn8).tail hn6).tail hn4)
end Go.Fx.Tryz
namespace Go.Fx.Tryz
open Go Go.Fx Go.Fx.Ch
open Go.Proofs
set_option linter.all false
set_option maxRecDepth 20000
variable {w0 w:World} {H G:qE} {K:KT} {s:qd} {cb ib hb rb tb:Nat} {ies:Array MapEntry} {iclk:Nat} {tc tt:TypeId}
theorem qcK(e:List (Nat × Value))(d0:List Deferred)(w:World)(K:KT):zr P qrz (qi.mk 32 e d0) K [] w=K (.tuple [].toArray) w:=kr
theorem qqk(e:List (Nat × Value))(d0:List Deferred)(w:World)(K:KT):zr P q4i (qi.mk 105 e d0) K [] w=K (.tuple [].toArray) w:=kr
theorem qtM(e:List (Nat × Value))(d:List Deferred)(w:World)(K:KT):(VV K) (.exit 0) (qi.mk 105 e d) w=zr P q4i (qi.mk 105 e d) K d w:=kr
theorem YP(k:Nat)(id:Int)(frm:Nat):∀ (f n:Nat) (t:List Int),(Zi k id frm t f n).length=t.length
 | 0,n,t=>rfl
 | f+1,n,t=>by
  unfold Zi
  split
  ·simp
  ·exact YP k id frm f (n+1) t
theorem qqX(h:St w0 w ((tb,Cs (s.table.map U) tt)::H))(hk:q6n H G s cb ib hb rb tb ies iclk tc)(hG:∀ u∈G,u∈H){id:Int}
  (hK:∀ w',St w0 w' ((tb,Cs ((v8 s id).map U) tt)::H)->K (.tuple [].toArray) w'):q9 P 63 [.pointer (some ⟨cb,0,none⟩),U id] w K:=by
 refine qIY _ _ _ _ ?_
 rw[qHo]
 refine h.newC fun n2 w3 hn2 h3=>h3.newC fun n4 w5 hn4 h5=>?_
 have h6:=h5.drew
 have up:∀ {L:qE} {u},u∈H->u∈L++H:=fun hu=>List.mem_append_right _ hu
 have h6:St w0 w5.drew ([(n4,Cs [U id] 24),(n2,Cs [.pointer (some (Addr.mk cb 0 none))] 28),(tb,Cs (s.table.map U) tt)]++H):=h6
 obtain⟨v,hv,hlk,_⟩:=hk.its.look (h6.has _ _ (up hk.i)) id
 obtain⟨⟨sv,cv,rfl,_,_⟩,ha0,ha1⟩:=hv
 refine⟨_,h6.cell (k:=1) rfl,_,h6.cell (k:=1) rfl,_,h6.cell (k:=1) rfl,some ib,by rw[qa,qw (h6.has _ _ (up hk.c))];rfl,_,h6.cell (k:=0) rfl,_,hlk,_,rfl,?_⟩
 have mm:∀ {L:qE},qgn (L++H):=fun {L}=>by obtain⟨t,ht⟩:=hk.bits;exact⟨t,List.mem_append_right _ ht⟩
 refine J7 (s:=s) h6 (up hk.c) rfl hk.k4 hk.k16 mm ha0 ha1 fun w32 h32=>⟨_,rfl,h32.cell (k:=1) rfl,?_⟩
 refine Zq h32 fun w35 b1 b2 hb1 hb2 h35=>⟨_,rfl,?_⟩
 rw[qqB]
 have hh:=q0s hk.k4 hk.k16 (k:=s.k) ha0
 obtain⟨frm,hfrm⟩:=Int.eq_ofNat_of_zero_le hh.1
 rw[hfrm]at h35
 have hfr:frm<2 ^ s.k:=by omega
 have hins:v8 s id=Zi s.k id frm s.table (2 ^ s.k) 0:=by unfold v8;rw[hfrm];rfl
 have hp:=zo hk.k4 hk.k16
 have htl:=hk.tl
 refine Zh (k:=s.k) (from_:=frm) (ca:=⟨cb,0,none⟩) (b1:=b1) (b2:=b2) (t1:=28) (t2:=3) hk.k4 hk.k16 hfr h35
  (fun i X=>X=(b2,Cs [J frm] 3)::(b1,Cs [.pointer (some (Addr.mk cb 0 none))] 28)::([(n4,Cs [U id] 24),(n2,Cs [.pointer (some (Addr.mk cb 0 none))] 28),(tb,Cs (s.table.map U) tt)]++H)/\i<=2 ^ s.k/\Zi s.k id frm s.table (2 ^ s.k-i) i=v8 s id)
  (fun c X=>c=.ret/\X=(b2,Cs [J frm] 3)::(b1,Cs [.pointer (some (Addr.mk cb 0 none))] 28)::([(n4,Cs [U id] 24),(n2,Cs [.pointer (some (Addr.mk cb 0 none))] 28),(tb,Cs ((v8 s id).map U) tt)]++H))
  ⟨rfl,Nat.zero_le _,hins.symm⟩ ?_ ?_ ?_ ?_
 ·rintro i X ⟨rfl,_,_⟩
  exact⟨.tail _ (.head _),.head _,_,_,rfl,.tail _ (.tail _ (up hk.c)),rfl⟩
 ·rintro l l' R post i W X hi ⟨rfl,_,hgo⟩ hs hl hl' hpost hret
  rw[qdU]
  refine⟨rfl,?_⟩
  rw[qeg]
  refine⟨hs.get (k:=0) rfl,?_⟩
  have h40:=hs.put (k:=0) rfl (.loop (R .busy none))
  have h40:St w0 _ ((l,.loop (R .busy none))::(l',.deferred (some []))::(b2,Cs [J frm] 3)::(b1,Cs [.pointer (some (Addr.mk cb 0 none))] 28)::(n4,Cs [U id] 24)::(n2,Cs [.pointer (some (Addr.mk cb 0 none))] 28)::(tb,Cs (s.table.map U) tt)::H):=h40
  rw[qr8]
  have hc:(cb,Cs (CCs s ib hb rb tb) tc)∈((l,Obj.loop (R .busy none))::(l',.deferred (some []))::(b2,Cs [J frm] 3)::(b1,Cs [.pointer (some (Addr.mk cb 0 none))] 28)::(n4,Cs [U id] 24)::(n2,Cs [.pointer (some (Addr.mk cb 0 none))] 28)::(tb,Cs (s.table.map U) tt)::H):=.tail _ (.tail _ (.tail _ (.tail _ (.tail _ (.tail _ (.tail _ hk.c))))))
  have hmod:(frm+i) % 2 ^ s.k<s.table.length:=by rw[htl];exact Nat.mod_lt _ om
  have hst:Zi s.k id frm s.table (2 ^ s.k-i) i=if qk s.table ((frm+i) % 2 ^ s.k)=0 then s.table.set ((frm+i) % 2 ^ s.k) id else Zi s.k id frm s.table (2 ^ s.k-(i+1)) (i+1):=by
   rw[show 2 ^ s.k-i=(2 ^ s.k-(i+1))+1 by omega]
   rfl
  generalize hj:(frm+i) % 2 ^ s.k=j at *
  refine⟨_,h40.cell (k:=5) rfl,some ⟨tb,0,none⟩,2 ^ s.k,2 ^ s.k,by rw[qa,qw (h40.has _ _ hc)];rfl,by omega,by omega,qk s.table j,?_,?_⟩
  ·rw[Int.toNat_natCast,Nat.mul_one,qa,h40.cell (k:=6) rfl,Nat.zero_add,List.getElem?_map,vX hmod];rfl
  rw[qg]
  refine⟨fun hz=>?_,fun hz=>?_⟩
  ·have hz:qk s.table j=0:=by simpa using hz
   have h41:=h40.drew
   refine⟨_,h41.cell (k:=5) rfl,some ⟨tb,0,none⟩,2 ^ s.k,2 ^ s.k,by rw[qa,qw (h41.has _ _ hc)];rfl,_,h41.cell (k:=4) rfl,by omega,by omega,?_⟩
   show zW ((Addr.mk tb 0 none).add _) _ _ _
   rw[qa,Int.toNat_natCast,Nat.mul_one,Nat.zero_add]
   refine h41.st1 (k:=6) rfl (by simpa using hmod) rfl fun w39 h42=>?_
   rw[qrK]
   refine⟨h42.get (k:=0) rfl,?_⟩
   have h43:=h42.put (k:=0) rfl (.loop (R .done (some .ret)))
   refine hret .ret _ _ ⟨rfl,rfl⟩ ?_
   rw[<-hgo,hst,if_pos hz,List.map_set]
   exact h43
  ·have hz:qk s.table j≠0:=by simpa using hz
   refine⟨h40.get (k:=0) rfl,?_⟩
   have h43:=h40.put (k:=0) rfl (.loop (R .ready none))
   refine hpost _ _ ⟨rfl,by omega,?_⟩ h43
   rw[<-hgo,hst,if_neg hz]
 ·rintro W X l' hl' ⟨rfl,_,hgo⟩ hs
  show qlx (Addr.mk n4 0 none) (Addr.mk n2 0 none) [mk l'] W K
  rw[qe6]
  show W.heap[l']?=some (.deferred (some []))/\zr P qrz _ K [] (W.putObj l' (.deferred none))
  refine⟨hs.get (k:=0) rfl,?_⟩
  rw[qcK]
  have h65:=hs.put (k:=0) rfl (.deferred none)
  have hres:v8 s id=s.table:=by rw[<-hgo,Nat.sub_self];rfl
  have hK:=hK (W.putObj l' (.deferred none))
  rw[hres]at hK
  exact hK (((((h65.tail hl').tail hb2).tail hb1).tail hn4).tail hn2)
 ·rintro c W X l' hl' ⟨rfl,rfl⟩ hs
  show qo5 (Addr.mk n4 0 none) (Addr.mk n2 0 none) [mk l'] W K
  rw[qde]
  show W.heap[l']?=some (.deferred (some []))/\zr P qrz _ K [] (W.putObj l' (.deferred none))
  refine⟨hs.get (k:=0) rfl,?_⟩
  rw[qcK]
  have h65:=hs.put (k:=0) rfl (.deferred none)
  exact hK _ (((((h65.tail hl').tail hb2).tail hb1).tail hn4).tail hn2)
theorem q3m{k:Nat}(h4:4<=k)(h16:k<=16){x:Int}(h0:-1000000<x)(h1:x<1000000) :
  IntKind.wrap .i64 ((BitVec.ofInt (IntKind.bits .i64) (IntKind.wrap .i64 x) &&& BitVec.ofInt (IntKind.bits .i64) (IntKind.wrap .i64 (((2 ^ k:Nat):Int)-1))).toNat:Int)=x % 2 ^ k:=by
 have hp:=zo h4 h16
 have e1:((2 ^ k:Nat):Int)-1=((2 ^ k-1:Nat):Int):=by omega
 rw[e1,qc (x:=((2 ^ k-1:Nat):Int)) om om,qc (x:=x) om om]
 have e:(BitVec.ofInt (IntKind.bits .i64) x &&& BitVec.ofInt (IntKind.bits .i64) ((2 ^ k-1:Nat):Int)).toNat=(x % 18446744073709551616).toNat % 2 ^ k:=by
  show(BitVec.ofInt 64 x &&& BitVec.ofInt 64 ((2 ^ k-1:Nat):Int)).toNat=_
  rw[BitVec.toNat_and,BitVec.ofInt_natCast,BitVec.toNat_ofNat,Nat.mod_eq_of_lt (a:=2 ^ k-1) om,BitVec.toNat_ofInt,Nat.and_two_pow_sub_one_eq_mod]
  rfl
 have hlt:(x % 18446744073709551616).toNat % 2 ^ k<2 ^ k:=Nat.mod_lt _ om
 rw[e,qc om om]
 have hnn:0<=x % 18446744073709551616:=Int.emod_nonneg _ (by decide)
 rw[Int.natCast_emod,Int.toNat_of_nonneg hnn,Int.natCast_pow]
 show x % 18446744073709551616 % 2 ^ k=_
 apply Int.emod_emod_of_dvd
 rcases Qj h4 h16 with rfl | rfl | rfl | rfl | rfl | rfl | rfl | rfl | rfl | rfl | rfl | rfl | rfl<;>decide
def q8f:Option Nat->Int
 | none=>-1
 | some h=>h
def Rbl(n12 n6 n4 tb cb:Nat)(tt:TypeId)(id:Int)(ho:Option Nat)(t:List Int):List (Nat × Obj):=[(n12,Cs [J (q8f ho)] 3),(n6,Cs [U id] 24),(n4,Cs [.pointer (some (Addr.mk cb 0 none))] 28),(tb,Cs (t.map U) tt)]
theorem qrL(h:St w0 w ((tb,Cs (s.table.map U) tt)::H))(hk:q6n H G s cb ib hb rb tb ies iclk tc)(hG:∀ u∈G,u∈H){id:Int}
  (hK:∀ w',(zH s id).length=2 ^ s.k->St w0 w' ((tb,Cs ((zH s id).map U) tt)::H)->K (.tuple [].toArray) w'):q9 P 103 [.pointer (some ⟨cb,0,none⟩),U id] w K:=by
 refine qE6 _ _ _ _ ?_
 rw[qzy,qfa]
 refine h.newC fun n4 w5 hn4 h5=>h5.newC fun n6 w7 hn6 h7=>?_
 rw[qdc,zc3]
 refine h7.newC fun n12 w13 hn12 h13=>?_
 refine h13.st1 (k:=0) rfl (by simp) rfl fun w14 h14=>?_
 have h14:St w0 w14 (Rbl n12 n6 n4 tb cb tt id none s.table++H):=h14
 rw[qhR,qew]
 have h6:=h14.drew
 have up:∀ {L:qE} {u},u∈H->u∈L++H:=fun hu=>List.mem_append_right _ hu
 obtain⟨v,hv,hlk,_⟩:=hk.its.look (h6.has _ _ (up hk.i)) id
 obtain⟨⟨sv,cv,rfl,_,_⟩,ha0,ha1⟩:=hv
 refine⟨_,h6.cell (k:=2) rfl,_,h6.cell (k:=2) rfl,_,h6.cell (k:=2) rfl,some ib,by rw[qa,qw (h6.has _ _ (up hk.c))];rfl,_,h6.cell (k:=1) rfl,_,hlk,_,rfl,?_⟩
 have mm:∀ {L:qE},qgn (L++H):=fun {L}=>by obtain⟨t,ht⟩:=hk.bits;exact⟨t,List.mem_append_right _ ht⟩
 refine J7 (s:=s) h6 (up hk.c) rfl hk.k4 hk.k16 mm ha0 ha1 fun w32 h32=>⟨_,rfl,h32.cell (k:=2) rfl,?_⟩
 refine Zq h32 fun w35 b1 b2 hb1 hb2 h35=>⟨_,rfl,?_⟩
 rw[qgS]
 have hh:=q0s hk.k4 hk.k16 (k:=s.k) ha0
 obtain⟨frm,hfrm⟩:=Int.eq_ofNat_of_zero_le hh.1
 rw[hfrm]at h35
 have hfr:frm<2 ^ s.k:=by omega
 have hrem:zH s id=yq s.items s.k id frm (2 ^ s.k) 0 none s.table:=by unfold zH;rw[hfrm];rfl
 have hp:=zo hk.k4 hk.k16
 have fin:∀ {W:World} {l':Nat} {ho:Option Nat} {t:List Int},w0.heap.size<=l'->t.length=2 ^ s.k->t=zH s id->St w0 W ((l',.deferred (some []))::(b2,Cs [J frm] 3)::(b1,Cs [.pointer (some (Addr.mk cb 0 none))] 28)::(Rbl n12 n6 n4 tb cb tt id ho t++H))->
   zr P q4i (qi.mk 105 [(4,(Value.pointer (some (Addr.mk n12 0 none)))),(2,(Value.pointer (some (Addr.mk n4 0 none)))),(3,(Value.pointer (some (Addr.mk n6 0 none))))] [mk l']) K [mk l'] W:=fun {W l' ho t} hl' htl ht hs=>by
  show W.heap[l']?=some (.deferred (some []))/\zr P q4i _ K [] (W.putObj l' (.deferred none))
  refine⟨hs.get (k:=0) rfl,?_⟩
  rw[qqk]
  have h65:=hs.put (k:=0) rfl (.deferred none)
  subst ht
  exact hK _ htl ((((((h65.tail hl').tail hb2).tail hb1).tail hn12).tail hn6).tail hn4)
 refine Zh (k:=s.k) (from_:=frm) (ca:=⟨cb,0,none⟩) (b1:=b1) (b2:=b2) (t1:=28) (t2:=3) hk.k4 hk.k16 hfr h35
  (fun i X=>∃ ho t,X=(b2,Cs [J frm] 3)::(b1,Cs [.pointer (some (Addr.mk cb 0 none))] 28)::(Rbl n12 n6 n4 tb cb tt id ho t++H)/\i<=2 ^ s.k/\t.length=2 ^ s.k/\(∀ h,ho=some h->h<2 ^ s.k)/\yq s.items s.k id frm (2 ^ s.k-i) i ho t=zH s id)
  (fun c X=>c=.exit 0/\∃ ho t,X=(b2,Cs [J frm] 3)::(b1,Cs [.pointer (some (Addr.mk cb 0 none))] 28)::(Rbl n12 n6 n4 tb cb tt id ho t++H)/\t.length=2 ^ s.k/\t=zH s id)
  ⟨none,s.table,rfl,Nat.zero_le _,hk.tl,by simp,hrem.symm⟩ ?_ ?_ ?_ ?_
 ·rintro i X ⟨ho,t,rfl,_⟩
  exact⟨.tail _ (.head _),.head _,_,_,rfl,.tail _ (.tail _ (up hk.c)),rfl⟩
 ·rintro l l' R post i W X hi ⟨ho,t,rfl,_,htl,hhl,hgo⟩ hs hl hl' hpost hret
  rw[q9w]
  refine⟨rfl,?_⟩
  rw[q9O]
  refine⟨hs.get (k:=0) rfl,?_⟩
  have h40:=hs.put (k:=0) rfl (.loop (R .busy none))
  have h40:St w0 _ ((l,.loop (R .busy none))::(l',.deferred (some []))::(b2,Cs [J frm] 3)::(b1,Cs [.pointer (some (Addr.mk cb 0 none))] 28)::(Rbl n12 n6 n4 tb cb tt id ho t++H)):=h40
  rw[qgY]
  have hc:∀ {X:qE} {x0 x1 x2 x3},(cb,Cs (CCs s ib hb rb tb) tc)∈(x0::x1::x2::x3::(X++H)):=fun {X x0 x1 x2 x3}=>.tail _ (.tail _ (.tail _ (.tail _ (List.mem_append_right _ hk.c))))
  have hii:∀ {X:qE} {x0 x1 x2 x3},(ib,Obj.map ies iclk)∈(x0::x1::x2::x3::(X++H)):=fun {X x0 x1 x2 x3}=>.tail _ (.tail _ (.tail _ (.tail _ (List.mem_append_right _ hk.i))))
  have hmod:(frm+i) % 2 ^ s.k<t.length:=by rw[htl];exact Nat.mod_lt _ om
  have hst:yq s.items s.k id frm (2 ^ s.k-i) i ho t=yq s.items s.k id frm ((2 ^ s.k-(i+1))+1) i ho t:=by rw[show 2 ^ s.k-i=(2 ^ s.k-(i+1))+1 by omega]
  rw[hst]at hgo
  have ready:∀ {W':World} {ho':Option Nat} {t':List Int},St w0 W' ((l,.loop (R .busy none))::(l',.deferred (some []))::(b2,Cs [J frm] 3)::(b1,Cs [.pointer (some (Addr.mk cb 0 none))] 28)::(Rbl n12 n6 n4 tb cb tt id ho' t'++H))->t'.length=2 ^ s.k->
    (∀ h,ho'=some h->h<2 ^ s.k)->yq s.items s.k id frm (2 ^ s.k-(i+1)) (i+1) ho' t'=zH s id->W'.heap[l]?=some (.loop (R .busy none))/\post none (W'.putObj l (.loop (R .ready none))):=fun {W' ho' t'} hs h1 h2 h3=>by
   refine⟨hs.get (k:=0) rfl,?_⟩
   have h43:=hs.put (k:=0) rfl (.loop (R .ready none))
   exact hpost _ _ ⟨ho',t',rfl,by omega,h1,h2,h3⟩ h43
  refine⟨_,h40.cell (k:=4) rfl,?_⟩
  cases ho with
  | none=>
   have hlt:decide (q8f none<0)=true:=rfl
   rw[hlt]
   simp only[qe]
   have hst2:yq s.items s.k id frm ((2 ^ s.k-(i+1))+1) i none t=if qk t ((frm+i) % 2 ^ s.k)=id then yq s.items s.k id frm (2 ^ s.k-(i+1)) (i+1) (some ((frm+i) % 2 ^ s.k)) (t.set ((frm+i) % 2 ^ s.k) 0)else yq s.items s.k id frm (2 ^ s.k-(i+1)) (i+1) none t:=rfl
   rw[hst2]at hgo
   generalize hj:(frm+i) % 2 ^ s.k=j at *
   have h41:=h40.drew
   refine⟨_,h41.cell (k:=6) rfl,some ⟨tb,0,none⟩,2 ^ s.k,2 ^ s.k,by rw[qa,qw (h41.has _ _ hc)];rfl,by omega,by omega,qk t j,?_,id,h41.cell (k:=5) rfl,?_⟩
   ·rw[Int.toNat_natCast,Nat.mul_one,qa,h41.cell (k:=7) rfl,Nat.zero_add,List.getElem?_map,vX hmod];rfl
   rw[qg]
   refine⟨fun hz=>?_,fun hz=>?_⟩
   ·have hz:qk t j=id:=by simpa using hz
    rw[if_pos hz]at hgo
    have h42:=h41.drew
    refine⟨_,h42.cell (k:=6) rfl,some ⟨tb,0,none⟩,2 ^ s.k,2 ^ s.k,by rw[qa,qw (h42.has _ _ hc)];rfl,?_⟩
    refine h42.st1 (k:=4) rfl (by simp) rfl fun w61 h61=>?_
    have h61:St w0 w61 ((l,.loop (R .busy none))::(l',.deferred (some []))::(b2,Cs [J frm] 3)::(b1,Cs [.pointer (some (Addr.mk cb 0 none))] 28)::(Rbl n12 n6 n4 tb cb tt id (some j) t++H)):=h61
    refine⟨by rw[qa,qw (h61.has _ _ hc)];rfl,h61.cell (k:=6) rfl,by omega,by omega,?_⟩
    show zW ((Addr.mk tb 0 none).add _) _ _ _
    rw[qa,Int.toNat_natCast,Nat.mul_one,Nat.zero_add]
    refine h61.st1 (k:=7) rfl (by simpa using hmod) rfl fun w63 h63=>?_
    rw[q2l]
    refine ready (ho':=some j) (t':=t.set j 0) ?_ (by simpa using htl) (fun h e=>by cases e;omega) hgo
    rw[Rbl,List.map_set]
    exact h63
   ·have hz:qk t j≠id:=by simpa using hz
    rw[if_neg hz]at hgo
    rw[q2l]
    exact ready h41 htl hhl hgo
  | some hh'=>
   have hhh:=hhl hh' rfl
   have hlt:decide (q8f (some hh')<0)=false:=by
    show decide ((hh':Int)<0)=false
    simp
   rw[hlt]
   simp only[qb]
   have hst2:yq s.items s.k id frm ((2 ^ s.k-(i+1))+1) i (some hh') t=if qk t ((frm+i) % 2 ^ s.k)=0 then t
     else if far s.k (ze s.k (qj s.items (qk t ((frm+i) % 2 ^ s.k))).at_) ((frm+i) % 2 ^ s.k:Nat)<far s.k hh' ((frm+i) % 2 ^ s.k:Nat)then yq s.items s.k id frm (2 ^ s.k-(i+1)) (i+1) (some hh') t
     else yq s.items s.k id frm (2 ^ s.k-(i+1)) (i+1) (some ((frm+i) % 2 ^ s.k)) ((t.set hh' (qk t ((frm+i) % 2 ^ s.k))).set ((frm+i) % 2 ^ s.k) 0):=rfl
   rw[hst2]at hgo
   generalize hj:(frm+i) % 2 ^ s.k=j at *
   refine⟨_,h40.cell (k:=6) rfl,some ⟨tb,0,none⟩,2 ^ s.k,2 ^ s.k,by rw[qa,qw (h40.has _ _ hc)];rfl,by omega,by omega,qk t j,?_,?_⟩
   ·rw[Int.toNat_natCast,Nat.mul_one,qa,h40.cell (k:=7) rfl,Nat.zero_add,List.getElem?_map,vX hmod];rfl
   rw[qg]
   refine⟨fun hz=>?_,fun hz=>?_⟩
   ·have hz:qk t j=0:=by simpa using hz
    rw[if_pos hz]at hgo
    refine⟨h40.get (k:=0) rfl,?_⟩
    have h43:=h40.put (k:=0) rfl (.loop (R .done (some (.exit 0))))
    exact hret (.exit 0) _ _ ⟨rfl,some hh',t,rfl,htl,hgo⟩ h43
   ·have hz:qk t j≠0:=by simpa using hz
    rw[if_neg hz]at hgo
    rw[qd3]
    have h41:=h40.drew
    have h42:=h41.drew
    obtain⟨v,hv,hlk,_⟩:=hk.its.look (h42.has _ _ hii) (qk t j)
    obtain⟨⟨sv,cv,rfl,_,_⟩,hb0,hb1⟩:=hv
    refine⟨_,h41.cell (k:=4) rfl,_,h41.cell (k:=6) rfl,((2 ^ s.k:Nat):Int),by rw[qa,qw (h41.has _ _ hc)];rfl,_,h42.cell (k:=6) rfl,_,h42.cell (k:=6) rfl,some ib,by rw[qa,qw (h42.has _ _ hc)];rfl,_,h42.cell (k:=6) rfl,
     some ⟨tb,0,none⟩,2 ^ s.k,2 ^ s.k,by rw[qa,qw (h42.has _ _ hc)];rfl,by omega,by omega,qk t j,?_,_,hlk,_,rfl,_,h42.cell (k:=6) rfl,((2 ^ s.k:Nat):Int),by rw[qa,qw (h42.has _ _ hc)];rfl,?_⟩
    ·rw[Int.toNat_natCast,Nat.mul_one,qa,h42.cell (k:=7) rfl,Nat.zero_add,List.getElem?_map,vX hmod];rfl
    have mm2:qgn ((l,.loop (R .busy none))::(l',.deferred (some []))::(b2,Cs [J frm] 3)::(b1,Cs [.pointer (some (Addr.mk cb 0 none))] 28)::(Rbl n12 n6 n4 tb cb tt id (some hh') t++H)):=by
     obtain⟨t,ht⟩:=hk.bits
     exact⟨t,.tail _ (.tail _ (.tail _ (.tail _ (List.mem_append_right _ ht))))⟩
    have hm:=q0s hk.k4 hk.k16 (k:=s.k) hb0
    refine J7 (s:=s) h42 hc rfl hk.k4 hk.k16 mm2 hb0 hb1 fun w94 h94=>⟨_,rfl,by rw[qa,qw (h94.has _ _ hc)];rfl,h94.cell (k:=6) rfl,?_⟩
    have hjl:j<2 ^ s.k:=by omega
    have e1:q8f (some hh')=(hh':Int):=rfl
    rw[qgr,q3m hk.k4 hk.k16 (x:=(j:Int)-q8f (some hh')) (by rw[e1];omega) (by rw[e1];omega),q3m hk.k4 hk.k16 (x:=(j:Int)-ze s.k (qj s.items (qk t j)).at_) om om,qg]
    refine⟨fun hb=>?_,fun hb=>?_⟩
    ·have hb:far s.k (ze s.k (qj s.items (qk t j)).at_) j<far s.k hh' j:=of_decide_eq_true hb
     rw[if_pos hb]at hgo
     exact ready h94 htl hhl hgo
    ·have hb:¬ far s.k (ze s.k (qj s.items (qk t j)).at_) j<far s.k hh' j:=of_decide_eq_false hb
     rw[if_neg hb]at hgo
     rw[qbl]
     have h95:=h94.drew
     refine⟨_,h95.cell (k:=6) rfl,some ⟨tb,0,none⟩,2 ^ s.k,2 ^ s.k,by rw[qa,qw (h95.has _ _ hc)];rfl,_,h95.cell (k:=4) rfl,_,h95.cell (k:=6) rfl,some ⟨tb,0,none⟩,2 ^ s.k,2 ^ s.k,by rw[qa,qw (h95.has _ _ hc)];rfl,
      _,h95.cell (k:=6) rfl,some ⟨tb,0,none⟩,2 ^ s.k,2 ^ s.k,by rw[qa,qw (h95.has _ _ hc)];rfl,by omega,by omega,qk t j,?_,?_⟩
     ·rw[Int.toNat_natCast,Nat.mul_one,qa,h95.cell (k:=7) rfl,Nat.zero_add,List.getElem?_map,vX hmod];rfl
     refine⟨by rw[e1];omega,by rw[e1];omega,?_⟩
     show zW ((Addr.mk tb 0 none).add _) _ _ _
     rw[qa,e1,Int.toNat_natCast,Nat.mul_one,Nat.zero_add]
     refine h95.st1 (k:=7) rfl (by simp;omega) rfl fun w117 h117=>⟨by omega,by omega,?_⟩
     show zW ((Addr.mk tb 0 none).add _) _ _ _
     rw[qa,Int.toNat_natCast,Nat.mul_one,Nat.zero_add]
     refine h117.st1 (k:=7) rfl (by simp;omega) rfl fun w119 h119=>?_
     refine h119.st1 (k:=4) rfl (by simp) rfl fun w120 h120=>?_
     refine ready (ho':=some j) (t':=(t.set hh' (qk t j)).set j 0) ?_ (by simpa using htl) (fun h e=>by cases e;omega) hgo
     rw[Rbl,List.map_set,List.map_set]
     exact h120
 ·rintro W X l' hl' ⟨ho,t,rfl,_,htl,_,hgo⟩ hs
  show q8L (Addr.mk n12 0 none) (Addr.mk n4 0 none) (Addr.mk n6 0 none) [mk l'] W K
  rw[qb2]
  rw[Nat.sub_self]at hgo
  have hg:t=zH s id:=by cases ho<;>exact hgo
  exact fin hl' htl hg hs
 ·rintro c W X l' hl' ⟨rfl,ho,t,rfl,htl,hgo⟩ hs
  show(VV K) (.exit 0) (qi.mk 105 [(4,(Value.pointer (some (Addr.mk n12 0 none)))),(2,(Value.pointer (some (Addr.mk n4 0 none)))),(3,(Value.pointer (some (Addr.mk n6 0 none))))] [mk l']) W
  rw[qtM]
  exact fin hl' htl hgo hs
end Go.Fx.Tryz
namespace Go.Fx.Ch
theorem ZN{bs:List Int}{s:Rd}{n:Nat}(h:(rd bs s n).2.2=false):s.2=false/\(rd bs s n).2.1=s.1+n:=by
 unfold rd at h ⊢
 split at h
 ·cases h
 ·rename_i hg;rw[if_neg hg];exact⟨h,rfl⟩
theorem q1o{bs:List Int}{s:HI × Rd}:∀ i,(decV1 bs i s).2.2=false->s.2.2=false
 | 0,h=>h
 | i+1,h=>q1o i (ZN h).1
theorem qs1{fs:Nat}{bs:List Int}{s:HI × Rd}(h:(decV fs bs s).2.2=false):s.2.2=false:=by
 unfold decV at h
 split at h
 ·exact q1o 4 h
 ·exact h
theorem qDZ(x:HI)(i:Nat)(v:Int):(q45 x i v).op=x.op:=by unfold q45;split<;>rfl
theorem q0B{fs:Nat}{bs:List Int}{s:HI × Rd}:∀ i,(decI fs bs i s).1.op=s.1.op
 | 0=>rfl
 | i+1=>by
  show(decS fs bs i (decI fs bs i s)).1.op=_
  unfold decS
  split
  ·rw[qDZ];exact q0B i
  ·exact q0B i
theorem qAo(x:HI)(i:Nat)(v:Int):(q2H x i v).op=x.op:=by unfold q2H;split<;>rfl
theorem qbs{bs:List Int}{s:HI × Rd}:∀ i,(decV1 bs i s).1.op=s.1.op
 | 0=>rfl
 | i+1=>by
  show(q2H _ i _).op=_
  rw[qAo];exact qbs i
theorem qn7{fs:Nat}{bs:List Int}{s:HI × Rd}:(decV fs bs s).1.op=s.1.op:=by
 unfold decV
 split
 ·exact qbs 4
 ·rfl
theorem qnm{fs:Nat}{bs:List Int}{s:HI × Rd}:(decC fs bs s).1.op=s.1.op:=by unfold decC;split<;>rfl
theorem qkS{fs:Nat}{bs:List Int}{s:HI × Rd}:(decA fs bs s).1.op=s.1.op:=by unfold decA;split<;>rfl
theorem jt{bs:List Int}{x:HI}{n:Nat}(h:decode bs=some (x,n))(hx:x.op=39\/x.op=40):4<=n:=by
 unfold decode at h
 dsimp only at h
 split at h
 ·cases h
 ·split at h
  ·cases h
  ·rename_i hno
   simp only[Option.some.injEq,Prod.mk.injEq]at h
   obtain⟨h1,rfl⟩:=h
   have hsh:=Bool.eq_false_iff.2 (fun hh=>hno (.inl hh))
   have hop:x.op=(rd bs (0,false) 1).1:=by rw[<-h1,qn7,qnm,qkS,q0B]
   have h512:has (zi (rd bs (0,false) 1).1).1 512=true:=by
    rw[<-hop]
    rcases hx with hx | hx<;>rw[hx]<;>decide
   have hc:=qs1 hsh
   refine Nat.le_trans ?_ qmn
   generalize hy:decA (zi (rd bs (0,false) 1).1).1 bs (decI (zi (rd bs (0,false) 1).1).1 bs 8 ({ op:=(rd bs (0,false) 1).1 },(rd bs (0,false) 1).2))=y at hc ⊢
   unfold decC at hc ⊢
   rw[if_pos h512]at hc ⊢
   have:=(ZN hc).2
   show 4<=(rd bs y.2 4).2.1
   rw[this]
   omega
def Run(bs:List Int):Nat->List (HI × Nat)->Prop
 | a,[]=>a=bs.length
 | a,p::r=>p.2=a/\∃ n,decode (bs.drop a)=some (p.1,n)/\a+n<=bs.length/\Run bs (a+n) r
theorem q1K{bs:List Int}:∀ (f a:Nat) (out l:List (HI × Nat)),QE bs f a out=some l->a<=bs.length->∃ r,l=out++r/\Run bs a r
 | 0,_,_,_,h,_=>by cases h
 | f+1,a,out,l,h,ha=>by
  unfold QE at h
  split at h
  ·rename_i hlt
   split at h
   ·cases h
   ·rename_i x n hd
    split at h
    ·cases h
    ·have hl:=vg hd
     rw[List.length_drop]at hl
     obtain⟨r,rfl,hr⟩:=q1K f (a+n) _ l h om
     exact⟨(x,a)::r,by simp,rfl,n,hd,by omega,hr⟩
  ·rename_i hlt
   split at h
   ·cases h;exact⟨[],by simp,by show a=bs.length;omega⟩
   ·cases h
theorem Run.at{bs:List Int}:∀ {a:Nat} {l:List (HI × Nat)},Run bs a l->∀ {i:Nat} {p:HI × Nat},l[i]?=some p->∃ n:Nat,decode (bs.drop p.2)=some (p.1,n)/\jz bs.length l i=((p.2+n:Nat):Int)/\p.2+n<=bs.length
 | a,[],_,i,p,hp=>by simp at hp
 | a,q::r,⟨h1,n,h2,h3,h4⟩,0,p,hp=>by
  simp at hp
  subst hp
  subst h1
  refine⟨n,h2,?_,h3⟩
  unfold jz
  cases r with
  | nil=>simp at h4 ⊢;exact h4.symm▸rfl
  | cons q' r'=>
   simp only[List.getElem?_cons_succ,List.getElem?_cons_zero,Nat.zero_add]
   rw[h4.1]
 | a,q::r,⟨h1,n,h2,h3,h4⟩,i+1,p,hp=>by
  obtain⟨m,e1,e2,e3⟩:=Run.at h4 (i:=i) (p:=p) (by simpa using hp)
  exact⟨m,e1,by unfold jz at e2 ⊢;simpa using e2,e3⟩
theorem vU{bs:List Int}{l:List EX}(h:zg bs=some l){e:EX}(he:e∈l):0<=e.slot/\e.slot+4<=bs.length:=by
 unfold zg at h
 cases ha:jm bs with
 | none=>rw[ha]at h;cases h
 | some al=>
  rw[ha]at h
  simp only[Option.map_some,Option.some.injEq]at h
  subst h
  unfold Jz at he
  obtain⟨i,_,hi⟩:=List.mem_filterMap.1 he
  have hrun:Run bs 0 al:=by
   unfold jm at ha
   split at ha
   ·cases ha
   ·obtain⟨r,hr,hh⟩:=q1K _ _ _ _ ha (Nat.zero_le _)
    simp at hr;subst hr;exact hh
  unfold vh at hi
  split at hi
  ·cases hi
  ·rename_i p hp
   split at hi
   ·cases hi
   ·rename_i hop
    simp only[Option.some.injEq]at hi
    subst hi
    obtain⟨n,e1,e2,e3⟩:=hrun.at hp
    have h4:=jt e1 (by simp at hop;omega)
    rw[e2]
    dsimp only
    omega
end Go.Fx.Ch
namespace Go.Fx.Tryz
open Go Go.Fx Go.Fx.Ch
open Go.Proofs
set_option linter.all false
set_option maxRecDepth 20000
variable {w0 w:World} {H:qE} {K:KT} {ov:Value} {bs:List Int}
theorem qqs{g:Nat}{cs:List Value}{t:TypeId}(v:Array Value)(h:w.heap[g]?=some (Cs cs t)):w.setRow g v=w.putObj g (Cs v.toList t):=by
 unfold World.setRow World.putObj
 congr 1
 apply Array.ext_getElem?
 intro c
 rw[Array.getElem?_modify,Array.getElem?_setIfInBounds]
 obtain⟨hlt,he⟩:=Array.getElem?_eq_some_iff.1 h
 by_cases hbc:g=c
 ·subst hbc
  simp[hlt,he,Cs]
 ·simp[hbc]
theorem qun{gcs:List Value}{gt:TypeId}(h:St w0 w H)(hB:yl w0 H ov bs)(hg:(0,Cs gcs gt)∈H)(ht:Q7 gcs){slot c:Int}(hc0:0<=c)(hc1:c<4294967296)
  (hF:∀ w',St w0 w' H->zg bs=none->K (.tuple [.slice none 0 0,J 170].toArray) w')
  (hN:∀ w' l,St w0 w' H->zg bs=some l->(l.any fun e=>e.slot==slot)=false->K (.tuple [.slice none 0 0,J 1].toArray) w')
  (hK:∀ w' a cp L l,zg bs=some l->(l.any fun e=>e.slot==slot)=true->zx 1 5 (.slice a bs.length cp) bs.length ((zK bs slot.toNat c).map B) L->qF w0 L->St w0 w' (L++H)->K (.tuple [.slice a bs.length cp,J 0].toArray) w') :
  q9 P 123 [ov,J slot,U c] w K:=by
 obtain⟨sa,sc,rfl⟩:=(hB.row w h).form
 refine qAn _ _ _ _ _ _ _ ?_
 rw[qDq]
 refine h.newC fun n3 w4 hn3 h4=>?_
 have h4:St w0 w4 ((n3,Cs [J slot] 3)::H):=h4
 have up:∀ {X:qE},qF w0 X->yl w0 (X++H) (.slice sa bs.length sc) bs:=fun hX=>⟨fun w' h'=>hB.row w' (h'.sub hX),hB.byte,hB.len,hB.cap⟩
 have nw:qF w0 [(n3,Cs [J slot] 3)]:=fun x hx=>by rw[List.mem_singleton.1 hx];exact hn3
 have hB1:yl w0 ((n3,Cs [J slot] 3)::H) (.slice sa bs.length sc) bs:=up nw
 refine q3z h4 hB1 (.tail _ hg) ht (fun w6 h6 hn=>⟨_,_,_,_,rfl,?_⟩) fun w6 xa xc L l hl hll h6 hLN hS=>⟨_,_,_,_,rfl,?_⟩
 ·simp only[show((170:Int) != 0)=true from rfl,qe]
  exact hF w6 (h6.tail hn3) hn
 simp only[show((0:Int) != 0)=false from rfl,qb]
 rw[qdS]
 have h6':St w0 w6 (L++((n3,Cs [J slot] 3)::H)):=h6
 refine Ym (l:=l) h6' (fun w' h'=>hS.row fun u hu=>h'.has _ _ (List.mem_append_left _ hu)) (by have:=hB.len;omega) (qzW (t:=3) (List.mem_append_right _ (.head _))) fun w14 h14=>⟨_,rfl,?_⟩
 have h15:St w0 w14 ((n3,Cs [J slot] 3)::H):=h14.sub hLN
 rw[qg]
 refine⟨fun hb=>?_,fun hb=>?_⟩
 ·exact hN w14 l (h15.tail hn3) hl (by simpa using hb)
 have hany:(l.any fun e=>e.slot==slot)=true:=by simpa using hb
 obtain⟨e,he,hes⟩:=List.any_eq_true.1 hany
 have hsl:e.slot=slot:=by simpa using hes
 have hrange:=vU hl he
 rw[hsl]at hrange
 obtain⟨k,rfl⟩:=Int.eq_ofNat_of_zero_le hrange.1
 have hk4:k+4<=bs.length:=by omega
 rw[qdd]
 refine q02 h15 hB1 fun w20 ov' M hMS hMN h20=>?_
 rcases hMS.2 with⟨_,h0,_⟩ | ⟨g,cap,cur,rfl,rfl,hnc,hcm,hcl,htk⟩
 ·omega
 have h20:St w0 w20 ((g,Cs cur 5)::(n3,Cs [J k] 3)::H):=h20
 have hg0:w0.heap.size<=g:=hMN (g,Cs cur 5) (.head _)
 have h21:=h20.drew
 refine⟨_,_,_,rfl,(k:Int),h21.cell (k:=1) rfl,_,_,_,fun wq=>qmY (a:=⟨g,0,none⟩) (k:=k) om hnc wq,?_⟩
 refine qp2 h21 hc0 hc1 fun w25 ov2 L2 hS2 hN2 h25=>?_
 rcases hS2.2 with⟨_,h0,_⟩ | ⟨g2,cap2,cur2,rfl,rfl,hnc2,hcm2,hcl2,htk2⟩
 ·omega
 have h25:St w0 w25 ((g2,Cs cur2 5)::(g,Cs cur 5)::(n3,Cs [J k] 3)::H):=h25
 have hg2:w0.heap.size<=g2:=hN2 (g2,Cs cur2 5) (.head _)
 refine⟨_,_,_,rfl,h25.cell (k:=2) rfl,?_⟩
 have hl4:((le4 c).map B).length=4:=rfl
 have hrun:=run_copy_row (P:=P) w25 38 38 3 5 g k (bs.length-k) (cap-k) ⟨g2,0,none⟩ 4 cap2 cur.toArray 5 ((le4 c).map B) Tryz.underlying38 kr (h25.has g (Cs cur 5) (.tail _ (.head _)))
  (by rw[hl4];show 4=min 4 (bs.length-k);omega)
  (fun j v hv=>by
   have hj:j<4:=by have:=(List.getElem?_eq_some_iff.1 hv).1;rw[hl4]at this;exact this
   rw[qa,Nat.zero_add,qw (h25.has g2 (Cs cur2 5) (.head _)),<-hv,<-htk2,List.getElem?_take,if_pos om])
  (by rw[hl4];simp only[List.size_toArray,hcl];omega) (q89 _)
 have hadd:(Addr.add ⟨g,0,none⟩ k)=⟨g,k,none⟩:=by rw[qa,Nat.zero_add]
 rw[hadd]
 refine⟨_,_,hrun,?_⟩
 rw[qqs _ (h25.has g (Cs cur 5) (.tail _ (.head _))),qem]
 have h28:=h25.put (k:=1) rfl (Cs (cur.toArray.toList.take k++(le4 c).map B++cur.toArray.toList.drop (k+((le4 c).map B).length)).toArray.toList 5)
 rw[hl4]at h28 ⊢
 have h29:St w0 _ ((g,Cs (cur.take k++(le4 c).map B++cur.drop (k+4)) 5)::(n3,Cs [J k] 3)::H):=St.tail h28 hg2
 have h30:=(h29.perm (List.Perm.swap _ _ _)).tail hn3
 refine hK _ (some ⟨g,0,none⟩) cap [(g,Cs (cur.take k++(le4 c).map B++cur.drop (k+4)) 5)] l hl hany ⟨?_,.inr ⟨g,cap,_,rfl,rfl,hnc,hcm,?_,?_⟩⟩ (fun x hx=>by rw[List.mem_singleton.1 hx];exact hg0) h30
 ·simp only[zK,List.map_append,List.length_append,List.length_map,List.length_take,List.length_drop,Int.toNat_natCast]
  show min k bs.length+4+(bs.length-(k+4))=bs.length*1
  omega
 ·simp only[List.length_append,List.length_take,List.length_drop,hl4,hcl]
  omega
 ·rw[Nat.mul_one]at htk ⊢
  simp only[zK,List.map_append,List.map_take,List.map_drop,Int.toNat_natCast,<-htk]
  rw[List.take_append,List.take_append,List.length_append,List.length_take,hl4,List.take_of_length_le (l:=List.take k cur) (by simp;omega),List.take_of_length_le (l:=(le4 c).map B) (by rw[hl4];simp[hcl];omega)]
  rw[List.take_take,List.drop_take,show min k bs.length=k by omega,show min k cur.length=k by rw[hcl];omega,show bs.length-(k+4)=bs.length-(k+4) from rfl]
end Go.Fx.Tryz
namespace Go.Fx
open Go Go.Fx.Ch
variable {P:Program} {K:Type} [DecidableEq K] {V:Type}
theorem qgZ{enc:K->Value}{kt:TypeId}(kl:q6q P kt enc){T et:TypeId}(hT:P.underlying T=some (.map kt et))(k:K)(ty:TypeId)(w:World) :
  (Builtin.delete_ #[T,kt] ty #[.map none,enc k]).run P w=.ok (.tuple #[]) w:=by
 simp[Builtin.delete_,run_underlying hT,kl.check,Result.andThen]
theorem qA3{T kt et:TypeId}(hT:P.underlying T=some (.map kt et))(t:TypeId)(w:World):(Builtin.len_ #[T] t [Value.map none].toArray).run P w=.ok (.int .i64 0) w:=by
 simp[Builtin.len_,goInt,run_underlying hT]
theorem q9o{m:List (K × V)}{k:K}{v:V}(h:lk m k=some v):∃ a b,m=a++(k,v)::b/\∀ p∈a,p.1≠k:=by
 unfold lk at h
 cases hf:m.find? fun p=>p.1==k with
 | none=>rw[hf]at h;simp at h
 | some q=>
  rw[hf]at h
  simp only[Option.map_some,Option.some.injEq]at h
  obtain⟨h1,a,b,h2,h3⟩:=List.find?_eq_some_iff_append.1 hf
  have hq:q.1=k:=by simpa using h1
  refine⟨a,b,?_,fun p hp=>by simpa using h3 p hp⟩
  rw[h2,<-hq,<-h]
theorem q1j{m:List (K × V)}{k:K}:lk m k=none↔∀ p∈m,p.1≠k:=by simp[lk]
theorem q7T{a b:List (K × V)}{k:K}{v:V}(ha:∀ p∈a,p.1≠k):lk (a++(k,v)::b) k=some v:=by
 unfold lk
 rw[List.find?_append,List.find?_eq_none.2 fun p hp=>by simpa using ha p hp]
 simp
theorem qgz{a b:List (K × V)}{k:K}{v u:V}(ha:∀ p∈a,p.1≠k)(hb:∀ p∈b,p.1≠k):pt (a++(k,v)::b) k u=a++(k,u)::b:=by
 unfold pt
 rw[q7T ha]
 have h1:∀ l:List (K × V),(∀ p∈l,p.1≠k)->(l.map fun p=>if p.1=k then(p.1,u)else p)=l:=fun l hl=>by
  rw[List.map_congr_left (g:=id) fun p hp=>by rw[if_neg (hl p hp)];rfl]
  simp
 simp only[List.map_append,List.map_cons,h1 a ha,h1 b hb,if_true]
theorem q5d{a b:List (K × V)}{k:K}{v:V}(ha:∀ p∈a,p.1≠k)(hb:∀ p∈b,p.1≠k):dl (a++(k,v)::b) k=a++b:=by
 unfold dl
 rw[List.filter_append,List.filter_cons,if_neg (by simp),List.filter_eq_self.2 fun p hp=>by simpa using ha p hp,List.filter_eq_self.2 fun p hp=>by simpa using hb p hp]
theorem qk1{m:List (K × V)}{k:K}(h:lk m k=none):dl m k=m:=by
 unfold dl
 exact List.filter_eq_self.2 fun p hp=>by simpa using q1j.1 h p hp
theorem q1e{m:List (K × V)}{k:K}{v:V}(h:lk m k=none):pt m k v=m++[(k,v)]:=by unfold pt;rw[h]
end Go.Fx
namespace Go.Fx.Tryz
open Go Go.Fx Go.Fx.Ch
open Go.Proofs
set_option linter.all false
set_option maxRecDepth 20000
variable {w0 w:World} {H G:qE} {K:KT} {s:qd}
structure HE where
 key:Int
 b:Nat
 es:Array MapEntry
 clk:Nat
 l:List PL
def HE.blk(e:HE):Nat × Obj:=(e.b,.map e.es e.clk)
structure LB where
 cb:Nat
 ib:Nat
 hb:Nat
 rb:Nat
 tb:Nat
structure qQ where
 ies:Array MapEntry
 iclk:Nat
 hes:Array MapEntry
 hclk:Nat
 hl:List HE
 rv:List (Value × List (Nat × Obj))
 G:List (Nat × Obj)
def qQ.rest(L:qQ):List (Nat × Obj):=(L.rv.map (·.2)).flatten++(L.hl.map HE.blk++L.G)
def qQ.b4(L:qQ)(q:LB)(s:qd):List (Nat × Obj):=(q.cb,Cs (CCs s q.ib q.hb q.rb q.tb) 109)::(q.ib,.map L.ies L.iclk)::(q.hb,.map L.hes L.hclk)::(q.rb,Cs (L.rv.map (·.1)) 22)::L.rest
def qQ.bl(L:qQ)(q:LB)(s:qd):List (Nat × Obj):=(q.tb,Cs (s.table.map U) 24)::L.b4 q s
def jY:List (List Int)->List (Value × List (Nat × Obj))->Prop
 | [],[]=>True
 | r::rs,v::vs=>zx 1 24 v.1 r.length (r.map U) v.2/\jY rs vs
 | _,_=>False
theorem jY.split:∀ {rs:List (List Int)} {vs:List (Value × List (Nat × Obj))},jY rs vs->∀ {i:Nat} {r:List Int},rs[i]?=some r->
  ∃ a v b,vs=a++v::b/\a.length=i/\zx 1 24 v.1 r.length (r.map U) v.2/\∀ r' v',zx 1 24 v'.1 r'.length (r'.map U) v'.2->jY (rs.set i r') (a++v'::b)
 | [],[],_,i,r,h=>by simp at h
 | r0::rs,v0::vs,h,0,r,hr=>by
  cases hr
  exact⟨[],v0,vs,rfl,rfl,h.1,fun r' v' hv=>⟨hv,h.2⟩⟩
 | r0::rs,v0::vs,h,i+1,r,hr=>by
  obtain⟨a,v,b,rfl,h2,h3,h4⟩:=jY.split h.2 hr
  exact⟨v0::a,v,b,rfl,by simp[h2],h3,fun r' v' hv=>⟨h.1,h4 r' v' hv⟩⟩
theorem zx.lt{size:Nat}{e:TypeId}{ov:Value}{n:Nat}{xs:List Value}{N:qE}(h:zx size e ov n xs N):n<9223372036854775808:=by
 rcases h.2 with⟨_,h1,_⟩ | ⟨_,_,_,_,_,h3,h4,_⟩
 ·omega
 ·have:maxLen=9223372036854775807:=by decide
  omega
structure zA (H:qE):Prop where
 tab:∃ gcs gt,(0,Cs gcs gt)∈H/\Q7 gcs
 bits:qgn H
theorem zA.mono{H':qE}(h:zA H)(hH:∀ u∈H,u∈H'):zA H':=by
 obtain⟨⟨a,b,h1,h2⟩,t,h3⟩:=h
 exact⟨⟨a,b,hH _ h1,h2⟩,t,hH _ h3⟩
structure qQ.Ok (w0:World) (q:LB) (L:qQ) (s:qd):Prop where
 nc:w0.heap.size<=q.cb
 ni:w0.heap.size<=q.ib
 nh:w0.heap.size<=q.hb
 nr:w0.heap.size<=q.rb
 nt:w0.heap.size<=q.tb
 new:qF w0 L.rest
 its:zY L.G L.ies L.iclk s.items
 hm:MapIs qBv L.hes L.hclk (L.hl.map fun e=>(e.key,Value.map (some e.b)))
 hs:s.hold=L.hl.map fun e=>(e.key,e.l)
 inn:∀ e∈L.hl,MapIs vN e.es e.clk (e.l.map fun p=>(p,Value.bool true))
 rows:jY s.rows L.rv
 k4:4<=s.k
 k16:s.k<=16
 tl:s.table.length=2 ^ s.k
 rl:s.rows.length<1000000
 cur:s.cur<s.rows.length
variable {L:qQ} {q:LB}
theorem qQ.Ok.known(h:L.Ok w0 q s)(hg:zA H):qFO (L.bl q s++H) L.G s q.cb q.ib q.hb q.rb q.tb L.ies L.iclk 109 24:=
 ⟨⟨.tail _ (.head _),.tail _ (.tail _ (.head _)),by obtain⟨t,ht⟩:=hg.bits;exact⟨t,List.mem_append_right _ ht⟩,h.its,h.k4,h.k16,h.tl⟩,.head _⟩
theorem qQ.Ok.knownC(h:L.Ok w0 q s)(hg:zA H):q6n (L.b4 q s++H) L.G s q.cb q.ib q.hb q.rb q.tb L.ies L.iclk 109:=
 ⟨.head _,.tail _ (.head _),by obtain⟨t,ht⟩:=hg.bits;exact⟨t,List.mem_append_right _ ht⟩,h.its,h.k4,h.k16,h.tl⟩
theorem qQ.Ok.newB(h:L.Ok w0 q s):qF w0 (L.bl q s):=by
 intro x hx
 simp only[qQ.bl,qQ.b4,List.mem_cons]at hx
 rcases hx with rfl | rfl | rfl | rfl | rfl | hx
 ·exact h.nt
 ·exact h.nc
 ·exact h.ni
 ·exact h.nh
 ·exact h.nr
 ·exact h.new x hx
theorem qQ.G_mem(L:qQ)(q:LB)(s:qd):∀ u∈L.G,u∈L.bl q s:=fun u hu=>.tail _ (.tail _ (.tail _ (.tail _ (.tail _ (List.mem_append_right _ (List.mem_append_right _ hu))))))
theorem qF.append{A B:qE}(ha:qF w0 A)(hb:qF w0 B):qF w0 (A++B):=fun x hx=>by
 rcases List.mem_append.1 hx with h | h
 ·exact ha x h
 ·exact hb x h
theorem qF.left{A B:qE}(h:qF w0 (A++B)):qF w0 A:=fun x hx=>h x (List.mem_append_left _ hx)
theorem qF.right{A B:qE}(h:qF w0 (A++B)):qF w0 B:=fun x hx=>h x (List.mem_append_right _ hx)
theorem q40{bs:List Int}{slot:Nat}{c:Int}(h:slot+4<=bs.length):(zK bs slot c).length=bs.length:=by
 simp[zK,le4];omega
theorem q9b{bs:List Int}{slot:Nat}{c:Int}(h:∀ b∈bs,0<=b/\b<256):∀ b∈zK bs slot c,0<=b/\b<256:=by
 intro b hb
 simp only[zK,List.mem_append]at hb
 rcases hb with(hb | hb) | hb
 ·exact h b (List.mem_of_mem_take hb)
 ·simp only[le4,List.mem_cons,List.not_mem_nil,or_false]at hb
  rcases hb with rfl | rfl | rfl | rfl<;>exact⟨Int.emod_nonneg _ (by decide),Int.emod_lt_of_pos _ (by decide)⟩
 ·exact h b (List.mem_of_mem_drop hb)
theorem JQ(h:St w0 w (L.bl q s++H))(hL:L.Ok w0 q s)(hg:zA H)(id:Int)
  (hK:∀ w' a c N,(qC s.items id).length<1000000->St w0 w' (N++(L.bl q s++H))->qF w0 N->zx 5 62 (.slice a (qC s.items id).length c) (qC s.items id).length ((qC s.items id).map Xc).flatten N->K (.slice a (qC s.items id).length c) w'):q9 P 102 [.pointer (some ⟨q.cb,0,none⟩),U id] w K:=by
 refine qEO _ _ _ _ ?_
 rw[qzX]
 have hk:=hL.known hg
 obtain⟨v,hv,hlk,_⟩:=hk.its.look (h.has _ _ hk.i) id
 obtain⟨⟨sv,cv,rfl,_,hB⟩,_,_⟩:=hv
 obtain⟨⟨gcs,gt,hg1,hg2⟩,_⟩:=hg
 have hB:=hB.bytes (w0:=w0) (H:=L.bl q s++H) fun u hu=>List.mem_append_left _ (L.G_mem q s u hu)
 obtain⟨ca,cc,rfl⟩:=(hB.row w h).form
 refine⟨some q.ib,by rw[qa,qw (h.has _ _ hk.c)];rfl,_,hlk,_,_,_,rfl,?_⟩
 unfold qC at hK
 refine q3z h hB (List.mem_append_right _ hg1) hg2 (fun w6 h6 hn=>⟨_,_,_,_,rfl,?_⟩) fun w6 xa xc N l hl hll h6 hLN hS=>⟨_,_,_,_,rfl,?_⟩
 ·rw[hn]at hK
  exact hK w6 none 0 [] (by decide) h6 (qF.nil _) (zx.nil 5 62)
 ·rw[hl]at hK
  exact hK w6 xa xc N (by have:=hB.len;simp only[Option.getD_some];omega) h6 hLN hS
theorem qQ.Ok.addG(h:L.Ok w0 q s){N:qE}(hN:qF w0 N):({ L with G:=N++L.G }:qQ).Ok w0 q s where
 nc:=h.nc
 ni:=h.ni
 nh:=h.nh
 nr:=h.nr
 nt:=h.nt
 new:=qF.append (qF.left h.new) (qF.append (qF.left (qF.right h.new)) (qF.append hN (qF.right (qF.right h.new))))
 its:=h.its.mono fun u hu=>List.mem_append_right _ hu
 hm:=h.hm
 hs:=h.hs
 inn:=h.inn
 rows:=h.rows
 k4:=h.k4
 k16:=h.k16
 tl:=h.tl
 rl:=h.rl
 cur:=h.cur
theorem qQ.addG{A N:qE}(h:St w0 w (N++(A++(L.bl q s++H)))):St w0 w (A++(({ L with G:=N++L.G }:qQ).bl q s++H)):=
 h.perm (qn fun c=>by simp only[qQ.bl,qQ.b4,qQ.rest,List.cons_append,List.map_append,List.map_cons,List.sum_append,List.sum_cons];omega)
theorem zY.update{es:Array MapEntry}{clk:Nat}{items:List (Int × TR)}(h:zY G es clk items){v:Value}{t:TR}(hv:q0m G v t){b:Nat}(hb:w.heap[b]?=some (.map es clk))(id:Int) :
  ∃ es' clk',(Instr.mapUpdate 105 (.map (some b)) (U id) v).run P w=.ok () (w.putObj b (.map es' clk'))/\zY G es' clk' (pt items id t):=by
 obtain⟨m,h1,h2⟩:=h
 obtain⟨es',clk',h3,h4⟩:=h1.update QL (by kernel_rfl:P.underlying 105=some (.map 24 41)) hb id v
 exact⟨es',clk',h3,q9M m id v,h4,by rw[qjU];exact h2.pt hv⟩
theorem zY.delete{es:Array MapEntry}{clk:Nat}{items:List (Int × TR)}(h:zY G es clk items){b:Nat}(hb:w.heap[b]?=some (.map es clk))(id:Int)(ty:TypeId) :
  ∃ es',(Builtin.delete_ #[105,24] ty #[.map (some b),U id]).run P w=.ok (.tuple #[]) (w.putObj b (.map es' clk))/\zY G es' clk (dl items id):=by
 obtain⟨m,h1,h2⟩:=h
 obtain⟨es',h3,h4⟩:=h1.delete QL (by kernel_rfl:P.underlying 105=some (.map 24 41)) hb id ty
 exact⟨es',h3,q5H m id,h4,by rw[qnD];exact h2.dl⟩
theorem qQ.Ok.items(h:L.Ok w0 q s){es:Array MapEntry}{clk:Nat}{items:List (Int × TR)}(hi:zY L.G es clk items):({ L with ies:=es,iclk:=clk }:qQ).Ok w0 q { s with items:=items }:=
 ⟨h.nc,h.ni,h.nh,h.nr,h.nt,h.new,hi,h.hm,h.hs,h.inn,h.rows,h.k4,h.k16,h.tl,h.rl,h.cur⟩
theorem jo:qx P 41=#[U 0,.slice none 0 0,.slice none 0 0]:=kr
theorem YH(h:St w0 w (L.bl q s++H))(hL:L.Ok w0 q s)(hg:zA H){p:PL}{c:Int}(hc0:0<=c)(hc1:c<4294967296)
  (hK:∀ (w':World) (L':qQ),L'.Ok w0 q { s with items:=zf s.items p c }->St w0 w' (L'.bl q { s with items:=zf s.items p c }++H)->K (.tuple [].toArray) w'):q9 P 80 [.pointer (some ⟨q.cb,0,none⟩),vN p,U c] w K:=by
 refine qJC _ _ _ _ _ ?_
 rw[qGN]
 refine h.newC fun n3 w4 hn3 h4=>?_
 have h4:St w0 w4 ((n3,Cs [U p.1,J p.2] 142)::(L.bl q s++H)):=h4
 have h5:=h4.drew
 have hk:=hL.known hg
 obtain⟨⟨gcs,gt,hg1,hg2⟩,hbits⟩:=hg
 obtain⟨v,hv,hlk,_⟩:=hk.its.look (h5.has _ _ (.tail _ hk.i)) p.1
 obtain⟨⟨sv,cv,rfl,hS,hB0⟩,ha0,ha1⟩:=hv
 refine⟨some q.ib,by rw[qa,qw (h5.has _ _ (.tail _ hk.c))];rfl,p.1,h5.cell (k:=0) rfl,_,hlk,?_⟩
 obtain⟨sa,sc,e1⟩:=((hS.spans (w0:=w0) (H:=L.bl q s++H) fun u hu=>List.mem_append_left _ (L.G_mem q s u hu)).row w h).form
 obtain⟨ca,cc,e2⟩:=((hB0.bytes (w0:=w0) (H:=L.bl q s++H) fun u hu=>List.mem_append_left _ (L.G_mem q s u hu)).row w h).form
 subst e1;subst e2
 generalize ht:qj s.items p.1=t at *
 rw[jo]
 refine h5.newC fun n9 w10 hn9 h10=>?_
 have h10:St w0 w10 ((n9,Cs [U 0,.slice none 0 0,.slice none 0 0] 41)::(n3,Cs [U p.1,J p.2] 142)::(L.bl q s++H)):=h10
 refine h10.stA (k:=0) rfl rfl (by simp) (by simp[ya,Value.oneCell']) fun w11 h11=>?_
 have h11:St w0 w11 ((n9,Cs (ya t.at_ (.slice sa t.sp.length sc) (.slice ca t.code.length cc)) 41)::(n3,Cs [U p.1,J p.2] 142)::(L.bl q s++H)):=h11
 rw[qs2]
 have fin:∀ {w19:World} {L1:qQ} {a':Option Addr} {n' c':Nat} {bs':List Int},L1.Ok w0 q s->Qw L1.G (.slice sa t.sp.length sc) t.sp->jv L1.G (.slice a' n' c') bs'->bs'=ju t.code p.2 c->
   St w0 w19 ((n9,Cs (ya t.at_ (.slice sa t.sp.length sc) (.slice ca t.code.length cc)) 41)::(n3,Cs [U p.1,J p.2] 142)::(L1.bl q s++H))->
   zW ((Addr.mk n9 0 none).add 2) (.slice a' n' c') w19 (fun w22=>qh (some (Addr.mk q.cb 0 none)) (fun a23:Addr=>∃ m24:Option Nat,w22.drew.cell? (a23.add 3)=some (Value.map m24)/\∃ x25:Int,w22.drew.cell? (Addr.mk n3 0 none)=some (U x25)/\qU 3 (Addr.mk n9 0 none) w22.drew (fun cs26=>∃ w27:World,(Instr.mapUpdate 105 (.map m24) (U x25) (.agg cs26)).run P w22.drew=.ok () w27/\K (.tuple [].toArray) w27))):=by
  intro w19 L1 a' n' c' bs' hL1 hS1 hB1 hbs h19
  rw[qa]
  refine h19.st1 (k:=0) rfl (by simp[ya]) rfl fun w22 h22=>?_
  have h22:St w0 w22 ((n9,Cs (ya t.at_ (.slice sa t.sp.length sc) (.slice a' n' c')) 41)::(n3,Cs [U p.1,J p.2] 142)::(L1.bl q s++H)):=h22
  have h23:=h22.drew
  refine⟨some q.ib,by rw[qa];exact h23.cell (k:=3) rfl,p.1,h23.cell (k:=1) rfl,?_⟩
  refine h23.ldA (k:=0) rfl (by simp[ya]) ?_
  have hv':q0m L1.G (.agg (ya t.at_ (.slice sa t.sp.length sc) (.slice a' n' c')).toArray) { t with code:=bs' }:=⟨⟨_,_,rfl,hS1,hB1⟩,ha0,ha1⟩
  obtain⟨es',clk',hr,hit⟩:=hL1.its.update hv' (h23.get (k:=4) rfl) p.1
  refine⟨_,hr,?_⟩
  have h27:=h23.put (k:=4) rfl (.map es' clk')
  have hst:pt s.items p.1 { t with code:=bs' }=zf s.items p c:=by unfold zf;rw[ht,hbs]
  rw[hst]at hit
  exact hK _ _ (hL1.items hit) ((h27.tail hn9).tail hn3)
 refine⟨ca,t.code.length,cc,by rw[qa];exact h11.cell (k:=0) rfl,p.2,by rw[qa];exact h11.cell (k:=1) rfl,?_⟩
 refine qun (bs:=t.code) h11 (hB0.bytes fun u hu=>.tail _ (.tail _ (List.mem_append_left _ (L.G_mem q s u hu)))) (.tail _ (.tail _ (List.mem_append_right _ hg1))) hg2 hc0 hc1 (fun w6 h6 hn=>⟨_,_,_,_,rfl,?_⟩) (fun w6 l h6 hl hn=>⟨_,_,_,_,rfl,?_⟩) fun w6 xa xc N l hl hany hSN hN h6=>⟨_,_,_,_,rfl,?_⟩
 ·refine fin (bs':=[]) hL hS ⟨fun w' _=>(zx.nil 1 5).row (by simp),by simp,by decide,fun a n c e=>by cases e;exact Nat.le_refl _⟩ ?_ h6
  unfold ju;rw[hn]
 ·refine fin (bs':=[]) hL hS ⟨fun w' _=>(zx.nil 1 5).row (by simp),by simp,by decide,fun a n c e=>by cases e;exact Nat.le_refl _⟩ ?_ h6
  unfold ju;rw[hl];simp[hn]
 ·have h7:=qQ.addG (A:=[(n9,Cs (ya t.at_ (.slice sa t.sp.length sc) (.slice ca t.code.length cc)) 41),(n3,Cs [U p.1,J p.2] 142)]) h6
  obtain⟨e,he,hes⟩:=List.any_eq_true.1 hany
  have hsl:e.slot=p.2:=by simpa using hes
  have hrange:=vU hl he
  rw[hsl]at hrange
  have hlen:(zK t.code p.2.toNat c).length=t.code.length:=q40 om
  have hb':=q9b (slot:=p.2.toNat) (c:=c) hB0.byte
  rw[<-hlen]at hSN
  have hf:=fin (hL.addG hN) (hS.mono fun u hu=>List.mem_append_right _ hu) ((jv.of hSN hb' (by rw[hlen];exact hB0.len)).mono fun u hu=>List.mem_append_left _ hu) (by unfold ju;rw[hl];simp[hany]) h7
  rw[hlen]at hf
  exact hf
end Go.Fx.Tryz
namespace Go.Fx.Tryz
open Go Go.Fx Go.Fx.Ch
open Go.Proofs
set_option linter.all false
set_option maxRecDepth 20000
variable {w0 w:World} {H G:qE} {K:KT} {s:qd} {L:qQ} {q:LB}
theorem qAm:P.underlying 107=some (.map 24 124):=kr
theorem qaC:P.underlying 124=some (.map 142 4):=kr
theorem qzH(w:World):(zeroValue 124).run P w=.ok (.map none) w:=kr
abbrev vC(l:List PL):List (PL × Value):=l.map fun p=>(p,Value.bool true)
theorem q2n{l:List PL}{p:PL}:jB (vC l) p=none↔p ∉ l:=by
 rw[Yw]
 constructor
 ·intro h hp
  exact h _ (List.mem_map.2 ⟨p,hp,rfl⟩) rfl
 ·intro h x hx e
  obtain⟨y,hy,rfl⟩:=List.mem_map.1 hx
  exact h (e▸hy)
theorem qpZ(l:List PL)(p:PL):q9M (vC l) p (.bool true)=vC (if p∈l then l else l++[p]):=by
 unfold q9M
 by_cases hp:p∈l
 ·rw[if_pos hp]
  cases h:jB (vC l) p with
  | none=>exact absurd hp (q2n.1 h)
  | some v=>
   simp only
   unfold vC
   rw[List.map_map]
   apply List.map_congr_left
   intro x _
   simp only[Function.comp_def]
   split<;>rfl
 ·rw[if_neg hp,q2n.2 hp]
  simp
theorem qro(l:List PL)(p:PL):q5H (vC l) p=vC (l.filter fun x=>x≠p):=by
 unfold q5H vC
 rw[List.filter_map]
 rfl
theorem qQ.Ok.keys(h:L.Ok w0 q s){a b:List HE}{e:HE}(e0:L.hl=a++e::b):(∀ x∈a,x.key≠e.key)/\∀ x∈b,x.key≠e.key:=by
 have:=h.hm.nodup
 rw[e0]at this
 simp only[List.map_map,List.map_append,List.map_cons,Function.comp_def]at this
 obtain⟨_,h2,h3⟩:=List.nodup_append.1 this
 refine⟨fun x hx he=>h3 _ (List.mem_map.2 ⟨x,hx,rfl⟩) _ (List.mem_cons_self ..) he,fun x hx he=>(List.nodup_cons.1 h2).1 (List.mem_map.2 ⟨x,hx,he⟩)⟩
theorem qKN(hl:List HE)(c:Int):(lk (hl.map fun e=>(e.key,Value.map (some e.b))) c=none/\lk (hl.map fun e=>(e.key,e.l)) c=none)\/
  ∃ a e b,hl=a++e::b/\e.key=c/\lk (hl.map fun e=>(e.key,Value.map (some e.b))) c=some (.map (some e.b))/\lk (hl.map fun e=>(e.key,e.l)) c=some e.l:=by
 induction hl with
 | nil=>exact .inl ⟨rfl,rfl⟩
 | cons e l ih=>
  unfold lk at *
  simp only[List.map_cons,List.find?_cons]
  by_cases hk:e.key=c
  ·subst hk
   exact .inr ⟨[],e,l,rfl,rfl,by simp,by simp⟩
  ·have:(e.key==c)=false:=by simpa using hk
   rw[this]
   rcases ih with ih | ⟨a,e',b,h1,h2,h3,h4⟩
   ·exact .inl ih
   ·exact .inr ⟨e::a,e',b,by rw[h1];rfl,h2,h3,h4⟩
theorem qQ.Ok.look107(h:L.Ok w0 q s)(hb:w.heap[q.hb]?=some (.map L.hes L.hclk))(c:Int) :
  (lk s.hold c=none/\lk (L.hl.map fun e=>(e.key,Value.map (some e.b))) c=none/\∀ wq,vB w wq->(Instr.lookup 107 (.map (some q.hb)) (U c) false).run P wq=.ok (.map none) wq)\/
  ∃ a e b,L.hl=a++e::b/\e.key=c/\lk s.hold c=some e.l/\∀ wq,vB w wq->(Instr.lookup 107 (.map (some q.hb)) (U c) false).run P wq=.ok (.map (some e.b)) wq:=by
 have hl:∀ wq,vB w wq->_:=fun wq hx=>h.hm.lookup QL qAm qzH (Jv hx hb) c false
 rcases qKN L.hl c with⟨h1,h2⟩ | ⟨a,e,b,h1,h2,h3,h4⟩
 ·refine .inl ⟨by rw[h.hs,h2],h1,fun wq hx=>?_⟩
  have:=hl wq hx
  rw[vu,h1]at this
  exact this
 ·refine .inr ⟨a,e,b,h1,h2,by rw[h.hs,h4],fun wq hx=>?_⟩
  have:=hl wq hx
  rw[vu,h3]at this
  exact this
theorem qQ.Ok.swapH(h:L.Ok w0 q s){a b:List HE}{e e':HE}(e0:L.hl=a++e::b)(hk:e'.key=e.key)(hb:e'.b=e.b)(hin:MapIs vN e'.es e'.clk (vC e'.l)) :
  ({ L with hl:=a++e'::b }:qQ).Ok w0 q { s with hold:=pt s.hold e.key e'.l }:=by
 obtain⟨ha,hbb⟩:=h.keys e0
 refine⟨h.nc,h.ni,h.nh,h.nr,h.nt,?_,h.its,?_,?_,?_,h.rows,h.k4,h.k16,h.tl,h.rl,h.cur⟩
 ·have hn:=h.new
  unfold qQ.rest at *
  rw[e0]at hn
  intro x hx
  simp only[List.map_append,List.map_cons,List.mem_append,List.mem_cons]at hx hn
  rcases hx with hx | (hx | hx | hx) | hx
  ·exact hn x (by simp only[List.mem_append,List.mem_cons,List.map_append,List.map_cons];exact .inl hx)
  ·exact hn x (by simp only[List.mem_append,List.mem_cons,List.map_append,List.map_cons];exact .inr (.inl (.inl hx)))
  ·have:=hn e.blk (by simp)
   rw[hx]
   show w0.heap.size<=e'.b
   rw[hb];exact this
  ·exact hn x (by simp only[List.mem_append,List.mem_cons,List.map_append,List.map_cons];exact .inr (.inl (.inr (.inr hx))))
  ·exact hn x (by simp only[List.mem_append,List.mem_cons,List.map_append,List.map_cons];exact .inr (.inr hx))
 ·have:=h.hm
  rw[e0]at this
  simp only[List.map_append,List.map_cons]at this ⊢
  rw[hk,hb];exact this
 ·show pt s.hold e.key e'.l=_
  rw[h.hs,e0]
  simp only[List.map_append,List.map_cons]
  rw[qgz (fun p hp=>?_) (fun p hp=>?_),hk]
  ·obtain⟨x,hx,rfl⟩:=List.mem_map.1 hp
   exact ha x hx
  ·obtain⟨x,hx,rfl⟩:=List.mem_map.1 hp
   exact hbb x hx
 ·intro x hx
  simp only[List.mem_append,List.mem_cons]at hx
  rcases hx with hx | rfl | hx
  ·exact h.inn x (by rw[e0];simp[hx])
  ·exact hin
  ·exact h.inn x (by rw[e0];simp[hx])
theorem qQ.takeH{A:qE}{a b:List HE}{e:HE}(e0:L.hl=a++e::b):(A++(L.bl q s++H)).Perm (e.blk::(A++(({ L with hl:=a++b }:qQ).bl q s++H))):=
 qn fun c=>by simp only[qQ.bl,qQ.b4,qQ.rest,e0,List.cons_append,List.map_append,List.map_cons,List.sum_append,List.sum_cons];omega
theorem qQ.giveH{A:qE}{a b:List HE}{e:HE}:(e.blk::(A++(({ L with hl:=a++b }:qQ).bl q s++H))).Perm (A++(({ L with hl:=a++e::b }:qQ).bl q s++H)):=
 qn fun c=>by simp only[qQ.bl,qQ.b4,qQ.rest,List.cons_append,List.map_append,List.map_cons,List.sum_append,List.sum_cons];omega
theorem qoe{n3:Nat}(hn3:w0.heap.size<=n3){p:PL}{c:Int}(h:St w0 w ((n3,Cs [U p.1,J p.2] 142)::(L.bl q s++H)))(hL:L.Ok w0 q s){l:List PL}(hl:lk s.hold c=some l)
  (hK:∀ (w':World) (L':qQ),L'.Ok w0 q { s with hold:=pt s.hold c (if p∈l then l else l++[p]) }->St w0 w' (L'.bl q s++H)->K (.tuple [].toArray) w') :
  q7i (Addr.mk n3 0 none) c (some ⟨q.cb,0,none⟩) w K:=by
 rw[qqv]
 have h1:=h.drew
 rcases hL.look107 (w:=w.drew) (h1.get (k:=4) rfl) c with⟨e1,_⟩ | ⟨a,e,b,e0,hk,e2,hlk⟩
 ·rw[hl]at e1;cases e1
 rw[hl]at e2
 cases e2
 subst hk
 refine⟨some q.hb,by rw[qa];exact h1.cell (k:=2) rfl,some e.b,hlk,h1.ldA (k:=0) rfl (by simp) ?_⟩
 have h2:=h1.perm (qQ.takeH (A:=[(n3,Cs [U p.1,J p.2] 142)]) e0)
 obtain⟨es',clk',hr,hm⟩:=(hL.inn e (by rw[e0];simp)).update YD qaC (h2.get (k:=0) rfl) p (.bool true)
 refine⟨_,hr,?_⟩
 rw[qpZ]at hm
 have h3:=h2.put (k:=0) rfl (.map es' clk')
 have h4:=h3.perm (qQ.giveH (L:=L) (A:=[(n3,Cs [U p.1,J p.2] 142)]) (a:=a) (b:=b) (e:=⟨e.key,e.b,es',clk',if p∈e.l then e.l else e.l++[p]⟩))
 have hok:=hL.swapH e0 (e':=⟨e.key,e.b,es',clk',if p∈e.l then e.l else e.l++[p]⟩) rfl rfl hm
 exact hK _ _ hok (h4.tail hn3)
theorem qCm(h:St w0 w (L.bl q s++H))(hL:L.Ok w0 q s){p:PL}{c:Int}
  (hK:∀ (w':World) (L':qQ),L'.Ok w0 q { s with hold:=q01 s.hold p c }->St w0 w' (L'.bl q { s with hold:=q01 s.hold p c }++H)->K (.tuple [].toArray) w'):q9 P 81 [.pointer (some ⟨q.cb,0,none⟩),vN p,U c] w K:=by
 refine qHh _ _ _ _ _ ?_
 rw[qHv]
 refine h.newC fun n3 w4 hn3 h4=>?_
 have h4:St w0 w4 ((n3,Cs [U p.1,J p.2] 142)::(L.bl q s++H)):=h4
 unfold q01 at hK
 rw[qg]
 refine⟨fun hc=>?_,fun hc=>?_⟩
 ·have hc:c=0:=by simpa using hc
  rw[if_pos hc]at hK
  exact hK _ L hL (h4.tail hn3)
 have hc:c≠0:=by simpa using hc
 rw[if_neg hc]at hK
 rw[qpG]
 rcases hL.look107 (h4.get (k:=4) rfl) c with⟨e1,e1',hlk⟩ | ⟨a,e,b,e0,hk,e2,hlk⟩
 ·refine⟨some q.hb,by rw[qa];exact h4.cell (k:=2) rfl,none,hlk,?_⟩
  simp only[Option.isNone_none,qe]
  refine⟨some q.hb,by rw[qa];exact h4.cell (k:=2) rfl,?_⟩
  refine h4.newO fun n13 w14 hn13 h14=>?_
  obtain⟨es',clk',hr,hm⟩:=hL.hm.update QL qAm (h14.get (k:=5) rfl) c (.map (some n13))
  refine⟨_,hr,?_⟩
  have h15:=h14.put (k:=5) rfl (.map es' clk')
  rw[qjU,q1e e1']at hm
  have hL1:({ L with hes:=es',hclk:=clk',hl:=L.hl++[⟨c,n13,#[],0,[]⟩] }:qQ).Ok w0 q { s with hold:=s.hold++[(c,[])] }:=by
   refine⟨hL.nc,hL.ni,hL.nh,hL.nr,hL.nt,?_,hL.its,?_,?_,?_,hL.rows,hL.k4,hL.k16,hL.tl,hL.rl,hL.cur⟩
   ·have hn:=hL.new
    unfold qQ.rest at *
    simp only[List.map_append]
    refine qF.append (qF.left hn) (qF.append (qF.append (qF.left (qF.right hn)) ?_) (qF.right (qF.right hn)))
    intro x hx
    simp only[List.map_cons,List.map_nil,List.mem_singleton]at hx
    rw[hx];exact hn13
   ·simp only[List.map_append,List.map_cons,List.map_nil];exact hm
   ·show s.hold++[(c,[])]=_
    rw[hL.hs];simp
   ·intro x hx
    simp only[List.mem_append,List.mem_singleton]at hx
    rcases hx with hx | rfl
    ·exact hL.inn x hx
    ·exact MapIs.empty
  have h16:St w0 (w14.putObj q.hb (.map es' clk')) ((n3,Cs [U p.1,J p.2] 142)::(({ L with hes:=es',hclk:=clk',hl:=L.hl++[⟨c,n13,#[],0,[]⟩] }:qQ).bl q s++H)):=
   h15.perm (qn fun cc=>by simp only[qQ.bl,qQ.b4,qQ.rest,HE.blk,List.set_cons_succ,List.set_cons_zero,List.cons_append,List.map_append,List.map_cons,List.map_nil,List.sum_append,List.sum_cons,List.sum_nil];omega)
  have hlk2:lk (s.hold++[(c,([]:List PL))]) c=some []:=by
   have:=q7T (b:=[]) (v:=([]:List PL)) (q1j.1 e1)
   exact this
  refine qoe (s:={ s with hold:=s.hold++[(c,[])] }) hn3 (p:=p) (c:=c) h16 hL1 hlk2 fun w' L' hok h17=>?_
  rw[e1]at hK
  have hpt:pt (s.hold++[(c,([]:List PL))]) c (if p∈([]:List PL)then[]else[]++[p])=pt s.hold c (if p∈(none:Option (List PL)).getD []then(none:Option (List PL)).getD []else(none:Option (List PL)).getD []++[p]):=by
   rw[q1e e1]
   have:=qgz (b:=[]) (v:=([]:List PL)) (u:=(if p∈([]:List PL)then[]else[]++[p])) (q1j.1 e1) (by simp)
   exact this
  rw[<-hpt]at hK
  exact hK _ _ hok h17
 ·refine⟨some q.hb,by rw[qa];exact h4.cell (k:=2) rfl,some e.b,hlk,?_⟩
  simp only[Option.isNone_some,qb]
  refine qoe hn3 h4 hL e2 fun w' L' hok h17=>?_
  rw[e2]at hK
  exact hK _ _ hok h17
theorem q3c{c:Int}(h:St w0 w (L.bl q s++H))(hL:L.Ok w0 q s)
  (hK:∀ (w':World) (L':qQ),L'.Ok w0 q { s with hold:=if(lk s.hold c).getD []=[]then dl s.hold c else s.hold }->St w0 w' (L'.bl q s++H)->K (.tuple [].toArray) w'):qiJ c (some ⟨q.cb,0,none⟩) w K:=by
 rw[qpW]
 have del:∀ {hl':List HE},(dl (L.hl.map fun e=>(e.key,Value.map (some e.b))) c=hl'.map fun e=>(e.key,Value.map (some e.b)))->dl s.hold c=hl'.map (fun e=>(e.key,e.l))->(∀ e∈hl',e∈L.hl)->
   (∀ {w'},St w0 w' (L.bl q s++H)->St w0 w' (({ L with hl:=hl' }:qQ).bl q s++H))->(lk s.hold c).getD []=[]->
   ∃ w18:World,(Builtin.delete_ #[107,24] 0 [(Value.map (some q.hb)),(Value.int .u32 c)].toArray).run P w=.ok (Value.tuple [].toArray) w18/\K (Value.tuple [].toArray) w18:=by
  intro hl' h1 h2 h3 h4 h5
  obtain⟨es',hr,hm⟩:=hL.hm.delete QL qAm (h.get (k:=3) rfl) c 0
  refine⟨_,hr,?_⟩
  rw[qnD,h1]at hm
  rw[if_pos h5]at hK
  have h6:=(h4 h).put (k:=3) rfl (.map es' L.hclk)
  refine hK _ { L with hl:=hl',hes:=es' } ⟨hL.nc,hL.ni,hL.nh,hL.nr,hL.nt,?_,hL.its,hm,h2,fun e he=>hL.inn e (h3 e he),hL.rows,hL.k4,hL.k16,hL.tl,hL.rl,hL.cur⟩ h6
  have hn:=hL.new
  unfold qQ.rest at *
  refine qF.append (qF.left hn) (qF.append (fun x hx=>?_) (qF.right (qF.right hn)))
  obtain⟨e,he,rfl⟩:=List.mem_map.1 hx
  exact qF.left (qF.right hn) _ (List.mem_map.2 ⟨e,h3 e he,rfl⟩)
 rcases hL.look107 (h.get (k:=3) rfl) c with⟨e1,e1',hlk⟩ | ⟨a,e,b,e0,hk,e2,hlk⟩
 ·refine⟨some q.hb,by rw[qa];exact h.cell (k:=1) rfl,none,hlk,0,fun wq _=>qA3 qaC _ _,?_⟩
  simp only[show((0:Int)==0)=true from rfl,qe]
  refine⟨some q.hb,by rw[qa];exact h.cell (k:=1) rfl,?_⟩
  refine del (hl':=L.hl) (qk1 e1') (by rw[qk1 e1,hL.hs]) (fun _ h=>h) (fun h=>h) (by rw[e1];rfl)
 ·have hbm:e.blk∈L.bl q s++H:=List.mem_append_left _ (.tail _ (.tail _ (.tail _ (.tail _ (.tail _ (List.mem_append_right _ (List.mem_append_left _ (List.mem_map.2 ⟨e,by rw[e0];simp,rfl⟩))))))))
  have hin:=hL.inn e (by rw[e0];simp)
  refine⟨some q.hb,by rw[qa];exact h.cell (k:=1) rfl,some e.b,hlk,((vC e.l).length:Nat),fun wq hx=>hin.len (Jv hx (h.has _ _ hbm)) qaC _,?_⟩
  rw[qg]
  refine⟨fun hz=>?_,fun hz=>?_⟩
  ·have hz:e.l=[]:=by
    have:(((vC e.l).length:Nat):Int)=0:=by simpa using hz
    have:(vC e.l).length=0:=by omega
    simpa [vC]using this
   refine⟨some q.hb,by rw[qa];exact h.cell (k:=1) rfl,?_⟩
   obtain⟨ha,hb⟩:=hL.keys e0
   subst hk
   have k1:∀ {V:Type} (f:HE->V) (l:List HE),(∀ x∈l,x.key≠e.key)->∀ p∈l.map (fun e=>(e.key,f e)),p.1≠e.key:=fun f l hl p hp=>by
    obtain⟨x,hx,rfl⟩:=List.mem_map.1 hp
    exact hl x hx
   refine del (hl':=a++b) ?_ ?_ (fun x hx=>?_) (fun h=>?_) (by rw[e2,hz];rfl)
   ·rw[e0]
    simp only[List.map_append,List.map_cons]
    rw[q5d (k1 _ a ha) (k1 _ b hb)]
   ·rw[hL.hs,e0]
    simp only[List.map_append,List.map_cons]
    rw[q5d (k1 _ a ha) (k1 _ b hb)]
   ·rw[e0]
    simp only[List.mem_append,List.mem_cons]at hx ⊢
    rcases hx with hx | hx
    ·exact .inl hx
    ·exact .inr (.inr hx)
   ·exact(h.perm (qQ.takeH (A:=[]) e0)).tail (hL.newB _ (.tail _ (.tail _ (.tail _ (.tail _ (.tail _ (List.mem_append_right _ (List.mem_append_left _ (List.mem_map.2 ⟨e,by rw[e0];simp,rfl⟩)))))))))
  ·have hz:e.l≠[]:=fun e=>by rw[e]at hz;simp at hz
   rw[if_neg (by rw[e2];exact hz)]at hK
   exact hK _ L hL h
theorem YA(h:St w0 w (L.bl q s++H))(hL:L.Ok w0 q s){p:PL}{c:Int}
  (hK:∀ (w':World) (L':qQ),L'.Ok w0 q { s with hold:=zd s.hold p c }->St w0 w' (L'.bl q { s with hold:=zd s.hold p c }++H)->K (.tuple [].toArray) w'):q9 P 82 [.pointer (some ⟨q.cb,0,none⟩),vN p,U c] w K:=by
 refine qHD _ _ _ _ _ ?_
 rw[qKj]
 refine h.newC fun n3 w4 hn3 h4=>?_
 have h4:St w0 w4 ((n3,Cs [U p.1,J p.2] 142)::(L.bl q s++H)):=h4
 have h5:=h4.drew
 unfold zd at hK
 rcases hL.look107 (w:=w4.drew) (h5.get (k:=4) rfl) c with⟨e1,e1',hlk⟩ | ⟨a,e,b,e0,hk,e2,hlk⟩
 ·refine⟨some q.hb,by rw[qa];exact h5.cell (k:=2) rfl,none,hlk,h5.ldA (k:=0) rfl (by simp) ⟨_,qgZ YD qaC p 0 _,?_⟩⟩
  refine q3c (h5.tail hn3) hL fun w' L' hok h6=>?_
  rw[e1]at hok hK
  exact hK _ _ hok h6
 ·refine⟨some q.hb,by rw[qa];exact h5.cell (k:=2) rfl,some e.b,hlk,h5.ldA (k:=0) rfl (by simp) ?_⟩
  have h6:=h5.perm (qQ.takeH (A:=[(n3,Cs [U p.1,J p.2] 142)]) e0)
  obtain⟨es',hr,hm⟩:=(hL.inn e (by rw[e0];simp)).delete YD qaC (h6.get (k:=0) rfl) p 0
  refine⟨_,hr,?_⟩
  rw[qro]at hm
  have h7:=h6.put (k:=0) rfl (.map es' e.clk)
  have h8:=h7.perm (qQ.giveH (L:=L) (A:=[(n3,Cs [U p.1,J p.2] 142)]) (a:=a) (b:=b) (e:=⟨e.key,e.b,es',e.clk,e.l.filter fun x=>x≠p⟩))
  have hok:=hL.swapH e0 (e':=⟨e.key,e.b,es',e.clk,e.l.filter fun x=>x≠p⟩) rfl rfl hm
  obtain⟨ha,hb⟩:=hL.keys e0
  have k1:∀ {V:Type} (f:HE->V) (l:List HE),(∀ x∈l,x.key≠e.key)->∀ p∈l.map (fun e=>(e.key,f e)),p.1≠e.key:=fun f l hl p hp=>by
   obtain⟨x,hx,rfl⟩:=List.mem_map.1 hp
   exact hl x hx
  subst hk
  have hpt:∀ v:List PL,pt s.hold e.key v=(a.map fun e=>(e.key,e.l))++(e.key,v)::(b.map fun e=>(e.key,e.l)):=fun v=>by
   rw[hL.hs,e0]
   simp only[List.map_append,List.map_cons]
   exact qgz (k1 _ a ha) (k1 _ b hb)
  have hlk2:lk (pt s.hold e.key (e.l.filter fun x=>x≠p)) e.key=some (e.l.filter fun x=>x≠p):=by
   rw[hpt];exact q7T (k1 _ a ha)
  have hdl:dl (pt s.hold e.key (e.l.filter fun x=>x≠p)) e.key=dl s.hold e.key:=by
   rw[hpt,q5d (k1 _ a ha) (k1 _ b hb),hL.hs,e0]
   simp only[List.map_append,List.map_cons]
   rw[q5d (k1 _ a ha) (k1 _ b hb)]
  refine q3c (s:={ s with hold:=pt s.hold e.key (e.l.filter fun x=>x≠p) }) (h8.tail hn3) hok fun w' L' hok h6=>?_
  simp only[hlk2,hdl,Option.getD_some]at hok
  rw[e2]at hK
  exact hK _ _ hok h6
end Go.Fx.Tryz
namespace Go.Fx.Tryz
open Go Go.Fx Go.Fx.Ch
open Go.Proofs
set_option linter.all false
set_option maxRecDepth 20000
variable {w0 w:World} {H G:qE} {K:KT}
theorem j8{r:List Int}{a:Addr}{c:Nat}(h:vn w 1 (.slice (some a) r.length c) r.length (r.map U)){i:Nat}(hi:i<r.length):w.cell? (a.add (i*1))=some (U r[i]):=by
 rcases h.2 with⟨h1,_⟩ | ⟨a',c',h1,h2⟩
 ·cases h1
 ·cases h1
  rw[Nat.mul_one,h2 i om,List.getElem?_map,List.getElem?_eq_getElem hi];rfl
abbrev qN(id:Int)(x:Int):Bool:=decide (x≠id)
abbrev qfO(n:Nat):Value:=.func (.func 105) #[] #[.pointer (some (Addr.mk n 0 none))]
theorem qLF:yu P 105=true:=kr
theorem quu{n3:Nat}{id:Int}{t:TypeId}(h:St w0 w H)(hn:(n3,Cs [U id] t)∈H)(x:Int)(hK:∀ w',St w0 w' H->K (.bool (x==id)) w'):yO P (qfO n3) [U x] w K:=by
 show(match yu P 105 with | true=>q9 P 105 [U x,.pointer (some (Addr.mk n3 0 none))] w K | false=>False)
 rw[qLF]
 refine qB9 _ _ _ _ ?_
 rw[qyD]
 exact⟨id,by rw[qw (h.has n3 (Cs [U id] t) hn)];rfl,hK w h⟩
theorem q8b{n3:Nat}{id:Int}{t:TypeId}{r:List Int}{ov:Value}(h:St w0 w H)(hn:(n3,Cs [U id] t)∈H)(hrow:∀ w',St w0 w' H->vn w' 1 ov r.length (r.map U))(hl63:r.length<9223372036854775808)
  (hnone:(∀ x∈r,qN id x=true)->∀ w',St w0 w' H->K (J (-1)) w')
  (hsome:∀ i (hi:i<r.length),(∀ x∈r.take i,qN id x=true)->qN id r[i]=false->∀ w',St w0 w' H->K (J i) w'):q9 P 141 [ov,qfO n3] w K:=by
 obtain⟨sa,sc,rfl⟩:=(hrow w h).form
 refine qBH _ _ _ _ _ _ ?_
 rw[qzk]
 refine⟨fun m e w'=>∃ i:Nat,i<=r.length/\m=r.length-i/\St w0 w' H/\(∀ x∈r.take i,qN id x=true)/\e=qi.mk 19 [(8,J i),(0,.slice sa r.length sc),(1,qfO n3),(4,J 0),(7,J r.length)] [],⟨_,0,by omega,rfl,h,by simp,rfl⟩,?_⟩
 rintro m e w' ⟨i,hi,rfl,hs,hall,rfl⟩
 show qbU ..
 rw[q9g,qg]
 refine⟨fun hlt=>?_,fun hge=>?_⟩
 ·have hlt:i<r.length:=by have:=of_decide_eq_true hlt;omega
  rw[qiB]
  obtain⟨ad,cp,hac,hld⟩:=(hrow w' hs).ldA hlt
  injection hac with hac _ _
  subst hac
  refine⟨by omega,by omega,r[i],?_,?_⟩
  ·rw[Int.toNat_natCast];exact j8 (hrow w' hs) hlt
  refine quu hs hn r[i] fun w15 h15=>⟨_,rfl,?_⟩
  rw[qg]
  refine⟨fun hb=>hsome i hlt hall (by simpa [qN]using hb) w15 h15,fun hb=>?_⟩
  rw[qh2]
  refine⟨r.length-(i+1),by omega,i+1,by omega,rfl,h15,?_,by rw[qc om om];rfl⟩
  intro x hx'
  rw[zC r hlt,List.mem_append]at hx'
  rcases hx' with h | h
  ·exact hall x h
  ·rw[List.mem_singleton.1 h];simpa [qN]using hb
 ·have:i=r.length:=by have:=of_decide_eq_false hge;omega
  subst this
  rw[List.take_length]at hall
  rw[qiM]
  exact hnone hall w' hs
theorem qB8{g off m c:Nat}{cs:List Value}{t:TypeId}(h:w.heap[g]?=some (Cs cs t))(hm:off+m<=cs.length):∃ zs:List Value,zs.length=m/\
  (Builtin.clear_ #[22] 0 [Value.slice (some (Addr.mk g off none)) m c].toArray).run P w=.ok (.tuple [].toArray) (yX w (Addr.mk g off none) 0 zs):=by
 cases m with
 | zero=>exact⟨[],rfl,by simp[Builtin.clear_,run_underlying Tryz.underlying22,yX]⟩
 | succ m=>
  have hst:=Yi (P:=P) w (Addr.mk g off none) (Builtin.zeroCells #[U 0] (m+1)).toList 0 (fun j v hv=>by
   have hj:j<(m+1):=by
    have:=(List.getElem?_eq_some_iff.1 hv).1
    simpa [Builtin.zeroCells]using this
   rw[Nat.zero_add,qa]
   refine⟨⟨_,by rw[qw h,List.getElem?_eq_getElem om]⟩,ZR h,?_⟩
   obtain⟨i,_,rfl⟩:=List.mem_map.1 (by simpa [Builtin.zeroCells]using List.mem_of_getElem? hv:v∈(List.range ((m+1)*1)).map _)
   have:i % 1=0:=by omega
   simp[Nat.mod_one,Value.oneCell'])
  refine⟨(Builtin.zeroCells #[U 0] (m+1)).toList,by simp[Builtin.zeroCells],?_⟩
  simp[Builtin.clear_,run_underlying Tryz.underlying22,Value.cells,hst,Result.andThen]
theorem qgT{p:Option Addr}{n c k:Nat}(hk:k<=c)(hz:p=none->k=0)(wq:World):(Instr.sliceAt 22 (Value.slice p n c) none (some (Value.int .i64 (k:Int))) none).run P wq=.ok (.slice p k c) wq:=by
 rw[run_sliceAt_slice _ 22 _ _ _ _ kr,run_slice_h _ 22 p n c kr .i64 (k:Int) om om]
 have:(sizeOf (P.elem 22)).run P wq=.ok 1 wq:=kr
 rw[this]
 simp[Result.andThen,sliced]
 cases p<;>simp[Addr.add]
theorem q6Q{g n c k:Nat}(hk:k<=n)(hc:k<c)(wq:World):(Instr.sliceAt 22 (Value.slice (some (Addr.mk g 0 none)) n c) (some (Value.int .i64 (k:Int))) none none).run P wq=.ok (.slice (some (Addr.mk g k none)) (n-k) (c-k)) wq:=by
 rw[run_sliceAt_slice _ 22 _ _ _ _ kr,run_slice_l _ 22 (some (Addr.mk g 0 none)) n c kr .i64 (k:Int) om om]
 have:(sizeOf (P.elem 22)).run P wq=.ok 1 wq:=kr
 rw[this]
 have hne:¬ c=k:=by omega
 simp[Result.andThen,sliced,hne]
theorem qrm{n3:Nat}{id:Int}{t:TypeId}{r:List Int}{ov:Value}{L:qE}(h:St w0 w (L++H))(hn:(n3,Cs [U id] t)∈H)(hS:zx 1 24 ov r.length (r.map U) L)(hN:qF w0 L)(hl63:r.length<9223372036854775808)
  (hK:∀ a c L' w',zx 1 24 (.slice a (r.filter (qN id)).length c) (r.filter (qN id)).length ((r.filter (qN id)).map U) L'->qF w0 L'->St w0 w' (L'++H)->K (.slice a (r.filter (qN id)).length c) w'):q9 P 104 [ov,qfO n3] w K:=by
 obtain⟨sa,sc,hov⟩:=hS.form
 rw[hov]
 refine qCg _ _ _ _ _ _ ?_
 rw[qAC,<-hov]
 refine q8b (id:=id) (t:=t) h (List.mem_append_right _ hn) (fun w' h'=>hS.row fun y hy=>h'.has _ _ (List.mem_append_left _ hy)) hl63 (fun hall w1 h1=>⟨-1,rfl,?_⟩) (fun i0 hi0 hall hlate w1 h1=>⟨i0,rfl,?_⟩)
 ·rw[show((-1:Int)==-1)=true by decide,qe]
  have e:r.filter (qN id)=r:=List.filter_eq_self.2 hall
  have:=hK sa sc L w1
  rw[e]at this
  rw[<-hov]at this
  rw[hov]at this ⊢
  exact this (hov▸hS) hN h1
 ·rw[show((i0:Int)==-1)=false by simp,qb,qho]
  rcases hS.2 with⟨_,h0,_⟩ | ⟨g,cap,cur,hg,rfl,hcap,hmax,hcl,hct⟩
  ·omega
  rw[hov]at hg
  obtain⟨rfl,hsc⟩:sa=some ⟨g,0,none⟩/\sc=cap:=by simpa using hg
  have hsc:=hsc.symm
  subst hsc
  rw[Nat.mul_one]at hcl hct
  have hF:∀ j (hj:j<r.length),(r.take (j+1)).filter (qN id)=(r.take j).filter (qN id)++(if qN id r[j]=true then[r[j]]else[]):=fun j hj=>by
   rw[List.take_add_one,List.getElem?_eq_getElem hj,List.filter_append]
   by_cases hb:qN id r[j]=true<;>simp[hb]
  have hFl:∀ j,((r.take j).filter (qN id)).length<=j:=fun j=>by have:=List.length_filter_le (qN id) (r.take j);simp at this;omega
  have hF0:(r.take (i0+1)).filter (qN id)=r.take i0:=by
   rw[hF i0 hi0,hlate]
   simp
   exact fun x hx=>by have:=hall x hx;simpa [qN]using this
  have hat:∀ j (hj:j<r.length),cur[j]?=some (U r[j]):=fun j hj=>by
   have:=congrArg (fun l=>l[j]?) hct
   simp only[List.getElem?_take,hj,if_true,List.getElem?_map,List.getElem?_eq_getElem hj,Option.map_some]at this
   exact this
  refine⟨fun m ee w=>∃ (j:Nat) (cu:List Value),i0<j/\j<=r.length/\m=r.length-j/\
   ee=qi.mk 42 [(6,J j),(5,J ((r.take j).filter (qN id)).length),(0,(Value.slice (some ⟨g,0,none⟩) r.length cap)),(1,qfO n3),(4,.slice none 0 0)] []/\
   ((r.take j).filter (qN id)).length<j/\cu.length=cap/\cu.take ((r.take j).filter (qN id)).length=((r.take j).filter (qN id)).map U/\cu.drop j=cur.drop j/\St w0 w ((g,Cs cu 24)::H),
   ⟨r.length-(i0+1),i0+1,cur,by omega,by omega,rfl,?_,by rw[hF0];simp;omega,hcl,?_,rfl,h1⟩,?_⟩
  ·rw[hF0,qc om om]
   simp[List.length_take,Nat.min_eq_left (Nat.le_of_lt hi0)]
  ·rw[hF0]
   have e:(r.take i0).length=i0:=by simp;omega
   rw[e,List.map_take,<-hct,List.take_take]
   congr 1
   omega
  rintro m ee w2 ⟨j,cu,hij,hj,rfl,rfl,hFj,hcul,hcut,hcud,h2⟩
  show qbP ..
  rw[qcI,qg]
  constructor
  ·intro hlt
   have hlt:j<r.length:=by have:=of_decide_eq_true hlt;omega
   rw[qf2]
   have hcj:cu[j]?=some (U r[j]):=by
    have:=congrArg (fun l=>l[0]?) hcud
    simp only[List.getElem?_drop,Nat.add_zero]at this
    rw[this,hat j hlt]
   refine⟨by omega,by omega,r[j],by rw[qa,Int.toNat_natCast,Nat.mul_one,Nat.zero_add,h2.cell (k:=0) rfl,hcj],?_⟩
   refine quu (id:=id) (t:=t) h2 (.tail _ hn) r[j] fun w5 h5=>⟨_,rfl,?_⟩
   have s3:∀ w6 cu' (i':Nat),i'=((r.take (j+1)).filter (qN id)).length->i'<j+1->cu'.length=cap->cu'.take i'=((r.take (j+1)).filter (qN id)).map U->cu'.drop (j+1)=cur.drop (j+1)->St w0 w6 ((g,Cs cu' 24)::H)->
     q0S (i':Int) (some ⟨g,0,none⟩) r.length cap (qfO n3) none 0 0 j w6 K (fun e' w'=>∃ m,m<r.length-j/\∃ (j:Nat) (cu:List Value),i0<j/\j<=r.length/\m=r.length-j/\
   e'=qi.mk 42 [(6,J j),(5,J ((r.take j).filter (qN id)).length),(0,(Value.slice (some ⟨g,0,none⟩) r.length cap)),(1,qfO n3),(4,.slice none 0 0)] []/\
   ((r.take j).filter (qN id)).length<j/\cu.length=cap/\cu.take ((r.take j).filter (qN id)).length=((r.take j).filter (qN id)).map U/\cu.drop j=cur.drop j/\St w0 w' ((g,Cs cu 24)::H)):=by
     rintro w6 cu' i' rfl k1 k2 k3 k4 k5
     rw[qgF]
     refine⟨r.length-(j+1),by omega,j+1,cu',by omega,by omega,rfl,?_,k1,k2,k3,k4,k5⟩
     rw[qc om om];rfl
   have hkj:qN id r[j]=!(r[j]==id):=by
    unfold qN
    by_cases hx:r[j]=id<;>simp[hx]
   rw[qg]
   constructor
   ·intro hb
    have hb:qN id r[j]=true:=by rw[hkj];exact hb
    refine⟨by omega,by omega,?_⟩
    rw[qa,Int.toNat_natCast,Nat.mul_one,Nat.zero_add]
    have hl1:((r.take j).filter (qN id)).length<cu.length:=by rw[hcul];omega
    refine h5.st1 (k:=0) rfl hl1 rfl fun w6 h6=>?_
    rw[qc om om]
    have e:=hF j hlt
    rw[if_pos hb]at e
    refine s3 w6 (cu.set ((r.take j).filter (qN id)).length (U r[j])) (((r.take j).filter (qN id)).length+1) (by rw[e];simp) om (by rw[List.length_set];exact hcul) ?_ ?_ h6
    ·rw[zC _ (by rw[List.length_set];exact hl1),e,List.map_append,List.getElem_set_self,List.take_set_of_le (Nat.le_refl _),hcut];rfl
    ·have:=congrArg (fun l=>l.drop 1) hcud
     simp only[List.drop_drop]at this
     rw[List.drop_set_of_lt om,this]
   ·intro hb
    have hb:qN id r[j]=false:=by rw[hkj];exact hb
    have e:=hF j hlt
    rw[hb]at e
    have e:(r.take (j+1)).filter (qN id)=(r.take j).filter (qN id):=by rw[e];simp
    refine s3 w5 cu _ (by rw[e]) om hcul (by rw[e];exact hcut) ?_ h5
    have:=congrArg (fun l=>l.drop 1) hcud
    simp only[List.drop_drop]at this
    exact this
  ·intro hge
   have:j=r.length:=by have:=of_decide_eq_false hge;omega
   subst this
   rw[List.take_length]at hFj hcut
   rw[qf8,List.take_length]
   refine⟨_,_,_,fun wq=>q6Q om om wq,?_⟩
   obtain⟨zs,hzl,hz⟩:=qB8 (w:=w2) (g:=g) (off:=(r.filter (qN id)).length) (m:=r.length-(r.filter (qN id)).length) (c:=cap-(r.filter (qN id)).length) (h2.has g (Cs cu 24) (by simp)) (by rw[hcul];omega)
   refine⟨_,hz,_,_,_,fun wq=>qgT om (fun h=>by cases h) wq,?_⟩
   rw[q09 zs (h2.has g (Cs cu 24) (by simp)),Nat.add_zero]
   have h3:=h2.put (k:=0) rfl (Cs (qX cu (r.filter (qN id)).length zs) 24)
   refine hK _ _ [(g,Cs (qX cu (r.filter (qN id)).length zs) 24)] _ ⟨by rw[List.length_map,Nat.mul_one],.inr ⟨g,cap,_,rfl,rfl,by omega,hmax,by rw[zy,Nat.mul_one];exact hcul,?_⟩⟩ (by simpa [qF]using hN) h3
   rw[Ya _ _ _ (by rw[hcul,hzl];omega),Nat.mul_one,List.append_assoc,List.take_append_of_le_length (by rw[List.length_take];omega),List.take_of_length_le (by rw[List.length_take];omega),hcut]
end Go.Fx.Tryz
namespace Go.Proofs
open Go.Shelf
set_option maxRecDepth 100000
def Tryz.clone101_ren:Go.Shelf.Ren:=⟨fun | 5=>101 | 7=>140 | n=>n,fun | 23=>124 | 25=>142 | 3=>4 | n=>n,fun n=>n⟩
theorem Tryz.clone101:Go.Proofs.SlLaysW.n5 Tryz.prog Tryz.clone101_ren:={
 mixed:=kr,
 f5:=⟨Tryz.f101.name,by decide,Tryz.func101.trans (congrArg some kr)⟩,
 f7:=Tryz.func140.trans (congrArg some kr),
 t4:=Tryz.underlying4,a4:=Tryz.isAgg4,z4:=Tryz.sizeOf4,v4:=Tryz.zeroValue4,
 t20:=Tryz.underlying20,a20:=Tryz.isAgg20,z20:=Tryz.sizeOf20,v20:=Tryz.zeroValue20,
 t23:=Tryz.underlying124,a23:=Tryz.isAgg124,z23:=Tryz.sizeOf124,v23:=Tryz.zeroValue124 }
end Go.Proofs
namespace Go.Fx.Tryz
open Go Go.Fx
open Go.Proofs
variable {w0 w:World} {H:qE} {K:KT}
set_option maxRecDepth 20000
theorem ZD{g:Nat}{args:List Value}{K:KT}{Q:Ending->World->Prop}(h:Calls P g args.toArray w Q)(hK:∀ e w',Q e w'->∃ v,e=.returned v/\K v w'):q9 P g args w K:=by
 unfold q9 q4q
 refine Calls.mono h fun e w' he=>?_
 obtain⟨v,rfl,hv⟩:=hK e w' he
 exact hv
theorem qgN{m clk:Nat}{es:Array MapEntry}(h:St w0 w H)(hm:(m,Obj.map es clk)∈H)(hK:∀ n w',w0.heap.size<=n->St w0 w' ((n,.map es clk)::H)->K (.map (some n)) w'):q9 P 101 [.map (some m)] w K:=by
 refine ZD (AnyW.maps_Clone (P:=P) (ρ:=Tryz.clone101_ren) Tryz.clone101 m es clk w (h.has _ _ hm)) ?_
 rintro e w' ⟨rfl,rfl⟩
 exact⟨_,rfl,hK _ _ h.le (h.alloc _)⟩
theorem qci(h:St w0 w H)(hK:∀ w',St w0 w' H->K (.map none) w'):q9 P 101 [.map none] w K:=by
 refine ZD (AnyW.maps_Clone_nil (P:=P) (ρ:=Tryz.clone101_ren) Tryz.clone101 w) ?_
 rintro e w' ⟨rfl,rfl⟩
 exact⟨_,rfl,hK _ h⟩
end Go.Fx.Tryz
namespace Go.Fx
open Go
variable {P:Program}
theorem vJ{α β:Type}{f:α->β}(hf:∀ a b,f a=f b->a=b):∀ {l l':List α},(l.map f).Perm (l'.map f)->l.Perm l'
 | [],l',h=>by
  have:l'=[]:=by simpa using h.length_eq.symm
  rw[this]
 | a::r,l',h=>by
  have ha:f a∈l'.map f:=h.mem_iff.1 (by simp)
  obtain⟨b,hb,e⟩:=List.mem_map.1 ha
  have:=hf _ _ e
  subst this
  obtain⟨s,t,rfl⟩:=List.append_of_mem hb
  have h2:((b::r).map f).Perm ((b::(s++t)).map f):=h.trans ((List.perm_middle).map f)
  exact(List.Perm.cons b (vJ hf (by simpa using h2))).trans List.perm_middle.symm
theorem YB{B:(YT)->YT}{e0:qi}{w1:World}{es:Array MapEntry}(J:List MapEntry->Array Nat->World->Prop)(h0:J [] #[] w1)
  (hover:∀ vis seen w,Vis es vis [] seen->J vis seen w->∀ Y,B Y e0 w)
  (hmore:∀ vis rem seen w,rem≠[]->Vis es vis rem seen->J vis seen w->∀ Y:YT,(∀ e w',e∈es.toList->e.born ∉ seen.toList->J (vis++[e]) (seen.push e.born) w'->Y e0 w')->B Y e0 w):qK B e0 w1:=by
 refine⟨fun n e w=>∃ vis rem seen,n=rem.length/\e=e0/\Vis es vis rem seen/\J vis seen w,⟨_,[],_,_,rfl,rfl,Vis.start es,h0⟩,?_⟩
 rintro n e w ⟨vis,rem,seen,rfl,rfl,hv,hj⟩
 by_cases hr:rem=[]
 ·subst hr;exact hover vis seen w hv hj _
 ·refine hmore vis rem seen w hr hv hj _ fun x w' hx hn hj'=>?_
  obtain⟨rem',hl,hv'⟩:=hv.step hx hn
  exact⟨rem'.length,by omega,_,rem',_,rfl,rfl,hv',hj'⟩
theorem qpL{K:Type}{enc:K->Value}(hinj:∀ a b,enc a=enc b->a=b){es:Array MapEntry}{clk:Nat}{m:List (K × Value)}(h:MapIs enc es clk m){vis:List MapEntry}{seen:Array Nat}(hv:Vis es vis [] seen){order:List (K × Value)}(ho:vis.map (fun e=>(e.key,e.val))=order.map fun p=>(enc p.1,p.2)):order.Perm m:=by
 have h1:(vis.map fun e=>(e.key,e.val)).Perm (es.toList.map fun e=>(e.key,e.val)):=by
  have:=hv.perm
  rw[List.append_nil]at this
  exact(this.map _).symm
 rw[ho]at h1
 refine vJ (f:=fun p:K × Value=>(enc p.1,p.2)) (fun a b e=>?_) (h1.trans h.perm)
 obtain⟨a1,a2⟩:=a
 obtain⟨b1,b2⟩:=b
 simp only[Prod.mk.injEq]at e
 rw[hinj _ _ e.1,e.2]
theorem MapIs.pair'{K:Type}{enc:K->Value}{es:Array MapEntry}{clk:Nat}{m:List (K × Value)}(h:MapIs enc es clk m){e:MapEntry}(he:e∈es.toList):∃ q∈m,e.key=enc q.1/\e.val=q.2:=by
 have:(e.key,e.val)∈es.toList.map fun e=>(e.key,e.val):=List.mem_map.2 ⟨e,he,rfl⟩
 obtain⟨p,hp,hpe⟩:=List.mem_map.1 (h.perm.mem_iff.1 this)
 exact⟨p,hp,(congrArg Prod.fst hpe).symm,(congrArg Prod.snd hpe).symm⟩
theorem qvB{b:Nat}{w:World}(hb:w.heap[b]?=some (.mapIter none 0 #[] 0)):(Instr.next (.pointer (some (Addr.mk b 0 none))) false 0).run P w=.ok (.tuple #[.bool false]) w:=by
 have h1:(getObj b).run P w=.ok (.mapIter none 0 #[] 0) w:=by simp[getObj,Sem.run,hb]
 unfold Instr.next
 simp only[Sem.run_bind,h1,Result.andThen_ok]
 rfl
end Go.Fx
namespace Go.Fx.Tryz
open Go Go.Fx Go.Fx.Ch
open Go.Proofs
set_option linter.all false
set_option maxRecDepth 20000
variable {w0 w:World} {H G:qE} {K:KT} {s:qd} {L:qQ} {q:LB}
theorem Yz(id:Int)(p:PL):∀ (l:List PL) (s:qd),qO id (l++[p]) s={ qO id l s with items:=zf (qO id l s).items p 0,hold:=zd (qO id l s).hold p id }
 | [],s=>rfl
 | a::l,s=>Yz id p l _
theorem q3L(id:Int)(x:EX):∀ (l:List EX) (s:qd),qM id (l++[x]) s=if x.chain=0 then qM id l s else { qM id l s with hold:=zd (qM id l s).hold (id,x.slot) x.chain }
 | [],s=>rfl
 | a::l,s=>q3L id x l _
theorem qwD{l:List PL}{es:Array MapEntry}{clk:Nat}(h:MapIs vN es clk (vC l)){e:MapEntry}(he:e∈es.toList):∃ p,e.key=vN p/\e.val=.bool true:=by
 obtain⟨x,hx,h1,h2⟩:=h.pair' he
 obtain⟨p,_,rfl⟩:=List.mem_map.1 hx
 exact⟨p,h1,h2⟩
section
variable {a1 a2 a3:Option Addr} {k1 k2 k3 c1 c2 c3:Nat} {n i:Int} {Y5:YT} {n56:Nat} {id:Int}
theorem qrX:qx P 142=#[U 0,J 0]:=kr
theorem Vh:qx P 62=#[J 0,J 0,U 0,J 0,U 0]:=kr
theorem qqO{mc it:Nat}{ces:Array MapEntry}{cclk:Nat}{l0:List PL}(hn:w0.heap.size<=n56)(hmc:w0.heap.size<=mc)(hit:w0.heap.size<=it)(hm:MapIs vN ces cclk (vC l0))(hL:L.Ok w0 q s)(hg:zA H)
  (h:St w0 w (L.bl q s++((it,.mapIter (some mc) cclk #[] cclk)::(mc,.map ces cclk)::(n56,Cs [U id] 24)::H)))
  (hK:∀ (w':World) (L':qQ) (order:List PL),order.Perm l0->L'.Ok w0 q (qO id order s)->St w0 w' ((n56,Cs [U id] 24)::(L'.bl q (qO id order s)++H))->J9 (Addr.mk n56 0 none) (some ⟨q.cb,0,none⟩) a1 k1 c1 a2 k2 c2 a3 k3 c3 n i w' K Y5) :
  qhj (Addr.mk n56 0 none) (some ⟨q.cb,0,none⟩) (Addr.mk it 0 none) a1 k1 c1 a2 k2 c2 a3 k3 c3 n i w K Y5:=by
 rw[q4Z]
 refine YB (es:=ces) (fun vis seen w=>∃ order L',vis.map (fun e=>(e.key,e.val))=(vC order).map (fun p=>(vN p.1,p.2))/\L'.Ok w0 q (qO id order s)/\
  St w0 w (L'.bl q (qO id order s)++((it,.mapIter (some mc) cclk seen cclk)::(mc,.map ces cclk)::(n56,Cs [U id] 24)::H))) ⟨[],L,rfl,hL,h⟩ ?_ ?_
 ·rintro vis seen w1 hv ⟨order,L',ho,hL',hs⟩ Y
  show Vm ..
  rw[ZA]
  have hi:=hs.has _ _ (List.mem_append_right _ (List.mem_cons_self ..))
  have hmm:=hs.has _ _ (List.mem_append_right _ (.tail _ (List.mem_cons_self ..)))
  refine .inl ⟨w1,jc hi hmm hm.st hv.over,?_⟩
  rw[q2d]
  have hp:=qpL (fun a b h=>q1t h) hm hv ho
  have hp2:order.Perm l0:=vJ (f:=fun p=>(p,Value.bool true)) (fun a b e=>by cases e;rfl) hp
  have hs2:St w0 w1 ((it,.mapIter (some mc) cclk seen cclk)::(mc,.map ces cclk)::(n56,Cs [U id] 24)::(L'.bl q (qO id order s)++H)):=hs.perm (qn fun c=>by simp only[List.map_append,List.map_cons,List.sum_append,List.sum_cons];omega)
  exact hK w1 L' order hp2 hL' ((hs2.tail hit).tail hmc)
 ·rintro vis rem seen w1 hr hv ⟨order,L',ho,hL',hs⟩ Y hY
  show Vm ..
  rw[ZA]
  have hs:St w0 w1 ((it,.mapIter (some mc) cclk seen cclk)::(mc,.map ces cclk)::(n56,Cs [U id] 24)::(L'.bl q (qO id order s)++H)):=hs.perm (qn fun c=>by simp only[List.map_append,List.map_cons,List.sum_append,List.sum_cons];omega)
  obtain⟨e,w2,he,hnb,hw2,hk2,hrun⟩:=jg (P:=P) (hs.get (k:=0) rfl) (hs.get (k:=1) rfl) hm.st (hv.more hm.st hr)
  have hs2:=(hs.same hw2 hk2).put (k:=0) rfl (.mapIter (some mc) cclk (seen.push e.born) cclk)
  obtain⟨p,hek,hev⟩:=qwD hm he
  refine .inr ⟨_,_,_,hrun,?_⟩
  rw[qdk,qfe]
  refine⟨e.key,e.val,_,ZY (hs2.get (k:=0) rfl) (hs2.get (k:=1) rfl) (by simp) (ZU hm.st he),_,hek,?_⟩
  rw[qrX]
  refine hs2.newC fun n308 w309 hn308 h309=>h309.stA (k:=0) rfl rfl (by simp) (by simp[Value.oneCell']) fun w310 h310=>h310.ldA (k:=0) rfl (by simp[zy]) ?_
  have h311:St w0 w310 (L'.bl q (qO id order s)++((n308,Cs [U p.1,J p.2] 142)::(it,.mapIter (some mc) cclk (seen.push e.born) cclk)::(mc,.map ces cclk)::(n56,Cs [U id] 24)::H)):=by
   have h310:St w0 w310 ((n308,Cs [U p.1,J p.2] 142)::(it,.mapIter (some mc) cclk (seen.push e.born) cclk)::(mc,.map ces cclk)::(n56,Cs [U id] 24)::(L'.bl q (qO id order s)++H)):=h310
   exact h310.perm (qn fun c=>by simp only[List.map_append,List.map_cons,List.sum_append,List.sum_cons];omega)
  have hg2:zA ((n308,Cs [U p.1,J p.2] 142)::(it,.mapIter (some mc) cclk (seen.push e.born) cclk)::(mc,.map ces cclk)::(n56,Cs [U id] 24)::H):=hg.mono fun u hu=>.tail _ (.tail _ (.tail _ (.tail _ hu)))
  refine YH h311 hL' hg2 (p:=p) (c:=0) (by decide) (by decide) fun w313 L1 hL1 h313=>⟨rfl,?_⟩
  have h314:St w0 w313 ((n308,Cs [U p.1,J p.2] 142)::(it,.mapIter (some mc) cclk (seen.push e.born) cclk)::(mc,.map ces cclk)::(n56,Cs [U id] 24)::(L1.bl q { qO id order s with items:=zf (qO id order s).items p 0 }++H)):=h313.perm (qn fun c=>by simp only[List.map_append,List.map_cons,List.sum_append,List.sum_cons];omega)
  refine h314.ldA (k:=0) rfl (by simp) ⟨id,h314.cell (k:=3) rfl,?_⟩
  refine YA h313 hL1 (p:=p) (c:=id) fun w317 L2 hL2 h317=>⟨rfl,?_⟩
  refine hY e w317 he hnb ⟨order++[p],L2,?_,?_,?_⟩
  ·rw[List.map_append,ho]
   simp[vC,hek,hev]
  ·rw[Yz];exact hL2
  ·rw[Yz]
   have h318:St w0 w317 ((n308,Cs [U p.1,J p.2] 142)::(L2.bl q { qO id order s with items:=zf (qO id order s).items p 0,hold:=zd (qO id order s).hold p id }++((it,.mapIter (some mc) cclk (seen.push e.born) cclk)::(mc,.map ces cclk)::(n56,Cs [U id] 24)::H))):=h317.perm (qn fun c=>by simp only[List.map_append,List.map_cons,List.sum_append,List.sum_cons];omega)
   exact h318.tail hn308
theorem qpC{x:Int}{a61:Addr}(hn:w0.heap.size<=n56)(h:St w0 w ((n56,Cs [U id] 24)::(L.bl q s++H)))(hL:L.Ok w0 q s)(hg:zA H)
  (hK:∀ (w':World) (L':qQ) (order:List PL),order.Perm ((lk s.hold id).getD [])->L'.Ok w0 q (qO id order s)->St w0 w' ((n56,Cs [U id] 24)::(L'.bl q (qO id order s)++H))->J9 (Addr.mk n56 0 none) (some ⟨q.cb,0,none⟩) a1 k1 c1 a2 k2 c2 a3 k3 c3 n i w' K Y5) :
  qfb (Addr.mk n56 0 none) x a61 (some ⟨q.cb,0,none⟩) a1 k1 c1 a2 k2 c2 a3 k3 c3 n i w K Y5:=by
 rw[qr6]
 have h1:=h.drew
 rcases hL.look107 (w:=w.drew) (h1.get (k:=4) rfl) id with⟨e1,e1',hlk⟩ | ⟨a,e,b,e0,hk,e2,hlk⟩
 ·refine⟨some q.hb,by rw[qa];exact h1.cell (k:=2) rfl,id,h1.cell (k:=0) rfl,none,hlk,?_⟩
  refine qci h1 fun w73 h73=>⟨none,rfl,?_⟩
  have hr:(Instr.range 124 (.map none)).run P w73=.ok (.pointer (some (Addr.mk w73.heap.size 0 none))) (w73.alloc (.mapIter none 0 #[] 0)):=by
   simp[Instr.range,run_underlying qaC]
  refine⟨_,_,hr,?_⟩
  have h76:=h73.alloc (.mapIter none 0 #[] 0)
  rw[q4Z]
  refine⟨fun n' e' w'=>n'=0/\e'=_/\w'=_,⟨0,rfl,rfl,rfl⟩,?_⟩
  rintro n' e' w' ⟨rfl,rfl,rfl⟩
  show Vm ..
  rw[ZA]
  refine .inl ⟨_,qvB (h76.get (k:=0) rfl),?_⟩
  rw[q2d]
  rw[e1]at hK
  exact hK _ L [] (.refl _) hL (h76.tail h73.le)
 ·refine⟨some q.hb,by rw[qa];exact h1.cell (k:=2) rfl,id,h1.cell (k:=0) rfl,some e.b,hlk,?_⟩
  have hbm:e.blk∈((n56,Cs [U id] 24)::(L.bl q s++H)):=.tail _ (List.mem_append_left _ (.tail _ (.tail _ (.tail _ (.tail _ (.tail _ (List.mem_append_right _ (List.mem_append_left _ (List.mem_map.2 ⟨e,by rw[e0];simp,rfl⟩)))))))))
  refine qgN h1 hbm fun mc w73 hmc h73=>⟨some mc,rfl,?_⟩
  refine⟨_,_,Ye qaC (h73.get (k:=0) rfl),?_⟩
  have h76:=h73.alloc (.mapIter (some mc) e.clk #[] e.clk)
  rw[e2]at hK
  refine qqO (l0:=e.l) hn hmc h73.le (hL.inn e (by rw[e0];simp)) hL hg (h76.perm (qn fun c=>by simp only[List.map_append,List.map_cons,List.sum_append,List.sum_cons];omega)) hK
theorem qcX(hn:w0.heap.size<=n56)(h:St w0 w ((n56,Cs [U id] 24)::(L.bl q s++H)))(hL:L.Ok w0 q s)(hg:zA H)
  (hK:∀ (w':World) (L':qQ),L'.Ok w0 q (qM id (qC s.items id) s)->St w0 w' ((n56,Cs [U id] 24)::(L'.bl q (qM id (qC s.items id) s)++H))->q18 (Addr.mk n56 0 none) (some ⟨q.cb,0,none⟩) a1 k1 c1 a2 k2 c2 a3 k3 c3 n i w' K Y5) :
  J9 (Addr.mk n56 0 none) (some ⟨q.cb,0,none⟩) a1 k1 c1 a2 k2 c2 a3 k3 c3 n i w K Y5:=by
 rw[qe0]
 refine⟨id,h.cell (k:=0) rfl,?_⟩
 have hg2:zA ((n56,Cs [U id] 24)::H):=hg.mono fun u hu=>.tail _ hu
 generalize hxs:qC s.items id=xs at *
 refine JQ (h.perm (qn fun c=>by simp only[List.map_append,List.map_cons,List.sum_append,List.sum_cons];omega)) hL hg2 id fun w115 a c N hb h115 hN hS=>?_
 rw[hxs]at hS hb ⊢
 refine⟨a,xs.length,c,rfl,?_⟩
 rw[qdL]
 have h116:St w0 w115 (L.bl q s++(N++((n56,Cs [U id] 24)::H))):=h115.perm (qn fun c=>by simp only[List.map_append,List.map_cons,List.sum_append,List.sum_cons];omega)
 refine⟨fun m e' w'=>∃ (j:Nat) (L':qQ),j<=xs.length/\m=xs.length-j/\e'=qi.mk 92 [(46,J j),(7,.pointer (some (Addr.mk n56 0 none))),(0,.pointer (some ⟨q.cb,0,none⟩)),(44,.slice a xs.length c),(4,.slice a1 k1 c1),(5,.slice a2 k2 c2),(17,.slice a3 k3 c3),(18,J n),(19,J i),(45,J xs.length)] []/\
  L'.Ok w0 q (qM id (xs.take j) s)/\St w0 w' (L'.bl q (qM id (xs.take j) s)++(N++((n56,Cs [U id] 24)::H))),⟨_,0,L,by omega,rfl,rfl,hL,h116⟩,?_⟩
 rintro m e' w' ⟨j,L',hj,rfl,rfl,hL',hs⟩
 show q8w ..
 rw[qaU,qej,qg]
 refine⟨fun hlt=>?_,fun hge=>?_⟩
 ·have hlt:j<xs.length:=by have:=of_decide_eq_true hlt;omega
  rw[qid]
  have hrow:∀ w2,St w0 w2 (L'.bl q (qM id (xs.take j) s)++(N++((n56,Cs [U id] 24)::H)))->vn w2 5 (.slice a xs.length c) xs.length (xs.map Xc).flatten:=fun w2 h2=>hS.row fun u hu=>h2.has _ _ (List.mem_append_right _ (List.mem_append_left _ hu))
  obtain⟨ad,cp,hac,hld⟩:=(hrow w' hs).ldA hlt
  injection hac with hac _ _
  subst hac
  refine⟨by omega,by omega,?_⟩
  rw[Int.toNat_natCast]
  refine hld _ ?_
  rw[v7 Xc 5 qgs xs hlt,Vh]
  generalize hxj:xs[j]=x at *
  refine hs.newC fun n162 w163 hn162 h163=>h163.stA (k:=0) rfl rfl (by simp) (by simp[Xc,Value.oneCell']) fun w164 h164=>?_
  have h164:St w0 w164 ((n162,Cs (Xc x) 62)::(L'.bl q (qM id (xs.take j) s)++(N++((n56,Cs [U id] 24)::H)))):=h164
  have hdrop:qM id (xs.take (j+1)) s=if x.chain=0 then qM id (xs.take j) s else { qM id (xs.take j) s with hold:=zd (qM id (xs.take j) s).hold (id,x.slot) x.chain }:=by
   rw[zC xs hlt,q3L,hxj]
  have next:∀ {w2:World} {L2:qQ},L2.Ok w0 q (qM id (xs.take (j+1)) s)->St w0 w2 (L2.bl q (qM id (xs.take (j+1)) s)++(N++((n56,Cs [U id] 24)::H)))->
    q0W (Addr.mk n56 0 none) (some ⟨q.cb,0,none⟩) (some ad) xs.length c a1 k1 c1 a2 k2 c2 a3 k3 c3 n i xs.length j w2 K Y5 (fun e' w'=>∃ m,m<xs.length-j/\∃ (j:Nat) (L':qQ),j<=xs.length/\m=xs.length-j/\e'=qi.mk 92 [(46,J j),(7,.pointer (some (Addr.mk n56 0 none))),(0,.pointer (some ⟨q.cb,0,none⟩)),(44,.slice (some ad) xs.length c),(4,.slice a1 k1 c1),(5,.slice a2 k2 c2),(17,.slice a3 k3 c3),(18,J n),(19,J i),(45,J xs.length)] []/\
  L'.Ok w0 q (qM id (xs.take j) s)/\St w0 w' (L'.bl q (qM id (xs.take j) s)++(N++((n56,Cs [U id] 24)::H)))):=fun {w2 L2} h1 h2=>by
   rw[qdz]
   exact⟨xs.length-(j+1),by omega,j+1,L2,by omega,rfl,by rw[qc om om];rfl,h1,h2⟩
  refine⟨x.chain,by rw[qa];exact h164.cell (k:=0) rfl,?_⟩
  rw[qg]
  refine⟨fun hc=>?_,fun hc=>?_⟩
  ·have hc:x.chain≠0:=by simpa using hc
   rw[if_neg hc]at hdrop
   have hid:(n56,Cs [U id] 24)∈((n162,Cs (Xc x) 62)::(L'.bl q (qM id (xs.take j) s)++(N++((n56,Cs [U id] 24)::H)))):=.tail _ (List.mem_append_right _ (List.mem_append_right _ (.head _)))
   refine⟨id,by rw[qw (h164.has _ _ hid)];rfl,x.slot,by rw[qa];exact h164.cell (k:=0) rfl,#[U id,J x.slot],fun wq=>by kernel_rfl,x.chain,by rw[qa];exact h164.cell (k:=0) rfl,?_⟩
   refine YA (p:=(id,x.slot)) (c:=x.chain) (h164.tail hn162) hL' fun w171 L2 hL2 h171=>⟨rfl,?_⟩
   rw[<-hdrop]at hL2 h171
   exact next hL2 h171
  ·have hc:x.chain=0:=by simpa using hc
   rw[if_pos hc]at hdrop
   rw[<-hdrop]at hL' h164
   exact next hL' (h164.tail hn162)
 ·have:j=xs.length:=by have:=of_decide_eq_false hge;omega
  subst this
  rw[List.take_length]at hL' hs
  have h3:St w0 w' (N++((n56,Cs [U id] 24)::(L'.bl q (qM id xs s)++H))):=hs.perm (qn fun c=>by simp only[List.map_append,List.map_cons,List.sum_append,List.sum_cons];omega)
  exact hK w' L' hL' (h3.sub hN)
end
end Go.Fx.Tryz
namespace Go.Fx.Tryz
open Go Go.Fx Go.Fx.Ch
open Go.Proofs
set_option linter.all false
set_option maxRecDepth 20000
variable {w0 w:World} {H G:qE} {K:KT} {s:qd} {L:qQ} {q:LB}
theorem qQ.takeR{A:qE}{a b:List (Value × List (Nat × Obj))}{v:Value × List (Nat × Obj)}(e0:L.rv=a++v::b):(A++(L.bl q s++H)).Perm (v.2++(A++(({ L with rv:=a++(v.1,[])::b }:qQ).bl q s++H))):=
 qn fun c=>by simp only[qQ.bl,qQ.b4,qQ.rest,e0,List.cons_append,List.nil_append,List.map_append,List.map_cons,List.flatten_append,List.flatten_cons,List.sum_append,List.sum_cons];omega
theorem qQ.giveR{A X:qE}{a b:List (Value × List (Nat × Obj))}{v:Value}:(X++(A++(({ L with rv:=a++(v,[])::b }:qQ).bl q s++H))).Perm (A++(({ L with rv:=a++(v,X)::b }:qQ).bl q s++H)):=
 qn fun c=>by simp only[qQ.bl,qQ.b4,qQ.rest,List.cons_append,List.nil_append,List.map_append,List.map_cons,List.flatten_append,List.flatten_cons,List.sum_append,List.sum_cons];omega
theorem qQ.bl_rows{rs:List (List Int)}(h:rs.length=s.rows.length):L.bl q { s with rows:=rs }=L.bl q s:=by
 unfold qQ.bl qQ.b4 CCs
 simp only[h]
theorem qQ.Ok.setR(hL:L.Ok w0 q s){rs:List (List Int)}{rv:List (Value × List (Nat × Obj))}(hr:jY rs rv)(hl:rs.length=s.rows.length)(hn:qF w0 (rv.map (·.2)).flatten):({ L with rv:=rv }:qQ).Ok w0 q { s with rows:=rs }:=
 ⟨hL.nc,hL.ni,hL.nh,hL.nr,hL.nt,qF.append hn (qF.right hL.new),hL.its,hL.hm,hL.hs,hL.inn,hr,hL.k4,hL.k16,hL.tl,by show rs.length<_;rw[hl];exact hL.rl,by show _<rs.length;rw[hl];exact hL.cur⟩
theorem zp.snoc{s s1:qd}{l:List Int}(h:zp s l s1){id:Int}{order:List PL}(ho:order.Perm ((lk s1.hold id).getD [])):zp s (l++[id]) (forget1 order s1 id):=by
 induction h with
 | nil s=>exact .cons ho (.nil _)
 | cons h1 h2 ih=>exact .cons h1 (ih ho)
section
variable {a1 a2 a3:Option Addr} {k1 k2 k3 c1 c2 c3:Nat} {n i:Int} {Y5:YT} {n56:Nat} {id:Int}
theorem qhT{x:Int}{p:Option Addr}(hn:w0.heap.size<=n56)(h:St w0 w (L.bl q s++((n56,Cs [U id] 24)::H)))(hL:L.Ok w0 q s)
  (hK:∀ (w':World) (L':qQ),L'.Ok w0 q { s with rows:=s.rows.map fun r=>r.filter (qN id) }->St w0 w' (L'.bl q { s with rows:=s.rows.map fun r=>r.filter (qN id) }++((n56,Cs [U id] 24)::H))->q6X (some ⟨q.cb,0,none⟩) a1 k1 c1 a2 k2 c2 a3 k3 c3 n i (Addr.mk n56 0 none) w' K Y5) :
  q5h x p (Addr.mk n56 0 none) (some ⟨q.cb,0,none⟩) a1 k1 c1 a2 k2 c2 a3 k3 c3 n i w K Y5:=by
 rw[qiT]
 refine⟨some ⟨q.rb,0,none⟩,s.rows.length,s.rows.length,by rw[qa];exact h.cell (k:=1) rfl,?_⟩
 rw[qhy]
 have hlen:∀ j,(((s.rows.take j).map fun r=>r.filter (qN id))++s.rows.drop j).length=s.rows.length:=fun j=>by simp;omega
 have hrl:=hL.rl
 refine⟨fun m e' w'=>∃ (j:Nat) (L':qQ),j<=s.rows.length/\m=s.rows.length-j/\e'=qi.mk 92 [(70,J j),(7,.pointer (some (Addr.mk n56 0 none))),(0,.pointer (some ⟨q.cb,0,none⟩)),(68,.slice (some ⟨q.rb,0,none⟩) s.rows.length s.rows.length),(4,.slice a1 k1 c1),(5,.slice a2 k2 c2),(17,.slice a3 k3 c3),(18,J n),(19,J i),(69,J s.rows.length)] []/\
  L'.Ok w0 q { s with rows:=((s.rows.take j).map fun r=>r.filter (qN id))++s.rows.drop j }/\St w0 w' (L'.bl q s++((n56,Cs [U id] 24)::H)),⟨_,0,L,by omega,rfl,rfl,hL,h⟩,?_⟩
 rintro m e' w' ⟨j,L',hj,rfl,rfl,hL',hs⟩
 show qa4 ..
 rw[q8k,qiW,qg]
 refine⟨fun hlt=>?_,fun hge=>?_⟩
 ·have hlt:j<s.rows.length:=by have:=of_decide_eq_true hlt;omega
  rw[qdR]
  have hget:(((s.rows.take j).map fun r=>r.filter (qN id))++s.rows.drop j)[j]?=some s.rows[j]:=by
   rw[List.getElem?_append_right (by simp;omega)]
   simp[Nat.min_eq_left (Nat.le_of_lt hlt),List.getElem?_eq_getElem hlt]
  obtain⟨a,v,b,e0,hal,hv,hset⟩:=hL'.rows.split hget
  obtain⟨sa,sc,hsv⟩:=hv.form
  have hrv:(L'.rv.map (·.1))[j]?=some (.slice sa s.rows[j].length sc):=by
   rw[e0,List.map_append,List.getElem?_append_right (by simp;omega)]
   simp[hal,hsv]
  refine⟨by omega,by omega,sa,s.rows[j].length,sc,?_,some ⟨q.rb,0,none⟩,s.rows.length,s.rows.length,by rw[qa];exact hs.cell (k:=1) rfl,?_⟩
  ·rw[qa,Int.toNat_natCast,Nat.mul_one,Nat.zero_add]
   rw[hs.cell (k:=4) rfl];exact hrv
  have h1:=(hs.drew).perm (qQ.takeR (A:=[]) e0)
  have hnew:qF w0 (L'.rv.map (·.2)).flatten:=qF.left hL'.new
  rw[e0]at hnew
  simp only[List.map_append,List.map_cons,List.flatten_append,List.flatten_cons]at hnew
  rw[<-hsv]
  refine qrm (id:=id) (t:=24) h1 (List.mem_append_right _ (List.mem_append_right _ (.head _))) hv (qF.left (qF.right hnew)) (zx.lt hv) fun a' c' X w254 hX hXN h254=>⟨_,_,_,rfl,?_⟩
  have h255:St w0 w254 (({ L' with rv:=a++(v.1,[])::b }:qQ).bl q s++(X++((n56,Cs [U id] 24)::H))):=h254.perm (qn fun c=>by simp only[List.nil_append,List.map_append,List.map_cons,List.sum_append,List.sum_cons];omega)
  refine⟨by rw[qa];exact h255.cell (k:=1) rfl,by omega,by omega,?_⟩
  rw[qa,Int.toNat_natCast,Nat.mul_one,Nat.zero_add]
  refine h255.st1 (k:=4) rfl (by simp;omega) rfl fun w257 h257=>?_
  rw[qg2]
  have hse:((a++(v.1,([]:qE))::b).map (·.1)).set j (.slice a' (s.rows[j].filter (qN id)).length c')=(a++(.slice a' (s.rows[j].filter (qN id)).length c',([]:qE))::b).map (·.1):=by
   rw[List.map_append,List.set_append_right _ _ (by simp;omega)]
   simp[hal]
  have h258:St w0 w257 (({ L' with rv:=a++(.slice a' (s.rows[j].filter (qN id)).length c',[])::b }:qQ).bl q s++(X++((n56,Cs [U id] 24)::H))):=by
   have h257:St w0 w257 (((q.tb,Cs (s.table.map U) 24)::(q.cb,Cs (CCs s q.ib q.hb q.rb q.tb) 109)::(q.ib,.map L'.ies L'.iclk)::(q.hb,.map L'.hes L'.hclk)::(q.rb,Cs (((a++(v.1,([]:qE))::b).map (·.1)).set j (.slice a' (s.rows[j].filter (qN id)).length c')) 22)::({ L' with rv:=a++(v.1,[])::b }:qQ).rest)++(X++((n56,Cs [U id] 24)::H))):=h257
   rw[hse]at h257
   refine h257.perm (qn fun c=>?_)
   simp only[qQ.bl,qQ.b4,qQ.rest,List.cons_append,List.nil_append,List.map_append,List.map_cons,List.flatten_append,List.flatten_cons,List.sum_append,List.sum_cons]
  have h259:St w0 w257 (X++([]++(({ L' with rv:=a++(.slice a' (s.rows[j].filter (qN id)).length c',[])::b }:qQ).bl q s++((n56,Cs [U id] 24)::H)))):=h258.perm (qn fun c=>by simp only[List.nil_append,List.map_append,List.map_cons,List.sum_append,List.sum_cons];omega)
  have h260:=h259.perm qQ.giveR
  have hrows:=hset (s.rows[j].filter (qN id)) (.slice a' (s.rows[j].filter (qN id)).length c',X) hX
  have hstep:(((s.rows.take j).map fun r=>r.filter (qN id))++s.rows.drop j).set j (s.rows[j].filter (qN id))=((s.rows.take (j+1)).map fun r=>r.filter (qN id))++s.rows.drop (j+1):=by
   have hl:(List.map (fun r=>List.filter (qN id) r) (List.take j s.rows)).length=j:=by simp;omega
   rw[List.set_append_right _ _ om,hl,Nat.sub_self,zC s.rows hlt,List.map_append,List.append_assoc]
   congr 1
   rw[List.drop_eq_getElem_cons hlt]
   rfl
  rw[hstep]at hrows
  have hok:=hL'.setR hrows (by rw[hlen,hlen]) (by
   simp only[List.map_append,List.map_cons,List.flatten_append,List.flatten_cons]
   exact qF.append (qF.left hnew) (qF.append hXN (qF.right (qF.right hnew))))
  exact⟨s.rows.length-(j+1),by omega,j+1,_,by omega,rfl,by rw[qc om om];rfl,hok,h260⟩
 ·have:j=s.rows.length:=by have:=of_decide_eq_false hge;omega
  subst this
  rw[List.take_length,List.drop_length,List.append_nil]at hL'
  refine hK w' L' hL' ?_
  rw[qQ.bl_rows (by simp)]
  exact hs
theorem qfJ(hn:w0.heap.size<=n56)(h:St w0 w ((n56,Cs [U id] 24)::(L.bl q s++H)))(hL:L.Ok w0 q s)(hg:zA H)
  (hK:∀ (w':World) (L':qQ) (s':qd),s'={ s with table:=zH s id,rows:=s.rows.map (fun r=>r.filter fun x=>x≠id),items:=dl s.items id }->L'.Ok w0 q s'->St w0 w' (L'.bl q s'++H)->Y5 (qi.mk 92 [(0,.pointer (some ⟨q.cb,0,none⟩)),(4,.slice a1 k1 c1),(5,.slice a2 k2 c2),(19,J (IntKind.wrap .i64 (i+1))),(17,.slice a3 k3 c3),(18,J n)] []) w') :
  q18 (Addr.mk n56 0 none) (some ⟨q.cb,0,none⟩) a1 k1 c1 a2 k2 c2 a3 k3 c3 n i w K Y5:=by
 rw[qh6]
 refine⟨id,h.cell (k:=0) rfl,?_⟩
 have hg2:zA ((n56,Cs [U id] 24)::H):=hg.mono fun u hu=>.tail _ hu
 have h1:St w0 w ((q.tb,Cs (s.table.map U) 24)::(L.b4 q s++((n56,Cs [U id] 24)::H))):=h.perm (qn fun c=>by simp only[qQ.bl,List.cons_append,List.map_append,List.map_cons,List.sum_append,List.sum_cons];omega)
 refine qrL (G:=L.G) h1 (hL.knownC hg2) (fun u hu=>List.mem_append_left _ (.tail _ (.tail _ (.tail _ (.tail _ (List.mem_append_right _ (List.mem_append_right _ hu))))))) fun w191 hlen h191=>⟨rfl,?_⟩
 have hL1:L.Ok w0 q { s with table:=zH s id }:=⟨hL.nc,hL.ni,hL.nh,hL.nr,hL.nt,hL.new,hL.its,hL.hm,hL.hs,hL.inn,hL.rows,hL.k4,hL.k16,hlen,hL.rl,hL.cur⟩
 have h192:St w0 w191 (L.bl q { s with table:=zH s id }++((n56,Cs [U id] 24)::H)):=h191
 refine qhT (s:={ s with table:=zH s id }) hn h192 hL1 fun w' L' hL' h'=>?_
 rw[qg7]
 have h2:=h'.drew
 have hid:(n56,Cs [U id] 24)∈(L'.bl q { ({ s with table:=zH s id }:qd)with rows:=s.rows.map fun r=>r.filter (qN id) }++((n56,Cs [U id] 24)::H)):=List.mem_append_right _ (.head _)
 obtain⟨es',hr,hit⟩:=hL'.its.delete (h2.get (k:=2) rfl) id 0
 refine⟨some q.ib,by rw[qa];exact h2.cell (k:=1) rfl,id,by rw[qw (h2.has _ _ hid)];rfl,_,hr,?_⟩
 have h3:=h2.put (k:=2) rfl (.map es' L'.iclk)
 rw[qda]
 have hok:=hL'.items hit
 have h4:St w0 (w'.drew.putObj q.ib (.map es' L'.iclk)) ((n56,Cs [U id] 24)::(({ L' with ies:=es',iclk:=L'.iclk }:qQ).bl q { s with table:=zH s id,rows:=s.rows.map fun r=>r.filter (qN id),items:=dl s.items id }++H)):=
  St.perm (H:=({ L' with ies:=es',iclk:=L'.iclk }:qQ).bl q { s with table:=zH s id,rows:=s.rows.map fun r=>r.filter (qN id),items:=dl s.items id }++((n56,Cs [U id] 24)::H)) h3 (qn fun c=>by simp only[List.map_append,List.map_cons,List.sum_append,List.sum_cons];omega)
 exact hK _ _ _ rfl hok (h4.tail hn)
end
def qxF(w0:World):Prop:=∀ (w:World) (H N:qE) (K:KT) (ov:Value) (l:List Int),l.length<1000000->zx 1 24 ov l.length (l.map U) N->qF w0 N->St w0 w (N++H)->
 (∀ w' N',zx 1 24 ov l.length ((zL l).map U) N'->qF w0 N'->St w0 w' (N'++H)->K (.tuple [].toArray) w')->q9 P 61 [ov] w K
theorem qPi(w:World):(Instr.buildSlice 22 0 ([]:List (Nat × Value)).toArray).run P w=.ok (.slice (some ⟨w.heap.size,0,none⟩) 0 0) (w.alloc (.cells #[] 24 (0,0))):=kr
theorem qFI(l:List Int):∀ v∈l.map U,v.oneCell'=true:=by
 intro v hv
 obtain⟨x,_,rfl⟩:=List.mem_map.1 hv
 rfl
theorem Yv{l:List Int}{ov:Value}(h:St w0 w H)(hB:∀ w',St w0 w' H->vn w' 1 ov l.length (l.map U))(hlen:l.length<1000000000)(hK:∀ w' ov' N,zx 1 24 ov' l.length (l.map U) N->qF w0 N->St w0 w' (N++H)->K ov' w'):q9 P 75 [ov] w K:=by
 obtain⟨sa,sc,rfl⟩:=(hB w h).form
 refine qHA _ _ _ _ _ ?_
 rw[qFU]
 cases sa with
 | none=>
  simp only[Option.isNone_none,qe]
  have h0:l.length=0:=by
   rcases(hB w h).2 with⟨_,h0⟩ | ⟨ad,cp,h1,_⟩
   ·exact h0
   ·cases h1
  have hb:l=[]:=List.eq_nil_of_length_eq_zero h0
  subst hb
  exact hK w _ [] (zx.nil 1 24) (qF.nil w0) h
 | some a=>
  simp only[Option.isNone_some,qb]
  rw[qqj]
  have h1:St w0 (w.alloc (.cells #[] 24 (0,0))) ([(w.heap.size,Cs [] 24)]++H):=h.alloc _
  have hS:zx 1 24 (.slice (some ⟨w.heap.size,0,none⟩) 0 0) 0 [] [(w.heap.size,Cs [] 24)]:=⟨rfl,.inr ⟨w.heap.size,0,[],rfl,rfl,Nat.le_refl _,Nat.zero_le _,rfl,rfl⟩⟩
  have hN:qF w0 [(w.heap.size,Cs [] 24)]:=fun x hx=>by rw[List.mem_singleton.1 hx];exact h.le
  have hr:=hB _ (h1.sub hN)
  obtain⟨v',w',L',hrun,hS',hs',hN'⟩:=St.appendS (P:=P) 22 22 24 Tryz.t24 (U 0) 1 4 Tryz.underlying22 kr rfl rfl rfl rfl om (A:=[]) (H:=H) h1 hS hN (ad:=a) (m:=l.length) (c:=sc) (news:=l.map U) (by simp) (fun j u hu=>by
   rcases hr.2 with⟨h0,_⟩ | ⟨ad,cp,e1,e2⟩
   ·cases h0
   ·injection e1 with e1 _ _
    injection e1 with e1
    subst e1
    have hj:j<l.length:=by
     have:=(List.getElem?_eq_some_iff.1 hu).1
     simpa using this
    rw[e2 j om];exact hu) (qFI l) (by simp[maxLen];omega) om
  obtain⟨va,vc,rfl⟩:=hS'.form
  refine⟨_,_,_,_,qPi w,_,_,_,w',hrun,?_⟩
  refine hK w' _ L' ?_ hN' hs'
  simpa using hS'
theorem yM(l:List Int):(zL l).length=l.length:=List.length_mergeSort l
theorem Js(hsort:qxF w0)(h:St w0 w (L.bl q s++H))(hL:L.Ok w0 q s)(hg:zA H){ids:List Int}{ov:Value}(hB:∀ w',St w0 w' (L.bl q s++H)->vn w' 1 ov ids.length (ids.map U))(hlen:ids.length<1000000)
  (hK:∀ (w':World) (L':qQ) (s':qd) (ov':Value) (N:qE),zp s (zL ids) s'->L'.Ok w0 q s'->zx 1 24 ov' (zL ids).length ((zL ids).map U) N->qF w0 N->St w0 w' (N++(L'.bl q s'++H))->K ov' w'):q9 P 60 [.pointer (some ⟨q.cb,0,none⟩),ov] w K:=by
 obtain⟨sa,sc,e⟩:=(hB w h).form
 subst e
 refine qK2 _ _ _ _ _ _ ?_
 rw[qKw,qp0,qqg]
 refine Yv h hB om fun w8 ov1 N hS hN h8=>?_
 obtain⟨la,lc,e⟩:=hS.form
 subst e
 refine⟨_,_,_,rfl,?_⟩
 rw[qqb]
 refine hsort _ _ _ _ _ _ hlen hS hN h8 fun w17 N2 hS2 hN2 h17=>⟨rfl,?_⟩
 rw[qq9,qqw]
 have hll:=yM ids
 rw[<-hll]at hS2
 rw[<-hll]
 rw[<-hll]at hlen
 generalize hl:zL ids=l at *
 refine⟨fun m e' w'=>∃ (j:Nat) (L':qQ) (s':qd),j<=l.length/\m=l.length-j/\e'=qi.mk 92 [(0,.pointer (some ⟨q.cb,0,none⟩)),(4,.slice none 0 0),(5,.slice la l.length lc),(19,J j),(17,.slice la l.length lc),(18,J l.length)] []/\
  zp s (l.take j) s'/\L'.Ok w0 q s'/\St w0 w' (L'.bl q s'++(N2++H)),⟨_,0,L,s,by omega,rfl,by rw[hll];rfl,.nil _,hL,h17.perm (qn fun c=>by simp only[List.map_append,List.sum_append];omega)⟩,?_⟩
 rintro m e' w' ⟨j,L',s',hj,rfl,rfl,hF,hL',hs⟩
 show qnw ..
 rw[qim,qqR,qg]
 have hg2:zA (N2++H):=hg.mono fun u hu=>List.mem_append_right _ hu
 refine⟨fun hlt=>?_,fun hge=>?_⟩
 ·have hlt:j<l.length:=by have:=of_decide_eq_true hlt;omega
  rw[qpr]
  have hrow:vn w' 1 (.slice la l.length lc) l.length (l.map U):=hS2.row fun u hu=>hs.has _ _ (List.mem_append_right _ (List.mem_append_left _ hu))
  obtain⟨ad,cp,hac,_⟩:=hrow.ldA hlt
  injection hac with hac _ _
  subst hac
  refine⟨by omega,by omega,l[j],by rw[Int.toNat_natCast];exact j8 hrow hlt,?_⟩
  rw[qM0]
  refine hs.newC fun n56 w57 hn56 h57=>h57.st1 (k:=0) rfl (by simp) rfl fun w58 h58=>?_
  have h58:St w0 w58 ((n56,Cs [U l[j]] 24)::(L'.bl q s'++(N2++H))):=h58
  refine qpC hn56 h58 hL' hg2 fun w2 L2 order ho hL2 h2=>?_
  refine qcX hn56 h2 hL2 hg2 fun w3 L3 hL3 h3=>?_
  refine qfJ hn56 h3 hL3 hg2 fun w4 L4 s4 e4 hL4 h4=>?_
  have hf:s4=forget1 order s' l[j]:=e4
  subst hf
  refine⟨l.length-(j+1),by omega,j+1,L4,_,by omega,rfl,by rw[qc om om];rfl,?_,hL4,h4⟩
  rw[zC l hlt]
  exact zp.snoc hF ho
 ·have:j=l.length:=by have:=of_decide_eq_false hge;omega
  subst this
  rw[List.take_length]at hF
  rw[qg4]
  exact hK w' L' s' _ N2 hF hL' hS2 hN2 (hs.perm (qn fun c=>by simp only[List.map_append,List.sum_append];omega))
end Go.Fx.Tryz
namespace Go.Fx.Tryz
set_option maxRecDepth 100000
open Go Go.Fx Go.Proofs
def qLd:=qm Tryz.f176
def qLc:=Tryz.f176.results.toList
abbrev qBo K:=qr P qLc K
def f176 a w K:=CS P qLd none [2] [2] (qBo K) (qz 6 [(Value.int .u32 a)]) w
theorem qEi:f176 a w K=(K (Value.bool (a != a)) w):=kr
theorem qCZ a w K(h:f176 a w K):q9 P 176 [(Value.int .u32 a)] w K:=qA qLd Tryz.func176 h
def vT:=qm Tryz.f142
def qMn:=Tryz.f142.results.toList
abbrev QU K:=qr P qMn K
def f142 a b c d e w K:=CS P vT none [] [] (QU K) (qz 49 [(VS a b c),(VI d),(VI e)]) w
def qoa a b c d e w K:=SC vT 1 [] [] (QU K) 49 [(0,VS a b c),(1,VI d),(2,VI e)] w
abbrev qFm K:=kq vT 1 [] [] (QU K)
def qj3 a b c d e f g h w K:=SC vT 3 [] [] (QU K) 49 [(6,VI a),(9,VI b),(8,VI c),(0,VS d e f),(1,VI g),(2,VI h)] w
abbrev q5G K:=qo 0 (QU K)
def qvI K Y2 e w:=zt (fun e w=>CS P (cA vT 12) none [0,6,1,2] [] (qu [0,6,1,2] Y2 (q5G K)) e w) e w
abbrev Zt K Y2:=qu [0,6,1,2] Y2 (q5G K)
def q2e a b c d f g w K Y2:=SG vT 12 [0,6,1,2] [] (Zt K Y2) 49 [(0,VS a b c),(6,VI d),(1,VI f),(2,VI g)] w
abbrev qj4 K Y2:=kq vT 12 [0,6,1,2] [] (Zt K Y2)
abbrev qFb K Y2:=kq vT 24 [0,1,2,6] [] (qj4 K Y2)
def qlm a b c d f g w K Y2:=SG vT 25 [0,6,1,2] [] (Zt K Y2) 49 [(0,VS a b c),(1,VI d),(2,VI f),(6,VI g)] w
abbrev qmP K Y2:=kq vT 25 [0,6,1,2] [] (Zt K Y2)
abbrev VD K Y2:=qo 1 (qmP K Y2)
abbrev qzS K Y2:=kq vT 100 [0,1,2,6] [0,1,2,6] (VD K Y2)
def qn2 a b c d e f g h w K Y2:=SC vT 201 [0,1,2,6] [0,1,2,6] (VD K Y2) 49 [(7,VI a),(15,VI b),(0,VS c d e),(1,VI f),(2,VI g),(6,VI h)] w
abbrev q7b K Y2:=qo 2 (VD K Y2)
def qvm K Y2 Y5 e w:=zt (fun e w=>CS P (cA vT 804) none [7,0,1,2,6] [0,1,2,6] (qu [7,0,1,2,6] Y5 (q7b K Y2)) e w) e w
abbrev ZJ K Y2 Y5:=qu [7,0,1,2,6] Y5 (q7b K Y2)
def qcH a b c d f g h w K Y2 Y5:=SG vT 804 [7,0,1,2,6] [0,1,2,6] (ZJ K Y2 Y5) 49 [(7,VI a),(0,VS b c d),(1,VI f),(2,VI g),(6,VI h)] w
abbrev q6Y K Y2 Y5:=kq vT 804 [7,0,1,2,6] [0,1,2,6] (ZJ K Y2 Y5)
abbrev qzq K Y2 Y5:=kq vT 1608 [0,1,2,6,7] [0,1,2,6] (q6Y K Y2 Y5)
def q7O a b c d f g h i w K Y2 Y5:=SG vT 3217 [0,1,2,6,7] [0,1,2,6] (q6Y K Y2 Y5) 49 [(30,VB a),(0,VS b c d),(1,VI f),(2,VI g),(6,VI h),(7,VI i)] w
def qm8 a b c d f g h w K Y2 Y5:=SG vT 1609 [7,0,1,2,6] [0,1,2,6] (ZJ K Y2 Y5) 49 [(0,VS a b c),(1,VI d),(2,VI f),(6,VI g),(7,VI h)] w
abbrev q8c K Y2 Y5:=kq vT 1609 [7,0,1,2,6] [0,1,2,6] (ZJ K Y2 Y5)
abbrev qtT K Y2 Y5:=qo 3 (q8c K Y2 Y5)
def qnl a b c d f g h w K Y2 Y5:=SG vT 3219 [7,0,1,2,6] [0,1,2,6] (ZJ K Y2 Y5) 49 [(0,VS a b c),(1,VI d),(2,VI f),(6,VI g),(7,VI h)] w
theorem qdb:qnl a c d e f g h w K Y2 Y5=(Y5 (qi.mk 49 [(7,(Value.int .i64 (IntKind.wrap .i64 (h-1)))),(0,(Value.slice a c d)),(1,(Value.int .i64 e)),(2,(Value.int .i64 f)),(6,(Value.int .i64 g))] []) w):=qB kr
theorem qhg:qm8 d e f g h i c w K Y2 Y5=(qh d (fun l=>0<=(IntKind.wrap .i64 (c-1))/\(IntKind.wrap .i64 (c-1))<(e:Nat)/\qh d (fun m=>0<=c/\c<(e:Nat)/\∃ j:Int,w.drew.cell? (l.add (Int.toNat (IntKind.wrap .i64 (c-1))*1))=some (.int .u32 j)/\∃ k:Int,w.drew.cell? (m.add (Int.toNat c*1))=some (.int .u32 k)/\qh d (fun n=>0<=c/\c<(e:Nat)/\zW (n.add (Int.toNat c*1)) (Value.int .u32 j) w.drew (fun o=>qh d (fun p=>0<=(IntKind.wrap .i64 (c-1))/\(IntKind.wrap .i64 (c-1))<(e:Nat)/\zW (p.add (Int.toNat (IntKind.wrap .i64 (c-1))*1)) (Value.int .u32 k) o (fun q=>qnl d e f g h i c q K Y2 Y5))))))):=qB (qG [0,1,2,6,7] (q8c K Y2 Y5) (Q8 3 [0,1,2,6,7] (qtT K Y2 Y5) kr))
def q0r a b c d f g w K Y2:=SG vT 51 [0,6,1,2] [] (Zt K Y2) 49 [(0,VS a b c),(1,VI d),(2,VI f),(6,VI g)] w
theorem qh4:q0r a c d e f g w K Y2=(Y2 (qi.mk 49 [(0,(Value.slice a c d)),(6,(Value.int .i64 (IntKind.wrap .i64 (g+1)))),(1,(Value.int .i64 e)),(2,(Value.int .i64 f))] []) w):=qB kr
theorem q3g:q7O h a c d e f g i w K Y2 Y5=(qp h (qm8 a c d e f g i w K Y2 Y5) (q0r a c d e f g w K Y2)):=qB kr
theorem qbH:qcH c d e g f h i w K Y2 Y5=(qp (decide (c > f)) (qh d (fun m=>0<=c/\c<(e:Nat)/\qh d (fun n=>0<=(IntKind.wrap .i64 (c-1))/\(IntKind.wrap .i64 (c-1))<(e:Nat)/\∃ j:Int,w.drew.cell? (m.add (Int.toNat c*1))=some (.int .u32 j)/\∃ k:Int,w.drew.cell? (n.add (Int.toNat (IntKind.wrap .i64 (c-1))*1))=some (.int .u32 k)/\q9 P 148 [(Value.int .u32 j),(Value.int .u32 k)] w.drew (fun o p=>∃ l:Bool,o=(.bool l)/\q7O l d e g f h i c p K Y2 Y5)))) (q7O false d e g f h i c w.drew K Y2 Y5)):=qB (qG [0,1,2,6,7] (q6Y K Y2 Y5) (qG [30,0,1,2,6,7] (qzq K Y2 Y5) kr))
theorem qhA:qn2 a i c d e f g h w K Y2=(qK (qvm K Y2) (qi.mk 49 [(7,(Value.int .i64 a)),(0,(Value.slice c d e)),(1,(Value.int .i64 f)),(2,(Value.int .i64 g)),(6,(Value.int .i64 h))] []) w):=Eq.trans (b:=CS P (cA vT 201) none [0,1,2,6] [0,1,2,6] (VD K Y2) (qi.mk 49 [(7,(VI a)),(15,(VI i)),(0,(VS c d e)),(1,(VI f)),(2,(VI g)),(6,(VI h))] []) w) kr (Eq.trans (Zc 2 [0,1,2,6] (q7b K Y2) kr) ((qS (b:=(cA vT 804)) (X':=[0,1,2,6]) (H:=[7,0,1,2,6]) kr kr kr).trans kr))
theorem qiL:qlm d e f g h c w K Y2=(qn2 c c d e f g h c w K Y2):=qB (qG [0,1,2,6] (qmP K Y2) (Q8 1 [0,1,2,6] (VD K Y2) (qG [7,0,1,2,6] (qzS K Y2) kr)))
theorem JL:q2e e f g c h d w K Y2=(qp (decide (c<d)) (qlm e f g h d c w K Y2) (K (Value.tuple #[]) w)):=qB (qG [0,1,2,6] (qj4 K Y2) (qG [12,0,1,2,6] (qFb K Y2) kr))
theorem q3y:qj3 a h i c d e f g w K=(qK (qvI K) (qi.mk 49 [(0,(Value.slice c d e)),(6,(Value.int .i64 a)),(1,(Value.int .i64 f)),(2,(Value.int .i64 g))] []) w):=Eq.trans (b:=CS P (cA vT 3) none [] [] (QU K) (qi.mk 49 [(6,(VI a)),(9,(VI h)),(8,(VI i)),(0,(VS c d e)),(1,(VI f)),(2,(VI g))] []) w) kr (Eq.trans (Zc 0 [] (q5G K) kr) ((qS (b:=(cA vT 12)) (X':=[]) (H:=[0,6,1,2]) kr kr kr).trans kr))
theorem q2m:qoa d e f c g w K=(qj3 (IntKind.wrap .i64 (c+1)) (IntKind.wrap .i64 (c+1)) c d e f c g w K):=Eq.trans (b:=CS P (cA vT 1) none [] [] (QU K) (qi.mk 49 [(0,(VS d e f)),(1,(VI c)),(2,(VI g))] []) w) kr (Eq.trans (qZ [0,6,1,2] (qFm K) kr) kr)
theorem qo7:f142 a b c d e w K=(qoa a b c d e w K):=kr
theorem qlE a b c d e w K(h:f142 a b c d e w K):q9 P 142 [(Value.slice a b c),(Value.int .i64 d),(Value.int .i64 e)] w K:=qA vT Tryz.func142 h
def QT:=qm Tryz.f146
def qLz:=Tryz.f146.results.toList
abbrev jd K:=qr P qLz K
def f146 a b c d e w K:=CS P QT none [] [] (jd K) (qz 32 [(VS a b c),(VI d),(VI e)]) w
def qnj a b c d e w K:=SC QT 1 [] [] (jd K) 32 [(0,VS a b c),(1,VI d),(2,VI e)] w
abbrev qzo K:=kq QT 1 [] [] (jd K)
def qkY a b c d e f g w K:=SC QT 3 [] [] (jd K) 32 [(6,VI a),(8,VI b),(0,VS c d e),(1,VI f),(2,VI g)] w
abbrev qEN K:=kq QT 3 [] [] (jd K)
def qoA a b c d e f g h i j w K:=SC QT 7 [] [] (jd K) 32 [(7,VI a),(10,VI b),(9,VI c),(6,VI d),(8,VI e),(0,VS f g h),(1,VI i),(2,VI j)] w
abbrev q78 K:=qo 0 (jd K)
def qui K Y3 e w:=zt (fun e w=>CS P (cA QT 28) none [7,6,0] [] (qu [7,6,0] Y3 (q78 K)) e w) e w
abbrev Vp K Y3:=qu [7,6,0] Y3 (q78 K)
def qbr a b c d f w K Y3:=SG QT 28 [7,6,0] [] (Vp K Y3) 32 [(7,VI a),(6,VI b),(0,VS c d f)] w
abbrev qlB K Y3:=kq QT 28 [7,6,0] [] (Vp K Y3)
abbrev qyL K Y3:=kq QT 56 [0,7,6] [] (qlB K Y3)
def qnK a b c d f w K Y3:=SG QT 57 [7,6,0] [] (Vp K Y3) 32 [(0,VS a b c),(7,VI d),(6,VI f)] w
abbrev q1i K Y3:=qo 1 (Vp K Y3)
abbrev qA4 K Y3:=kq QT 114 [7,6,0] [7,6,0] (q1i K Y3)
def qoq a b c d f w K Y3:=SG QT 229 [7,6,0] [7,6,0] (q1i K Y3) 32 [(0,VS a b c),(7,VI d),(6,VI f)] w
abbrev qBV K Y3:=kq QT 229 [7,6,0] [7,6,0] (q1i K Y3)
theorem qi5:qoq c d e f g w K Y3=(Y3 (qi.mk 32 [(7,(Value.int .i64 (IntKind.wrap .i64 (f-1)))),(6,(Value.int .i64 (IntKind.wrap .i64 (g+1)))),(0,(Value.slice c d e))] []) w):=qB (qG [6,0,7] (qBV K Y3) kr)
theorem qhG:qnK e f g c d w K Y3=(qh e (fun j=>0<=c/\c<(f:Nat)/\qh e (fun k=>0<=d/\d<(f:Nat)/\∃ h:Int,w.drew.cell? (j.add (Int.toNat c*1))=some (.int .u32 h)/\∃ i:Int,w.drew.cell? (k.add (Int.toNat d*1))=some (.int .u32 i)/\qh e (fun l=>0<=d/\d<(f:Nat)/\zW (l.add (Int.toNat d*1)) (Value.int .u32 h) w.drew (fun m=>qh e (fun n=>0<=c/\c<(f:Nat)/\zW (n.add (Int.toNat c*1)) (Value.int .u32 i) m (fun o=>qoq e f g c d o K Y3))))))):=qB (Q8 1 [7,6,0] (q1i K Y3) (qG [0,7,6] (qA4 K Y3) kr))
theorem qbC:qbr c d e f g w K Y3=(qp (decide (d<c)) (qnK e f g c d w K Y3) (K (Value.tuple #[]) w)):=qB (qG [0,7,6] (qlB K Y3) (qG [13,0,7,6] (qyL K Y3) kr))
theorem qfY:qoA a g h c i d e f j k w K=(qK (qui K) (qi.mk 32 [(7,(Value.int .i64 a)),(6,(Value.int .i64 c)),(0,(Value.slice d e f))] []) w):=Eq.trans (b:=CS P (cA QT 7) none [] [] (jd K) (qi.mk 32 [(7,(VI a)),(10,(VI g)),(9,(VI h)),(6,(VI c)),(8,(VI i)),(0,(VS d e f)),(1,(VI j)),(2,(VI k))] []) w) kr (Eq.trans (Zc 0 [] (q78 K) kr) ((qS (b:=(cA QT 28)) (X':=[]) (H:=[7,6,0]) kr kr kr).trans kr))
theorem qen:qkY d e f g h i c w K=(qoA (IntKind.wrap .i64 (c-1)) (IntKind.wrap .i64 (c-1)) c d e f g h i c w K):=Eq.trans (b:=CS P (cA QT 3) none [] [] (jd K) (qi.mk 32 [(6,(VI d)),(8,(VI e)),(0,(VS f g h)),(1,(VI i)),(2,(VI c))] []) w) kr (Eq.trans (qZ [7,6,0] (qEN K) kr) kr)
theorem qeQ:qnj d e f c g w K=(qkY c c d e f c g w K):=Eq.trans (b:=CS P (cA QT 1) none [] [] (jd K) (qi.mk 32 [(0,(VS d e f)),(1,(VI c)),(2,(VI g))] []) w) kr (Eq.trans (qZ [6,0,2] (qzo K) kr) kr)
theorem qCC:f146 a b c d e w K=(qnj a b c d e w K):=kr
theorem qCz a b c d e w K(h:f146 a b c d e w K):q9 P 146 [(Value.slice a b c),(Value.int .i64 d),(Value.int .i64 e)] w K:=qA QT Tryz.func146 h
def qFX:=qm Tryz.f148
def qLR:=Tryz.f148.results.toList
abbrev qow K:=qr P qLR K
def f148 a b w K:=CS P qFX none [4] [4] (qow K) (qz 17 [(Value.int .u32 a),(Value.int .u32 b)]) w
def q11 a w K:=SG qFX 7 [4] [4] (qow K) 17 [(4,VB a)] w
theorem qhp:q11 a w K=(K (Value.bool a) w):=qB kr
theorem qCJ:f148 a b w K=(q9 P 176 [(Value.int .u32 a)] w (fun g c=>∃ d:Bool,g=(.bool d)/\qp d (q9 P 176 [(Value.int .u32 b)] c (fun h e=>∃ f:Bool,h=(.bool f)/\qp (!f) (q11 true e K) (q11 (decide (a<b)) e K))) (q11 (decide (a<b)) c K))):=kr
theorem qz9 a b w K(h:f148 a b w K):q9 P 148 [(Value.int .u32 a),(Value.int .u32 b)] w K:=qA qFX Tryz.func148 h
def Q9:=qm Tryz.f171
def qLv:=Tryz.f171.results.toList
abbrev Z5 K:=qr P qLv K
def f171 a b c d e f w K:=CS P Q9 none [] [] (Z5 K) (qz 76 [(VS a b c),(VI d),(VI e),(VI f)]) w
def qlV a b c d e f w K:=SC Q9 1 [] [] (Z5 K) 76 [(0,VS a b c),(1,VI d),(2,VI e),(3,VI f)] w
abbrev qDP K:=kq Q9 1 [] [] (Z5 K)
def qks a b c d e f g h w K:=SC Q9 3 [] [] (Z5 K) 76 [(8,VI a),(10,VI b),(0,VS c d e),(1,VI f),(2,VI g),(3,VI h)] w
abbrev q5z K:=qo 0 (Z5 K)
def qto K Y2 e w:=zt (fun e w=>CS P (cA Q9 12) none [8,3,0,2] [] (qu [8,3,0,2] Y2 (q5z K)) e w) e w
abbrev q9H K Y2:=qu [8,3,0,2] Y2 (q5z K)
def qa3 a b c d f g w K Y2:=SG Q9 12 [8,3,0,2] [] (q9H K Y2) 76 [(8,VI a),(3,VI b),(0,VS c d f),(2,VI g)] w
abbrev jC K Y2:=qo 1 (q9H K Y2)
abbrev qyC K Y2:=kq Q9 24 [8,3,0,2] [8,3,0,2] (jC K Y2)
def qnc a b c d f g h w K Y2:=SG Q9 99 [8,3,0,2] [8,3,0,2] (jC K Y2) 76 [(8,VI a),(3,VI b),(0,VS c d f),(2,VI g),(9,VI h)] w
abbrev q6T K Y2:=kq Q9 99 [8,3,0,2] [8,3,0,2] (jC K Y2)
abbrev qyS K Y2:=kq Q9 198 [8,3,0,2,9] [8,3,0,2] (q6T K Y2)
def q65 a b c d f g h i w K Y2:=SG Q9 397 [8,3,0,2,9] [8,3,0,2] (q6T K Y2) 76 [(36,VB a),(8,VI b),(3,VI c),(0,VS d f g),(2,VI h),(9,VI i)] w
def q1a a b c d f g h w K Y2:=SG Q9 199 [8,3,0,2] [8,3,0,2] (jC K Y2) 76 [(8,VI a),(3,VI b),(0,VS c d f),(2,VI g),(9,VI h)] w
abbrev q7j K Y2:=kq Q9 199 [8,3,0,2] [8,3,0,2] (jC K Y2)
abbrev qF4 K Y2:=kq Q9 398 [3,0,2,9,8] [8,3,0,2] (q7j K Y2)
def qkM a b c d f g h i w K Y2:=SG Q9 797 [3,0,2,9,8] [8,3,0,2] (q7j K Y2) 76 [(52,VB a),(8,VI b),(3,VI c),(0,VS d f g),(2,VI h),(9,VI i)] w
def qoD a b c d f g h w K Y2:=SG Q9 399 [8,3,0,2] [8,3,0,2] (jC K Y2) 76 [(3,VI a),(0,VS b c d),(2,VI f),(9,VI g),(8,VI h)] w
abbrev qy6 K Y2:=kq Q9 399 [8,3,0,2] [8,3,0,2] (jC K Y2)
def qm1 a b c d f g w K Y2:=SG Q9 799 [8,3,0,2] [8,3,0,2] (jC K Y2) 76 [(3,VI a),(0,VS b c d),(2,VI f),(9,VI g)] w
theorem qhf:qm1 a c d e f g w K Y2=(Y2 (qi.mk 76 [(8,(Value.int .i64 g)),(3,(Value.int .i64 a)),(0,(Value.slice c d e)),(2,(Value.int .i64 f))] []) w):=qB kr
theorem qgt:qoD c f g h i d e w K Y2=(qh f (fun l=>0<=(IntKind.wrap .i64 (c+d))/\(IntKind.wrap .i64 (c+d))<(g:Nat)/\qh f (fun m=>0<=(IntKind.wrap .i64 (c+e))/\(IntKind.wrap .i64 (c+e))<(g:Nat)/\∃ j:Int,w.drew.cell? (l.add (Int.toNat (IntKind.wrap .i64 (c+d))*1))=some (.int .u32 j)/\∃ k:Int,w.drew.cell? (m.add (Int.toNat (IntKind.wrap .i64 (c+e))*1))=some (.int .u32 k)/\qh f (fun n=>0<=(IntKind.wrap .i64 (c+e))/\(IntKind.wrap .i64 (c+e))<(g:Nat)/\zW (n.add (Int.toNat (IntKind.wrap .i64 (c+e))*1)) (Value.int .u32 j) w.drew (fun o=>qh f (fun p=>0<=(IntKind.wrap .i64 (c+d))/\(IntKind.wrap .i64 (c+d))<(g:Nat)/\zW (p.add (Int.toNat (IntKind.wrap .i64 (c+d))*1)) (Value.int .u32 k) o (fun q=>qm1 c f g h i d q K Y2))))))):=qB (qG [3,0,2,9] (qy6 K Y2) kr)
theorem qii:qkM a c d e f g h i w K Y2=(qp a (K (Value.tuple #[]) w) (qoD d e f g h i c w K Y2)):=qB kr
theorem qdl:q1a d c f g h i e w K Y2=(qh f (fun m=>0<=(IntKind.wrap .i64 (c+d))/\(IntKind.wrap .i64 (c+d))<(g:Nat)/\qh f (fun n=>0<=(IntKind.wrap .i64 (c+e))/\(IntKind.wrap .i64 (c+e))<(g:Nat)/\∃ j:Int,w.drew.cell? (m.add (Int.toNat (IntKind.wrap .i64 (c+d))*1))=some (.int .u32 j)/\∃ k:Int,w.drew.cell? (n.add (Int.toNat (IntKind.wrap .i64 (c+e))*1))=some (.int .u32 k)/\q9 P 148 [(Value.int .u32 j),(Value.int .u32 k)] w.drew (fun o p=>∃ l:Bool,o=(.bool l)/\qkM (!l) d c f g h i e p K Y2)))):=qB (qG [3,0,2,9,8] (q7j K Y2) (qG [52,8,3,0,2,9] (qF4 K Y2) kr))
theorem q1r:q65 i a c d e f g h w K Y2=(qp i (q1a a c d e f g (IntKind.wrap .i64 (h+1)) w K Y2) (q1a a c d e f g h w K Y2)):=qB kr
theorem qic:qnc h d e f i g c w K Y2=(qp (decide ((IntKind.wrap .i64 (c+1))<g)) (qh e (fun m=>0<=(IntKind.wrap .i64 (d+c))/\(IntKind.wrap .i64 (d+c))<(f:Nat)/\qh e (fun n=>0<=(IntKind.wrap .i64 ((IntKind.wrap .i64 (d+c))+1))/\(IntKind.wrap .i64 ((IntKind.wrap .i64 (d+c))+1))<(f:Nat)/\∃ j:Int,w.drew.cell? (m.add (Int.toNat (IntKind.wrap .i64 (d+c))*1))=some (.int .u32 j)/\∃ k:Int,w.drew.cell? (n.add (Int.toNat (IntKind.wrap .i64 ((IntKind.wrap .i64 (d+c))+1))*1))=some (.int .u32 k)/\q9 P 148 [(Value.int .u32 j),(Value.int .u32 k)] w.drew (fun o p=>∃ l:Bool,o=(.bool l)/\q65 l h d e f i g c p K Y2)))) (q65 false h d e f i g c w.drew K Y2)):=qB (qG [8,3,0,2,9] (q6T K Y2) (qG [36,8,3,0,2,9] (qyS K Y2) kr))
theorem q8A:qa3 c e f g h d w K Y2=(qp (decide ((IntKind.wrap .i64 ((IntKind.wrap .i64 ((2:Int)*c))+1))>=d)) (K (Value.tuple #[]) w) (qnc c e f g h d (IntKind.wrap .i64 ((IntKind.wrap .i64 ((2:Int)*c))+1)) w K Y2)):=qB (Q8 1 [8,3,0,2] (jC K Y2) (qG [8,3,0,2,9] (qyC K Y2) kr))
theorem qg9:qks a h c d e i f g w K=(qK (qto K) (qi.mk 76 [(8,(Value.int .i64 a)),(3,(Value.int .i64 g)),(0,(Value.slice c d e)),(2,(Value.int .i64 f))] []) w):=Eq.trans (b:=CS P (cA Q9 3) none [] [] (Z5 K) (qi.mk 76 [(8,(VI a)),(10,(VI h)),(0,(VS c d e)),(1,(VI i)),(2,(VI f)),(3,(VI g))] []) w) kr (Eq.trans (Zc 0 [] (q5z K) kr) ((qS (b:=(cA Q9 12)) (X':=[]) (H:=[8,3,0,2]) kr kr kr).trans kr))
theorem qdG:qlV d e f c g h w K=(qks c c d e f c g h w K):=Eq.trans (b:=CS P (cA Q9 1) none [] [] (Z5 K) (qi.mk 76 [(0,(VS d e f)),(1,(VI c)),(2,(VI g)),(3,(VI h))] []) w) kr (Eq.trans (qZ [8,3,0,2] (qDP K) kr) kr)
theorem qCv:f171 a b c d e f w K=(qlV a b c d e f w K):=kr
theorem qEt a b c d e f w K(h:f171 a b c d e f w K):q9 P 171 [(Value.slice a b c),(Value.int .i64 d),(Value.int .i64 e),(Value.int .i64 f)] w K:=qA Q9 Tryz.func171 h
def ym:=qm Tryz.f143
def qKH:=Tryz.f143.results.toList
abbrev zX K:=qr P qKH K
def f143 a b c d e w K:=CS P ym none [] [] (zX K) (qz 56 [(VS a b c),(VI d),(VI e)]) w
def qoH a b c d e w K:=SC ym 1 [] [] (zX K) 56 [(0,VS a b c),(1,VI d),(2,VI e)] w
abbrev qFe K:=kq ym 1 [] [] (zX K)
def qmN a b c d e f g w K:=SC ym 3 [] [] (zX K) 56 [(6,VI a),(11,VI b),(0,VS c d e),(1,VI f),(2,VI g)] w
abbrev qCL K:=kq ym 3 [] [] (zX K)
def qjb a b c d e f g h w K:=SC ym 7 [] [] (zX K) 56 [(7,VI a),(6,VI b),(11,VI c),(0,VS d e f),(1,VI g),(2,VI h)] w
abbrev qyN K:=kq ym 7 [] [] (zX K)
def qkR a b c d e f g h i j k l w K:=SC ym 15 [] [] (zX K) 56 [(8,VI a),(14,VI b),(13,VI c),(12,VI d),(7,VI e),(6,VI f),(11,VI g),(0,VS h i j),(1,VI k),(2,VI l)] w
abbrev Vi K:=kq ym 15 [] [] (zX K)
abbrev qzB K:=kq ym 30 [6,7,0,8] [] (Vi K)
def qnh a b c d e f g h i j k l m n o p w K:=SC ym 61 [6,7,0,8] [] (Vi K) 56 [(9,VI a),(17,VI b),(16,VI c),(15,VI d),(8,VI e),(14,VI f),(13,VI g),(12,VI h),(7,VI i),(6,VI j),(11,VI k),(0,VS l m n),(1,VI o),(2,VI p)] w
abbrev q6p K:=qo 0 (Vi K)
def qym K Y5 e w:=zt (fun e w=>CS P (cA ym 244) none [9,6,8,0,7] [6,7,0,8] (qu [9,6,8,0,7] Y5 (q6p K)) e w) e w
abbrev Zr K Y5:=qu [9,6,8,0,7] Y5 (q6p K)
def qc8 a b c d f g h w K Y5:=SG ym 244 [9,6,8,0,7] [6,7,0,8] (Zr K Y5) 56 [(9,VI a),(6,VI b),(8,VI c),(0,VS d f g),(7,VI h)] w
abbrev qoF K Y5:=kq ym 244 [9,6,8,0,7] [6,7,0,8] (Zr K Y5)
abbrev qFa K Y5:=kq ym 488 [6,8,0,7,9] [6,7,0,8] (qoF K Y5)
def qlc a b c d f g h w K Y5:=SG ym 489 [9,6,8,0,7] [6,7,0,8] (Zr K Y5) 56 [(6,VI a),(8,VI b),(0,VS c d f),(7,VI g),(9,VI h)] w
abbrev qk0 K Y5:=kq ym 489 [9,6,8,0,7] [6,7,0,8] (Zr K Y5)
abbrev qAi K Y5:=qo 1 (qk0 K Y5)
def qlA a b c d f g h w K Y5:=SG ym 979 [9,6,8,0,7] [6,7,0,8] (Zr K Y5) 56 [(6,VI a),(8,VI b),(0,VS c d f),(7,VI g),(9,VI h)] w
theorem qdB:qlA a c d e f g h w K Y5=(Y5 (qi.mk 56 [(9,(Value.int .i64 (IntKind.wrap .i64 (h-1)))),(6,(Value.int .i64 a)),(8,(Value.int .i64 c)),(0,(Value.slice d e f)),(7,(Value.int .i64 g))] []) w):=qB kr
theorem qiU:qlc c d e f g i h w K Y5=(q9 P 171 [(Value.slice e f g),(Value.int .i64 h),(Value.int .i64 d),(Value.int .i64 c)] w (fun j k=>j=(.tuple #[])/\qlA c d e f g i h k K Y5)):=qB (qG [6,8,0,7,9] (qk0 K Y5) (Q8 1 [6,7,0,8,9] (qAi K Y5) kr))
def qog a b c d f g w K:=SG ym 31 [] [] (zX K) 56 [(6,VI a),(7,VI b),(0,VS c d f),(8,VI g)] w
abbrev qwo K:=kq ym 31 [] [] (zX K)
def qlt a b c d e f g h i w K:=SC ym 63 [] [] (zX K) 56 [(10,VI a),(28,VI b),(27,VI c),(6,VI d),(7,VI e),(0,VS f g h),(8,VI i)] w
abbrev q1Q K:=qo 2 (zX K)
def qqa K Y10 e w:=zt (fun e w=>CS P (cA ym 252) none [10,6,7,0] [] (qu [10,6,7,0] Y10 (q1Q K)) e w) e w
abbrev QA K Y10:=qu [10,6,7,0] Y10 (q1Q K)
def q4s a b c d f g w K Y10:=SG ym 252 [10,6,7,0] [] (QA K Y10) 56 [(10,VI a),(6,VI b),(7,VI c),(0,VS d f g)] w
abbrev qax K Y10:=kq ym 252 [10,6,7,0] [] (QA K Y10)
abbrev qxB K Y10:=kq ym 504 [6,7,0,10] [] (qax K Y10)
def q8m a b c d f g w K Y10:=SG ym 505 [10,6,7,0] [] (QA K Y10) 56 [(6,VI a),(7,VI b),(0,VS c d f),(10,VI g)] w
abbrev qbo K Y10:=kq ym 505 [10,6,7,0] [] (QA K Y10)
abbrev q3d K Y10:=qo 3 (qbo K Y10)
abbrev qxQ K Y10:=kq ym 2020 [6,7,0,10] [6,7,0,10] (q3d K Y10)
def qaP a b c d f g w K Y10:=SG ym 4041 [6,7,0,10] [6,7,0,10] (q3d K Y10) 56 [(6,VI a),(7,VI b),(0,VS c d f),(10,VI g)] w
def q9z a b c d f g w K Y10:=SG ym 1011 [10,6,7,0] [] (QA K Y10) 56 [(6,VI a),(7,VI b),(0,VS c d f),(10,VI g)] w
theorem q8V:q9z a c d e f g w K Y10=(Y10 (qi.mk 56 [(10,(Value.int .i64 (IntKind.wrap .i64 (g-1)))),(6,(Value.int .i64 a)),(7,(Value.int .i64 c)),(0,(Value.slice d e f))] []) w):=qB kr
theorem q9d:qaP a c d e f g w K Y10=(q9 P 171 [(Value.slice d e f),(Value.int .i64 c),(Value.int .i64 g),(Value.int .i64 a)] w (fun h i=>h=(.tuple #[])/\q9z a c d e f g i K Y10)):=qB kr
theorem qaq:q8m c g e f h d w K Y10=(qh e (fun k=>0<=(IntKind.wrap .i64 (c+d))/\(IntKind.wrap .i64 (c+d))<(f:Nat)/\qh e (fun l=>0<=c/\c<(f:Nat)/\∃ i:Int,w.drew.cell? (k.add (Int.toNat (IntKind.wrap .i64 (c+d))*1))=some (.int .u32 i)/\∃ j:Int,w.drew.cell? (l.add (Int.toNat c*1))=some (.int .u32 j)/\qh e (fun m=>0<=c/\c<(f:Nat)/\zW (m.add (Int.toNat c*1)) (Value.int .u32 i) w.drew (fun n=>qh e (fun o=>0<=(IntKind.wrap .i64 (c+d))/\(IntKind.wrap .i64 (c+d))<(f:Nat)/\zW (o.add (Int.toNat (IntKind.wrap .i64 (c+d))*1)) (Value.int .u32 j) n (fun p=>qaP c g e f h d p K Y10))))))):=qB (qG [6,7,0,10] (qbo K Y10) (Q8 3 [6,7,0,10] (q3d K Y10) (qG [6,7,0,10] (qxQ K Y10) kr)))
theorem q6Z:q4s c d e f g h w K Y10=(qp (decide (c>=0)) (q8m d e f g h c w K Y10) (K (Value.tuple #[]) w)):=qB (qG [6,7,0,10] (qax K Y10) (qG [30,6,7,0,10] (qxB K Y10) kr))
theorem qik:qlt a h i c d e f g j w K=(qK (qqa K) (qi.mk 56 [(10,(Value.int .i64 a)),(6,(Value.int .i64 c)),(7,(Value.int .i64 d)),(0,(Value.slice e f g))] []) w):=Eq.trans (b:=CS P (cA ym 63) none [] [] (zX K) (qi.mk 56 [(10,(VI a)),(28,(VI h)),(27,(VI i)),(6,(VI c)),(7,(VI d)),(0,(VS e f g)),(8,(VI j))] []) w) kr (Eq.trans (Zc 2 [] (q1Q K) kr) ((qS (b:=(cA ym 252)) (X':=[]) (H:=[10,6,7,0]) kr kr kr).trans kr))
theorem qib:qog d e f g h c w K=(qlt (IntKind.wrap .i64 (c-1)) (IntKind.wrap .i64 (c-1)) c d e f g h c w K):=qB (qG [10,6,7,0] (qwo K) kr)
theorem q85:qc8 c d e f g h i w K Y5=(qp (decide (c>=0)) (qlc d e f g h i c w K Y5) (qog d i f g h e w K)):=qB (qG [6,8,0,7,9] (qoF K Y5) (qG [19,6,8,0,7,9] (qFa K Y5) kr))
theorem qf7:qnh a i j k c l m n d e o f g h p q w K=(qK (qym K) (qi.mk 56 [(9,(Value.int .i64 a)),(6,(Value.int .i64 e)),(8,(Value.int .i64 c)),(0,(Value.slice f g h)),(7,(Value.int .i64 d))] []) w):=Eq.trans (b:=CS P (cA ym 61) none [6,7,0,8] [] (Vi K) (qi.mk 56 [(9,(VI a)),(17,(VI i)),(16,(VI j)),(15,(VI k)),(8,(VI c)),(14,(VI l)),(13,(VI m)),(12,(VI n)),(7,(VI d)),(6,(VI e)),(11,(VI o)),(0,(VS f g h)),(1,(VI p)),(2,(VI q))] []) w) kr (Eq.trans (Zc 0 [6,7,0,8] (q6p K) kr) ((qS (b:=(cA ym 244)) (X':=[6,7,0,8]) (H:=[9,6,8,0,7]) kr kr kr).trans kr))
theorem qhU:qkR c d e f g h i j k l m n w K=((2:Int)≠0/\qnh (IntKind.wrap .i64 ((IntKind.wrap .i64 (c-1)).tdiv 2)) (IntKind.wrap .i64 ((IntKind.wrap .i64 (c-1)).tdiv 2)) (IntKind.wrap .i64 (c-1)) c c d e f g h i j k l m n w K):=Eq.trans (b:=CS P (cA ym 15) none [] [] (zX K) (qi.mk 56 [(8,(VI c)),(14,(VI d)),(13,(VI e)),(12,(VI f)),(7,(VI g)),(6,(VI h)),(11,(VI i)),(0,(VS j k l)),(1,(VI m)),(2,(VI n))] []) w) kr (Eq.trans (qZ [6,7,0,8] (Vi K) kr) (Eq.trans (qZ [9,6,8,0,7] (qzB K) kr) kr))
theorem qcU:qjb e f g h i j c d w K=(qkR (IntKind.wrap .i64 (d-c)) (IntKind.wrap .i64 (d-c)) c d e f g h i j c d w K):=Eq.trans (b:=CS P (cA ym 7) none [] [] (zX K) (qi.mk 56 [(7,(VI e)),(6,(VI f)),(11,(VI g)),(0,(VS h i j)),(1,(VI c)),(2,(VI d))] []) w) kr (Eq.trans (qZ [6,8,0,7] (qyN K) kr) kr)
theorem qgj:qmN c d e f g h i w K=(qjb 0 c d e f g h i w K):=Eq.trans (b:=CS P (cA ym 3) none [] [] (zX K) (qi.mk 56 [(6,(VI c)),(11,(VI d)),(0,(VS e f g)),(1,(VI h)),(2,(VI i))] []) w) kr (Eq.trans (qZ [6,0,7,1,2] (qCL K) kr) kr)
theorem qiv:qoH d e f c g w K=(qmN c c d e f c g w K):=Eq.trans (b:=CS P (cA ym 1) none [] [] (zX K) (qi.mk 56 [(0,(VS d e f)),(1,(VI c)),(2,(VI g))] []) w) kr (Eq.trans (qZ [6,0,1,2] (qFe K) kr) kr)
theorem qAy:f143 a b c d e w K=(qoH a b c d e w K):=kr
theorem qBw a b c d e w K(h:f143 a b c d e w K):q9 P 143 [(Value.slice a b c),(Value.int .i64 d),(Value.int .i64 e)] w K:=qA ym Tryz.func143 h
def qMk:=qm Tryz.f174
def qML:=Tryz.f174.results.toList
abbrev qFf K:=qr P qML K
def f174 a b c d e w K:=CS P qMk none [6] [6] (qFf K) (qz 15 [(VS a b c),(VI d),(VP e)]) w
theorem qAD:f174 b c d a e w K=(q9 P 175 [(Value.slice b c d),(Value.int .i64 (IntKind.wrap .i64 (a-1))),(Value.int .i64 a),(Value.int .i64 (IntKind.wrap .i64 (a+1))),(Value.pointer e)] w (fun g h=>∃ f:Int,g=(.int .i64 f)/\K (Value.int .i64 f) h)):=kr
theorem qDa a b c d e w K(h:f174 a b c d e w K):q9 P 174 [(Value.slice a b c),(Value.int .i64 d),(Value.pointer e)] w K:=qA qMk Tryz.func174 h
def qM2:=qm Tryz.f175
def qMg:=Tryz.f175.results.toList
abbrev qCd K:=qr P qMg K
def f175 a b c d e f g w K:=CS P qM2 none [10] [10] (qCd K) (qz 36 [(VS a b c),(VI d),(VI e),(VI f),(VP g)]) w
theorem qAU:f175 a b c e f g d w K=(q9 P 189 [(Value.slice a b c),(Value.int .i64 e),(Value.int .i64 f),(Value.pointer d)] w (fun l m=>∃ h:Int,∃ i:Int,l=(.tuple #[(Value.int .i64 h),(Value.int .i64 i)])/\q9 P 189 [(Value.slice a b c),(Value.int .i64 i),(Value.int .i64 g),(Value.pointer d)] m (fun n o=>∃ j:Int,∃ p:Int,n=(.tuple #[(Value.int .i64 j),(Value.int .i64 p)])/\q9 P 189 [(Value.slice a b c),(Value.int .i64 h),(Value.int .i64 j),(Value.pointer d)] o (fun q r=>∃ s:Int,∃ k:Int,q=(.tuple #[(Value.int .i64 s),(Value.int .i64 k)])/\K (Value.int .i64 k) r)))):=kr
theorem qCK a b c d e f g w K(h:f175 a b c d e f g w K):q9 P 175 [(Value.slice a b c),(Value.int .i64 d),(Value.int .i64 e),(Value.int .i64 f),(Value.pointer g)] w K:=qA qM2 Tryz.func175 h
def qpt:=qm Tryz.f189
def qL4:=Tryz.f189.results.toList
abbrev q10 K:=qr P qL4 K
def f189 a b c d e f w K:=CS P qpt none [8,9] [8,9] (q10 K) (qz 28 [(VS a b c),(VI d),(VI e),(VP f)]) w
abbrev qB2 K:=kq qpt 3 [8,9] [8,9] (q10 K)
def qku a b c d w K:=SG qpt 13 [2,1] [8,9] (qB2 K) 28 [(18,VB a),(1,VI b),(2,VI c),(3,VP d)] w
def qlW a b w K:=SG qpt 7 [8,9] [8,9] (q10 K) 28 [(2,VI a),(1,VI b)] w
abbrev qCY K:=kq qpt 7 [8,9] [8,9] (q10 K)
theorem qhP:qlW c d w K=(K (Value.tuple #[(Value.int .i64 d),(Value.int .i64 c)]) w):=qB (qG [8,9] (qCY K) kr)
theorem qgi:qku e a c d w K=(qp e (qh d (fun g=>∃ f:Int,w.cell? g=some (.int .i64 f)/\qh d (fun h=>zW h (Value.int .i64 (IntKind.wrap .i64 (f+1))) w (fun i=>K (Value.tuple #[(Value.int .i64 c),(Value.int .i64 a)]) i)))) (qlW c a w K)):=qB kr
theorem qAf:f189 c d i a b e w K=(qh c (fun j=>0<=b/\b<(d:Nat)/\qh c (fun k=>0<=a/\a<(d:Nat)/\∃ f:Int,w.drew.cell? (j.add (Int.toNat b*1))=some (.int .u32 f)/\∃ g:Int,w.drew.cell? (k.add (Int.toNat a*1))=some (.int .u32 g)/\q9 P 148 [(Value.int .u32 f),(Value.int .u32 g)] w.drew (fun l m=>∃ h:Bool,l=(.bool h)/\qku h a b e m K)))):=kr
theorem qCH a b c d e f w K(h:f189 a b c d e f w K):q9 P 189 [(Value.slice a b c),(Value.int .i64 d),(Value.int .i64 e),(Value.pointer f)] w K:=qA qpt Tryz.func189 h
end Go.Fx.Tryz
namespace Go.Proofs
open Go.Shelf
set_option maxRecDepth 100000
def Tryz.sort_ren:Go.Shelf.Ren:=⟨fun | 15=>107 | 28=>151 | 29=>152 | 47=>172 | 48=>173 | n=>n,fun | 3=>3 | 4=>4 | 5=>5 | 9=>9 | 0=>0 | 39=>159 | 53=>24 | 55=>200 | 66=>224 | 76=>241 | n=>n,fun n=>n⟩
theorem Tryz.sortPow:Go.Proofs.SlLaysF0.n47 Tryz.prog Tryz.sort_ren:={
 mixed:=kr,
 f15:=Tryz.func107.trans (congrArg some kr),
 f28:=Tryz.func151.trans (congrArg some kr),
 f29:=Tryz.func152.trans (congrArg some kr),
 f47:=Tryz.func172.trans (congrArg some kr),
 t3:=Tryz.underlying3,a3:=Tryz.isAgg3,z3:=Tryz.sizeOf3,v3:=Tryz.zeroValue3,
 t4:=Tryz.underlying4,a4:=Tryz.isAgg4,z4:=Tryz.sizeOf4,v4:=Tryz.zeroValue4,
 t5:=Tryz.underlying5,a5:=Tryz.isAgg5,z5:=Tryz.sizeOf5,v5:=Tryz.zeroValue5,
 t9:=Tryz.underlying9,a9:=Tryz.isAgg9,z9:=Tryz.sizeOf9,v9:=Tryz.zeroValue9,
 t39:=Tryz.underlying159,a39:=Tryz.isAgg159,z39:=Tryz.sizeOf159,v39:=Tryz.zeroValue159,
 t53:=Tryz.underlying24,a53:=Tryz.isAgg24,z53:=Tryz.sizeOf24,v53:=Tryz.zeroValue24,
 t55:=Tryz.underlying200,a55:=Tryz.isAgg200,z55:=Tryz.sizeOf200,v55:=Tryz.zeroValue200 }
theorem Tryz.sortNext:Go.Proofs.SlLaysF0.n48 Tryz.prog Tryz.sort_ren:={
 mixed:=kr,
 f48:=Tryz.func173.trans (congrArg some kr),
 t0:=Tryz.underlying0,a0:=Tryz.isAgg0,z0:=Tryz.sizeOf0,v0:=Tryz.zeroValue0,
 t39:=Tryz.underlying159,a39:=Tryz.isAgg159,z39:=Tryz.sizeOf159,v39:=Tryz.zeroValue159,
 t55:=Tryz.underlying200,a55:=Tryz.isAgg200,z55:=Tryz.sizeOf200,v55:=Tryz.zeroValue200,
 t66:=Tryz.underlying224,a66:=Tryz.isAgg224,z66:=Tryz.sizeOf224,v66:=Tryz.zeroValue224,
 t76:=Tryz.underlying241,a76:=Tryz.isAgg241,z76:=Tryz.sizeOf241,v76:=Tryz.zeroValue241 }
end Go.Proofs
namespace Go.Fx.Tryz
open Go Go.Fx
abbrev I64(x:Int):Value:=.int .i64 x
abbrev jS(x:Int):Value:=.int .u32 x
theorem qBi{w:World}{K:KT}(x:Int)(hK:K (.bool false) w):q9 P 176 [.int .u32 x] w K:=by
 refine qCZ _ _ _ ?_
 rw[qEi]
 have:(x != x)=false:=by simp
 rw[this]
 exact hK
end Go.Fx.Tryz
namespace Go.Fx.Tryz
open Go Go.Fx
set_option linter.all false
open Go.Proofs
open Go.Sort (swp swp_size insInner insOuter insertionSort siftDown heapBuild heapPop heapSort ltInt)
variable {w0 w:World} {H X:qE} {K:KT}
set_option maxRecDepth 20000
abbrev yc(d:Array Int)(z:List Value):List Value:=d.toList.map jS++z
theorem q0u{d:Array Int}{z:List Value}{i:Nat}(hi:i<d.size):(yc d z)[i]?=some (.int .u32 d[i]!):=by
 rw[List.getElem?_append_left (by simpa using hi),List.getElem?_map]
 simp[hi]
theorem qou(d:Array Int)(z:List Value):(yc d z).length=d.size+z.length:=by simp
theorem qEq{d:Array Int}{z:List Value}{p q:Nat}(hp:p<d.size)(hq:q<d.size):((yc d z).set p (.int .u32 d[q]!)).set q (.int .u32 d[p]!)=yc (swp d p q) z:=by
 unfold yc swp
 rw[List.set_append_left _ _ (by simpa using hp),List.set_append_left _ _ (by simpa using hq)]
 congr 1
 simp only[Array.toList_setIfInBounds,List.map_set]
theorem qC9(h:St w0 w X)(x y:Int)(hK:∀ w',St w0 w' X->K (.bool (ltInt x y)) w'):q9 P 148 [.int .u32 x,.int .u32 y] w K:=by
 refine qz9 _ _ _ _ ?_
 rw[qCJ]
 refine qBi x ⟨_,rfl,?_⟩
 rw[qb,qhp]
 exact hK w h
section
variable {g:Nat} {T:TypeId} {d:Array Int} {z:List Value} {ei ej:Int} {i j:Nat}
theorem yx(hi:ei=(i:Int))(hj:ej=(j:Int))(hin:i<d.size)(hjn:j<d.size)(h:St w0 w X)(hm:(g,Cs (yc d z) T)∈X)(hK:∀ w',St w0 w' X->K (.bool (ltInt d[i]! d[j]!)) w') :
  qh (some (Addr.mk g 0 none)) (fun a=>0<=ei/\ei<(d.size:Nat)/\qh (some (Addr.mk g 0 none)) (fun a'=>0<=ej/\ej<(d.size:Nat)/\∃ x:Int,w.drew.cell? (a.add (Int.toNat ei*1))=some (Value.int .u32 x)/\∃ y:Int,w.drew.cell? (a'.add (Int.toNat ej*1))=some (Value.int .u32 y)/\
   q9 P 148 [(Value.int .u32 x),(Value.int .u32 y)] w.drew K)):=by
 subst hi hj
 have hd:=h.drew
 refine⟨by omega,by omega,by omega,by omega,d[i]!,?_,d[j]!,?_,qC9 hd _ _ hK⟩
 ·rw[qa,qw (hd.has _ _ hm),show 0+Int.toNat (i:Int)*1=i by omega];exact q0u hin
 ·rw[qa,qw (hd.has _ _ hm),show 0+Int.toNat (j:Int)*1=j by omega];exact q0u hjn
theorem yo{Q:World->Prop}(hi:ei=(i:Int))(hj:ej=(j:Int))(hin:i<d.size)(hjn:j<d.size)(h:St w0 w ((g,Cs (yc d z) T)::H))(hK:∀ w',St w0 w' ((g,Cs (yc (swp d i j) z) T)::H)->Q w') :
  qh (some (Addr.mk g 0 none)) (fun a=>0<=ej/\ej<(d.size:Nat)/\qh (some (Addr.mk g 0 none)) (fun a'=>0<=ei/\ei<(d.size:Nat)/\∃ x:Int,w.drew.cell? (a.add (Int.toNat ej*1))=some (Value.int .u32 x)/\∃ y:Int,w.drew.cell? (a'.add (Int.toNat ei*1))=some (Value.int .u32 y)/\
   qh (some (Addr.mk g 0 none)) (fun a2=>0<=ei/\ei<(d.size:Nat)/\zW (a2.add (Int.toNat ei*1)) (Value.int .u32 x) w.drew (fun w2=>qh (some (Addr.mk g 0 none)) (fun a3=>0<=ej/\ej<(d.size:Nat)/\zW (a3.add (Int.toNat ej*1)) (Value.int .u32 y) w2 Q))))):=by
 subst hi hj
 have hd:=h.drew
 refine⟨by omega,by omega,by omega,by omega,d[j]!,?_,d[i]!,?_,by omega,by omega,?_⟩
 ·rw[qa,hd.cell (k:=0) rfl,show 0+Int.toNat (j:Int)*1=j by omega];exact q0u hjn
 ·rw[qa,hd.cell (k:=0) rfl,show 0+Int.toNat (i:Int)*1=i by omega];exact q0u hin
 rw[qa,show 0+Int.toNat (i:Int)*1=i by omega]
 refine hd.st1 (k:=0) rfl (by rw[qou];omega) rfl fun w2 h2=>⟨by omega,by omega,?_⟩
 rw[qa,show 0+Int.toNat (j:Int)*1=j by omega]
 refine h2.st1 (k:=0) rfl (by rw[List.length_set,qou];omega) rfl fun w3 h3=>hK w3 ?_
 have h3:St w0 w3 ((g,Cs (((yc d z).set i (.int .u32 d[j]!)).set j (.int .u32 d[i]!)) T)::H):=h3
 rw[qEq hin hjn]at h3
 exact h3
end
section
variable {g c:Nat} {T:TypeId} {z:List Value}
theorem q41(a:Nat):∀ (j:Nat) (d:Array Int),(insInner ltInt a j d).size=d.size
 | 0,d=>rfl
 | j+1,d=>by
  unfold insInner
  split
  ·rw[q41 a j,swp_size]
  ·rfl
def qsq(w0:World)(H:qE)(g c:Nat)(T:TypeId)(z:List Value)(a b n:Nat)(D:Array Int)(m:Nat)(ee:qi)(w:World):Prop:=
 ∃ (i:Nat) (d:Array Int),a<i/\i<=max b (a+1)/\m=b-i/\d.size=n/\insOuter ltInt a b i d=D/\ee=qi.mk 49 [(0,(Value.slice (some (Addr.mk g 0 none)) n c)),(6,(Value.int .i64 i)),(1,(Value.int .i64 a)),(2,(Value.int .i64 b))] []/\St w0 w ((g,Cs (yc d z) T)::H)
def qLP(w0:World)(H:qE)(g c:Nat)(T:TypeId)(z:List Value)(a b i n:Nat)(D:Array Int)(m:Nat)(ee:qi)(w:World):Prop:=
 ∃ (j:Nat) (d:Array Int),a<=j/\j<=i/\m=j/\d.size=n/\insInner ltInt a j d=D/\ee=qi.mk 49 [(7,(Value.int .i64 j)),(0,(Value.slice (some (Addr.mk g 0 none)) n c)),(1,(Value.int .i64 a)),(2,(Value.int .i64 b)),(6,(Value.int .i64 i))] []/\St w0 w ((g,Cs (yc d z) T)::H)
theorem q5f{d:Array Int}{a b:Nat}(h:St w0 w ((g,Cs (yc d z) T)::H))(hab:a<=b)(hb:b<=d.size)(hn:d.size<1000000000000)(hK:∀ w',St w0 w' ((g,Cs (yc (insertionSort ltInt d a b) z) T)::H)->K (.tuple [].toArray) w') :
  q9 P 142 [.slice (some (Addr.mk g 0 none)) d.size c,.int .i64 a,.int .i64 b] w K:=by
 refine qlE _ _ _ _ _ _ _ ?_
 rw[qo7,q2m,q3y]
 refine⟨qsq w0 H g c T z a b d.size (insertionSort ltInt d a b),⟨b-(a+1),a+1,d,by omega,by omega,rfl,rfl,rfl,?_,h⟩,?_⟩
 ·rw[qc om om];rfl
 generalize hnn:d.size=n at hb hn
 generalize insertionSort ltInt d a b=D at hK
 rintro m ee w1 ⟨i,d1,hai,hib,rfl,hd1,hD,rfl,h1⟩
 show q2e ..
 rw[JL,qg]
 constructor
 ·intro hlt
  have hlt:i<b:=by simpa using hlt
  rw[qiL,qhA]
  rw[insOuter,if_pos hlt]at hD
  have out:∀ w2 d2,d2.size=n->insOuter ltInt a b (i+1) d2=D->St w0 w2 ((g,Cs (yc d2 z) T)::H)->q0r (some (Addr.mk g 0 none)) n c a b i w2 K (fun e' w'=>∃ m,m<b-i/\qsq w0 H g c T z a b n D m e' w'):=by
   intro w2 d2 k1 k2 k3
   rw[qh4]
   refine⟨b-(i+1),by omega,i+1,d2,by omega,by omega,rfl,k1,k2,?_,k3⟩
   rw[qc om om];rfl
  refine⟨qLP w0 H g c T z a b i n (insInner ltInt a i d1),⟨i,i,d1,by omega,by omega,rfl,hd1,rfl,rfl,h1⟩,?_⟩
  rintro j ee w2 ⟨_,d2,haj,hji,rfl,hd2,hD2,rfl,h2⟩
  show qcH ..
  rw[qbH,qg]
  have stop:∀ w3,insInner ltInt a j d2=d2->St w0 w3 ((g,Cs (yc d2 z) T)::H)->q0r (some (Addr.mk g 0 none)) n c a b i w3 K (fun e' w'=>∃ m,m<b-i/\qsq w0 H g c T z a b n D m e' w'):=by
   intro w3 k1 k2
   refine out w3 d2 hd2 ?_ k2
   rw[<-hD,<-hD2,k1]
  constructor
  ·intro hja
   have hja:j > a:=by simpa using hja
   obtain⟨q,rfl⟩:∃ k,j=k+1:=⟨j-1,by omega⟩
   have ej:IntKind.wrap .i64 (((q+1:Nat):Int)-1)=(q:Int):=by rw[qc om om];omega
   have hjn:q+1<n:=by omega
   subst hd2
   refine yx (i:=q+1) (j:=q) rfl ej hjn om h2 (.head _) fun w3 h3=>⟨_,rfl,?_⟩
   rw[q3g,qg]
   constructor
   ·intro hl
    rw[qhg]
    refine yo (i:=q+1) (j:=q) rfl ej hjn om h3 fun w4 h4=>?_
    rw[qdb]
    refine⟨q,by omega,q,swp d2 (q+1) q,by omega,by omega,rfl,by rw[swp_size],?_,by rw[ej],h4⟩
    rw[<-hD2,insInner,if_pos (by simp[hl];omega)]
   ·intro hl
    refine stop w3 ?_ h3
    rw[insInner,if_neg (by simp[hl])]
  ·intro hja
   have hja:¬ j > a:=by simpa using hja
   rw[q3g,qb]
   refine stop _ ?_ h2.drew
   cases j with
   | zero=>rfl
   | succ j=>rw[insInner,if_neg (by simp;omega)]
 ·intro hge
  have hge:¬ i<b:=by simpa using hge
  rw[insOuter,if_neg hge]at hD
  subst hD
  exact hK w1 h1
theorem Qx(hi first:Nat)(root:Nat)(d:Array Int):(siftDown ltInt hi first root d).size=d.size:=by
 induction hm:hi-root using Nat.strongRecOn generalizing root d with
 | ind m ih=>
  subst hm
  rw[siftDown]
  split
  ·rfl
  ·rename_i h1
   split
   ·split
    ·rfl
    ·split
     ·rename_i h2;rw[ih (hi-(2*root+2)) om _ _ rfl,swp_size]
     ·rfl
   ·split
    ·rfl
    ·rw[ih (hi-(2*root+1)) om _ _ rfl,swp_size]
theorem Zn(hi first:Nat):∀ (k:Nat) (d:Array Int),(heapBuild ltInt hi first k d).size=d.size
 | 0,d=>rfl
 | k+1,d=>by unfold heapBuild;rw[Zn hi first k,Qx]
def qFC(w0:World)(H:qE)(g c:Nat)(T:TypeId)(z:List Value)(hi first n:Nat)(D:Array Int)(m:Nat)(ee:qi)(w:World):Prop:=
 ∃ (root:Nat) (d:Array Int),m=hi-root/\root<=1000000000000/\d.size=n/\siftDown ltInt hi first root d=D/\ee=qi.mk 76 [(8,(Value.int .i64 root)),(3,(Value.int .i64 first)),(0,(Value.slice (some (Addr.mk g 0 none)) n c)),(2,(Value.int .i64 hi))] []/\St w0 w ((g,Cs (yc d z) T)::H)
theorem q03{d:Array Int}{lo hi first:Nat}{elo ehi:Int}(he1:elo=(lo:Int))(he2:ehi=(hi:Int))(h:St w0 w ((g,Cs (yc d z) T)::H))(hlo:lo<=1000000000000)(hb:first+hi<=d.size)(hn:d.size<1000000000000)(hK:∀ w',St w0 w' ((g,Cs (yc (siftDown ltInt hi first lo d) z) T)::H)->K (.tuple [].toArray) w') :
  q9 P 171 [.slice (some (Addr.mk g 0 none)) d.size c,.int .i64 elo,.int .i64 ehi,.int .i64 first] w K:=by
 subst he1 he2
 refine qEt _ _ _ _ _ _ _ _ ?_
 rw[qCv,qdG,qg9]
 refine⟨qFC w0 H g c T z hi first d.size (siftDown ltInt hi first lo d),⟨hi-lo,lo,d,rfl,hlo,rfl,rfl,rfl,h⟩,?_⟩
 generalize hnn:d.size=n at hb hn
 generalize siftDown ltInt hi first lo d=D at hK
 rintro m ee w1 ⟨root,d1,rfl,hr,hd1,hD,rfl,h1⟩
 show qa3 ..
 have e1:IntKind.wrap .i64 (IntKind.wrap .i64 ((2:Int)*(root:Int))+1)=((2*root+1:Nat):Int):=by
  rw[qc (x:=2*(root:Int)) om om,qc om om];omega
 rw[q8A,qg,e1]
 rw[siftDown]at hD
 constructor
 ·intro hge
  have hge:2*root+1>=hi:=by simp at hge;omega
  rw[dif_pos hge]at hD
  subst hD
  exact hK w1 h1
 ·intro hlt
  have hlt:¬ 2*root+1>=hi:=by simp at hlt;omega
  rw[dif_neg hlt]at hD
  subst hd1
  have step:∀ w2 (ch:Nat),2*root+1<=ch->ch<hi->(if(!ltInt d1[first+root]! d1[first+ch]!)=true then d1 else siftDown ltInt hi first ch (swp d1 (first+root) (first+ch)))=D->St w0 w2 ((g,Cs (yc d1 z) T)::H)->
    q1a root first (some (Addr.mk g 0 none)) d1.size c hi ch w2 K (fun e' w'=>∃ m,m<hi-root/\qFC w0 H g c T z hi first d1.size D m e' w'):=by
   intro w2 ch c1 c2 hD2 h2
   have ea:IntKind.wrap .i64 ((first:Int)+(root:Int))=((first+root:Nat):Int):=by rw[qc om om];omega
   have eb:IntKind.wrap .i64 ((first:Int)+(ch:Int))=((first+ch:Nat):Int):=by rw[qc om om];omega
   rw[qdl]
   refine yx (i:=first+root) (j:=first+ch) ea eb om om h2 (.head _) fun w3 h3=>⟨_,rfl,?_⟩
   rw[qii,qg]
   constructor
   ·intro hl
    rw[if_pos hl]at hD2
    subst hD2
    exact hK w3 h3
   ·intro hl
    rw[if_neg (by simp[hl])]at hD2
    rw[qgt]
    refine yo (i:=first+root) (j:=first+ch) ea eb om om h3 fun w4 h4=>?_
    rw[qhf]
    exact⟨hi-ch,by omega,ch,_,rfl,by omega,by rw[swp_size],hD2,rfl,h4⟩
  rw[qic,qg]
  have e2:IntKind.wrap .i64 (((2*root+1:Nat):Int)+1)=((2*root+2:Nat):Int):=by rw[qc om om];omega
  rw[e2]
  constructor
  ·intro hc
   have hc:2*root+2<hi:=by simp at hc;omega
   have ea:IntKind.wrap .i64 ((first:Int)+((2*root+1:Nat):Int))=((first+(2*root+1):Nat):Int):=by rw[qc om om];omega
   have eb:IntKind.wrap .i64 (IntKind.wrap .i64 ((first:Int)+((2*root+1:Nat):Int))+1)=((first+(2*root+1)+1:Nat):Int):=by rw[ea,qc om om];omega
   refine yx (i:=first+(2*root+1)) (j:=first+(2*root+1)+1) ea eb om om h1 (.head _) fun w2 h2=>⟨_,rfl,?_⟩
   rw[q1r,qg]
   constructor
   ·intro hl
    rw[if_pos (by simp[hl];omega)]at hD
    rw[e2]
    refine step w2 (2*root+2) om hc ?_ h2
    rw[<-hD]
    split<;>rfl
   ·intro hl
    rw[if_neg (by simp[hl])]at hD
    exact step w2 (2*root+1) om om hD h2
  ·intro hc
   have hc:¬ 2*root+2<hi:=by simp at hc;omega
   rw[if_neg (by simp;omega)]at hD
   rw[q1r,qb]
   exact step _ (2*root+1) om om hD h1.drew
def qKE(w0:World)(H:qE)(g c:Nat)(T:TypeId)(z:List Value)(first hi n:Nat)(D:Array Int)(m:Nat)(ee:qi)(w:World):Prop:=
 ∃ (d:Array Int),m<=1000000000000/\d.size=n/\heapBuild ltInt hi first m d=D/\ee=qi.mk 56 [(9,(Value.int .i64 ((m:Int)-1))),(6,(Value.int .i64 first)),(8,(Value.int .i64 hi)),(0,(Value.slice (some (Addr.mk g 0 none)) n c)),(7,(Value.int .i64 0))] []/\St w0 w ((g,Cs (yc d z) T)::H)
def qMN(w0:World)(H:qE)(g c:Nat)(T:TypeId)(z:List Value)(first hi n:Nat)(D:Array Int)(m:Nat)(ee:qi)(w:World):Prop:=
 ∃ (d:Array Int),m<=hi/\d.size=n/\heapPop ltInt first m d=D/\ee=qi.mk 56 [(10,(Value.int .i64 ((m:Int)-1))),(6,(Value.int .i64 first)),(7,(Value.int .i64 0)),(0,(Value.slice (some (Addr.mk g 0 none)) n c))] []/\St w0 w ((g,Cs (yc d z) T)::H)
theorem qER{d:Array Int}{a b:Nat}(h:St w0 w ((g,Cs (yc d z) T)::H))(hab:a<=b)(hb:b<=d.size)(hn:d.size<1000000000000)(hK:∀ w',St w0 w' ((g,Cs (yc (heapSort ltInt d a b) z) T)::H)->K (.tuple [].toArray) w') :
  q9 P 143 [.slice (some (Addr.mk g 0 none)) d.size c,.int .i64 a,.int .i64 b] w K:=by
 refine qBw _ _ _ _ _ _ _ ?_
 have e1:IntKind.wrap .i64 ((b:Int)-(a:Int))=((b-a:Nat):Int):=by rw[qc om om];omega
 rw[qAy,qiv,qgj,qcU,e1,qhU]
 have e2:IntKind.wrap .i64 ((IntKind.wrap .i64 (((b-a:Nat):Int)-1)).tdiv 2)=(((b-a-1) / 2+1:Nat):Int)-1:=by
  rw[qc (x:=((b-a:Nat):Int)-1) om om]
  by_cases hz:b-a=0
  ·rw[hz];rfl
  ·rw[Int.tdiv_eq_ediv_of_nonneg om,qc om om]
   omega
 rw[e2]
 unfold heapSort at hK
 refine⟨by omega,?_⟩
 rw[qf7]
 refine⟨qKE w0 H g c T z a (b-a) d.size (heapBuild ltInt (b-a) a ((b-a-1) / 2+1) d),⟨(b-a-1) / 2+1,d,by omega,rfl,rfl,rfl,h⟩,?_⟩
 generalize hnn:d.size=n at hb hn
 generalize hBB:heapBuild ltInt (b-a) a ((b-a-1) / 2+1) d=D0 at hK
 have hD0:D0.size=n:=by rw[<-hBB,Zn,hnn]
 rintro m ee w1 ⟨d1,hm,hd1,hD,rfl,h1⟩
 show qc8 ..
 rw[q85,qg]
 constructor
 ·intro hge
  obtain⟨m,rfl⟩:∃ k,m=k+1:=⟨m-1,by simp at hge;omega⟩
  rw[qiU]
  subst hd1
  refine q03 (lo:=m) om rfl h1 om om hn fun w2 h2=>⟨rfl,?_⟩
  rw[qdB]
  refine⟨m,by omega,_,by omega,Qx _ _ _ _,hD,?_,h2⟩
  rw[qc om om]
  have:((m+1:Nat):Int)-1-1=(m:Int)-1:=by omega
  rw[this]
 ·intro hlt
  have:m=0:=by simp at hlt;omega
  subst this
  have hD:d1=D0:=hD
  subst hD
  rw[qib,qik]
  have e3:IntKind.wrap .i64 (((b-a:Nat):Int)-1)=((b-a:Nat):Int)-1:=by rw[qc om om]
  rw[e3]
  refine⟨qMN w0 H g c T z a (b-a) n (heapPop ltInt a (b-a) d1),⟨b-a,d1,by omega,hd1,rfl,rfl,h1⟩,?_⟩
  generalize heapPop ltInt a (b-a) d1=D at hK
  rintro m ee w2 ⟨d2,hm2,hd2,hD2,rfl,h2⟩
  show q4s ..
  rw[q6Z,qg]
  constructor
  ·intro hge
   obtain⟨m,rfl⟩:∃ k,m=k+1:=⟨m-1,by simp at hge;omega⟩
   rw[qaq]
   have ei:IntKind.wrap .i64 ((a:Int)+(((m+1:Nat):Int)-1))=((a+m:Nat):Int):=by rw[qc om om];omega
   subst hd2
   refine yo (i:=a) (j:=a+m) rfl ei om om h2 fun w3 h3=>?_
   rw[q9d]
   have es:(swp d2 a (a+m)).size=d2.size:=swp_size _ _ _
   rw[<-es]
   refine q03 (lo:=0) (hi:=m) rfl om h3 om om om fun w4 h4=>⟨rfl,?_⟩
   rw[q8V]
   refine⟨m,by omega,_,by omega,by rw[Qx,swp_size],hD2,?_,h4⟩
   rw[qc om om,es]
   have:((m+1:Nat):Int)-1-1=(m:Int)-1:=by omega
   rw[this]
  ·intro hlt
   have:m=0:=by simp at hlt;omega
   subst this
   have hD2:d2=D:=hD2
   subst hD2
   exact hK w2 h2
end
end Go.Fx.Tryz
namespace Go.Fx.Tryz
set_option maxRecDepth 100000
open Go Go.Fx Go.Proofs
def vD:=qm Tryz.f144
def qMH:=Tryz.f144.results.toList
abbrev zN K:=qr P qMH K
def f144 a b c d e w K:=CS P vD none [] [] (zN K) (qz 65 [(VS a b c),(VI d),(VI e)]) w
def qkT a b c d e w K:=SC vD 1 [] [] (zN K) 65 [(0,VS a b c),(1,VI d),(2,VI e)] w
abbrev qF7 K:=kq vD 1 [] [] (zN K)
def qmQ a b c d e f g h i w K:=SC vD 3 [] [] (zN K) 65 [(6,VI a),(13,VI b),(12,VI c),(11,VI d),(0,VS e f g),(1,VI h),(2,VI i)] w
abbrev qyW K:=kq vD 3 [] [] (zN K)
def qnR a b c d e f g h i j k w K:=SC vD 14 [] [] (zN K) 65 [(15,VB true),(15,VB a),(14,VI b),(6,VI c),(13,VI d),(12,VI e),(11,VI f),(0,VS g h i),(1,VI j),(2,VI k)] w
abbrev qEn K:=kq vD 14 [] [] (zN K)
def qnG a b c d e f g h i j k l m n w K:=SC vD 29 [] [] (zN K) 65 [(7,VQ a),(17,Value.int .u64 b),(16,VI c),(15,VB true),(15,VB d),(14,VI e),(6,VI f),(13,VI g),(12,VI h),(11,VI i),(0,VS j k l),(1,VI m),(2,VI n)] w
abbrev qzl K:=kq vD 29 [] [] (zN K)
def qkH a b c d e f g h i j k l m n o p q w K:=SC vD 59 [] [] (zN K) 65 [(8,Value.int .u64 a),(19,Value.int .u64 b),(18,VI c),(7,VQ d),(17,Value.int .u64 e),(16,VI f),(15,VB true),(15,VB g),(14,VI h),(6,VI i),(13,VI j),(12,VI k),(11,VI l),(0,VS m n o),(1,VI p),(2,VI q)] w
abbrev qAq K:=kq vD 59 [] [] (zN K)
def qma a b c d e f g h i j k l m n o p q r s t u v x y w K:=SC vD 119 [] [] (zN K) 65 [(9,VI a),(25,VI b),(24,VI c),(23,VI d),(22,VI e),(21,VI f),(20,VI g),(8,Value.int .u64 h),(19,Value.int .u64 i),(18,VI j),(7,VQ k),(17,Value.int .u64 l),(16,VI m),(15,VB true),(15,VB n),(14,VI o),(6,VI p),(13,VI q),(12,VI r),(11,VI s),(0,VS t u v),(1,VI x),(2,VI y)] w
abbrev q5R K:=qo 0 (zN K)
def qvL K Y6 e w:=zt (fun e w=>CS P (cA vD 476) none [9,0,1,6,8,7] [] (qu [9,0,1,6,8,7] Y6 (q5R K)) e w) e w
abbrev ZI K Y6:=qu [9,0,1,6,8,7] Y6 (q5R K)
def q9a a b c d f g h i w K Y6:=SG vD 476 [9,0,1,6,8,7] [] (ZI K Y6) 65 [(9,VI a),(0,VS b c d),(1,VI f),(6,VI g),(8,Value.int .u64 h),(7,VQ i)] w
abbrev qmr K Y6:=kq vD 476 [9,0,1,6,8,7] [] (ZI K Y6)
abbrev qCM K Y6:=kq vD 952 [0,1,6,8,7,9] [] (qmr K Y6)
def qnS a b c d f g h i w K Y6:=SG vD 953 [9,0,1,6,8,7] [] (ZI K Y6) 65 [(0,VS a b c),(1,VI d),(6,VI f),(8,Value.int .u64 g),(7,VQ h),(9,VI i)] w
abbrev qlq K Y6:=kq vD 953 [9,0,1,6,8,7] [] (ZI K Y6)
abbrev q7a K Y6:=qo 1 (qlq K Y6)
abbrev qtD K Y6:=kq vD 3812 [0,1,6,8,7,9] [0,1,6,8,7,9] (q7a K Y6)
def q15 a b c d f g h i j w K Y6:=SG vD 15251 [0,1,6,8,7,9] [0,1,6,8,7,9] (q7a K Y6) 65 [(0,VS a b c),(1,VI d),(6,VI f),(8,Value.int .u64 g),(7,VQ h),(9,VI i),(10,VI j)] w
def qok a b c d f g h i w K Y6:=SG vD 1907 [9,0,1,6,8,7] [] (ZI K Y6) 65 [(0,VS a b c),(1,VI d),(6,VI f),(8,Value.int .u64 g),(7,VQ h),(9,VI i)] w
theorem qhS:qok a c d e f g h i w K Y6=(Y6 (qi.mk 65 [(9,(Value.int .i64 (IntKind.wrap .i64 (i+1)))),(0,(Value.slice a c d)),(1,(Value.int .i64 e)),(6,(Value.int .i64 f)),(8,(Value.int .u64 g)),(7,(Value.pointer (some h)))] []) w):=qB kr
theorem qiF:q15 e f g a h i j c d w K Y6=(qh e (fun m=>0<=(IntKind.wrap .i64 (a+d))/\(IntKind.wrap .i64 (a+d))<(f:Nat)/\qh e (fun n=>0<=c/\c<(f:Nat)/\∃ k:Int,w.drew.cell? (m.add (Int.toNat (IntKind.wrap .i64 (a+d))*1))=some (.int .u32 k)/\∃ l:Int,w.drew.cell? (n.add (Int.toNat c*1))=some (.int .u32 l)/\qh e (fun o=>0<=c/\c<(f:Nat)/\zW (o.add (Int.toNat c*1)) (Value.int .u32 k) w.drew (fun p=>qh e (fun q=>0<=(IntKind.wrap .i64 (a+d))/\(IntKind.wrap .i64 (a+d))<(f:Nat)/\zW (q.add (Int.toNat (IntKind.wrap .i64 (a+d))*1)) (Value.int .u32 l) p (fun r=>qok e f g a h i j c r K Y6))))))):=qB kr
theorem qf1:qnS f g h i d c e j w K Y6=(q9 P 173 [(Value.pointer (some e))] w (fun m l=>∃ k:Int,m=(.int .u64 k)/\qp (decide ((IntKind.wrap .i64 (IntKind.wrap .u64 ((BitVec.ofInt (IntKind.bits .u64) k &&& BitVec.ofInt (IntKind.bits .u64) (IntKind.wrap .u64 (c-1))).toNat:Int)))>=d)) (q15 f g h i d c e j (IntKind.wrap .i64 ((IntKind.wrap .i64 (IntKind.wrap .u64 ((BitVec.ofInt (IntKind.bits .u64) k &&& BitVec.ofInt (IntKind.bits .u64) (IntKind.wrap .u64 (c-1))).toNat:Int)))-d)) l K Y6) (q15 f g h i d c e j (IntKind.wrap .i64 (IntKind.wrap .u64 ((BitVec.ofInt (IntKind.bits .u64) k &&& BitVec.ofInt (IntKind.bits .u64) (IntKind.wrap .u64 (c-1))).toNat:Int))) l K Y6))):=qB (qG [0,1,6,8,7,9] (qlq K Y6) (Q8 1 [0,1,6,8,7,9] (q7a K Y6) (qG [0,1,6,8,7,9,10] (qtD K Y6) kr)))
theorem qaj:q9a c f g h d e i j w K Y6=((4:Int)≠0/\qp (decide (c<=(IntKind.wrap .i64 ((IntKind.wrap .i64 (d+(IntKind.wrap .i64 ((IntKind.wrap .i64 (e.tdiv 4))*2))))+1)))) (qnS f g h d e i j c w K Y6) (K (Value.tuple #[]) w)):=qB (qG [0,1,6,8,7,9] (qmr K Y6) (qG [33,0,1,6,8,7,9] (qCM K Y6) kr))
theorem qe4:qma a j k l m n o c p q d r s t u e v x y f g h i z w K=(qK (qvL K) (qi.mk 65 [(9,(Value.int .i64 a)),(0,(Value.slice f g h)),(1,(Value.int .i64 i)),(6,(Value.int .i64 e)),(8,(Value.int .u64 c)),(7,(Value.pointer (some d)))] []) w):=Eq.trans (b:=CS P (cA vD 119) none [] [] (zN K) (qi.mk 65 [(9,(VI a)),(25,(VI j)),(24,(VI k)),(23,(VI l)),(22,(VI m)),(21,(VI n)),(20,(VI o)),(8,(Value.int .u64 c)),(19,(Value.int .u64 p)),(18,(VI q)),(7,(VP (some d))),(17,(Value.int .u64 r)),(16,(VI s)),(15,(VB true)),(15,(VB t)),(14,(VI u)),(6,(VI e)),(13,(VI v)),(12,(VI x)),(11,(VI y)),(0,(VS f g h)),(1,(VI i)),(2,(VI z))] []) w) kr (Eq.trans (Zc 0 [] (q5R K) kr) ((qS (b:=(cA vD 476)) (X':=[]) (H:=[9,0,1,6,8,7]) kr kr kr).trans kr))
theorem qfg:qkH e f g h i j k l c m n o p q r d s w K=((4:Int)≠0/\qma (IntKind.wrap .i64 ((IntKind.wrap .i64 (d+(IntKind.wrap .i64 ((IntKind.wrap .i64 (c.tdiv 4))*2))))-1)) (IntKind.wrap .i64 ((IntKind.wrap .i64 (d+(IntKind.wrap .i64 ((IntKind.wrap .i64 (c.tdiv 4))*2))))-1)) (IntKind.wrap .i64 (d+(IntKind.wrap .i64 ((IntKind.wrap .i64 (c.tdiv 4))*2)))) (IntKind.wrap .i64 ((IntKind.wrap .i64 (c.tdiv 4))*2)) (IntKind.wrap .i64 (c.tdiv 4)) c d e f g h i j k l c m n o p q r d s w K):=Eq.trans (b:=CS P (cA vD 59) none [] [] (zN K) (qi.mk 65 [(8,(Value.int .u64 e)),(19,(Value.int .u64 f)),(18,(VI g)),(7,(VP (some h))),(17,(Value.int .u64 i)),(16,(VI j)),(15,(VB true)),(15,(VB k)),(14,(VI l)),(6,(VI c)),(13,(VI m)),(12,(VI n)),(11,(VI o)),(0,(VS p q r)),(1,(VI d)),(2,(VI s))] []) w) kr (Eq.trans (qZ [9,0,1,6,8,7] (qAq K) kr) kr)
theorem qh7:qnG d e f g h c i j k l m n o p w K=(q9 P 172 [(Value.int .i64 c)] w (fun r s=>∃ q:Int,r=(.int .u64 q)/\qkH q q c d e f g h c i j k l m n o p s K)):=Eq.trans (b:=CS P (cA vD 29) none [] [] (zN K) (qi.mk 65 [(7,(VP (some d))),(17,(Value.int .u64 e)),(16,(VI f)),(15,(VB true)),(15,(VB g)),(14,(VI h)),(6,(VI c)),(13,(VI i)),(12,(VI j)),(11,(VI k)),(0,(VS l m n)),(1,(VI o)),(2,(VI p))] []) w) kr (Eq.trans (qZ [0,1,6,8,7] (qzl K) kr) kr)
theorem qfn:qnR d e c f g h i j k l m w K=(qv (qx P 224) 224 w (fun n o=>zW (Addr.mk n 0 none) (Value.int .u64 (IntKind.wrap .u64 c)) o (fun p=>qnG (Addr.mk n 0 none) (IntKind.wrap .u64 c) c d e c f g h i j k l m p K))):=Eq.trans (b:=CS P (cA vD 14) none [] [] (zN K) (qi.mk 65 [(15,(VB true)),(15,(VB d)),(14,(VI e)),(6,(VI c)),(13,(VI f)),(12,(VI g)),(11,(VI h)),(0,(VS i j k)),(1,(VI l)),(2,(VI m))] []) w) kr (Eq.trans (qZ [0,1,6,7] (qEn K) kr) kr)
theorem qfG:qmQ c d e f g h i j k w K=(qp (decide (c>=8)) (qnR (decide (c>=8)) c c d e f g h i j k w K) (K (Value.tuple #[]) w)):=Eq.trans (b:=CS P (cA vD 3) none [] [] (zN K) (qi.mk 65 [(6,(VI c)),(13,(VI d)),(12,(VI e)),(11,(VI f)),(0,(VS g h i)),(1,(VI j)),(2,(VI k))] []) w) kr (Eq.trans (qZ [15,0,1,6] (qyW K) kr) kr)
theorem qdy:qkT e f g c d w K=(qmQ (IntKind.wrap .i64 (d-c)) (IntKind.wrap .i64 (d-c)) c d e f g c d w K):=Eq.trans (b:=CS P (cA vD 1) none [] [] (zN K) (qi.mk 65 [(0,(VS e f g)),(1,(VI c)),(2,(VI d))] []) w) kr (Eq.trans (qZ [0,1,6] (qF7 K) kr) kr)
theorem qyP:f144 a b c d e w K=(qkT a b c d e w K):=kr
theorem qzV a b c d e w K(h:f144 a b c d e w K):q9 P 144 [(Value.slice a b c),(Value.int .i64 d),(Value.int .i64 e)] w K:=qA vD Tryz.func144 h
def vt:=qm Tryz.f145
def qM7:=Tryz.f145.results.toList
abbrev zm K:=qr P qM7 K
def f145 a b c d e w K:=CS P vt none [6,7] [6,7] (zm K) (qz 57 [(VS a b c),(VI d),(VI e)]) w
def qoc a b c d e w K:=SC vt 1 [6,7] [6,7] (zm K) 57 [(0,VS a b c),(1,VI d),(2,VI e)] w
abbrev qzj K:=kq vt 1 [6,7] [6,7] (zm K)
def qn4 a b c d e f g w K:=SC vt 3 [6,7] [6,7] (zm K) 57 [(7,VI a),(6,VI b),(0,VS c d e),(1,VI f),(2,VI g)] w
abbrev qDA K:=kq vt 3 [6,7] [6,7] (zm K)
def qnC a b c d e f g h i j k w K:=SC vt 7 [6,7] [6,7] (zm K) 57 [(8,VI a),(15,VI b),(14,VI c),(13,VI d),(7,VI e),(6,VI f),(0,VS g h i),(1,VI j),(2,VI k)] w
abbrev qzu K:=kq vt 7 [6,7] [6,7] (zm K)
def qk6 a b c d e f g h i j k l w K:=SC vt 15 [6,7] [6,7] (zm K) 57 [(9,VQ a),(8,VI b),(15,VI c),(14,VI d),(13,VI e),(7,VI f),(6,VI g),(0,VS h i j),(1,VI k),(2,VI l)] w
abbrev qDO K:=kq vt 15 [6,7] [6,7] (zm K)
def qkv a b c d e f g h i j k l m n o p q r w K:=SC vt 31 [6,7] [6,7] (zm K) 57 [(10,VI a),(20,VI b),(19,VI c),(18,VI d),(17,VI e),(16,VI f),(9,VQ g),(8,VI h),(15,VI i),(14,VI j),(13,VI k),(7,VI l),(6,VI m),(0,VS n o p),(1,VI q),(2,VI r)] w
abbrev qCh K:=kq vt 31 [6,7] [6,7] (zm K)
def qlb a b c d e f g h i j k l m n o p q r s t u v x y w K:=SC vt 63 [6,7] [6,7] (zm K) 57 [(11,VI a),(25,VI b),(24,VI c),(23,VI d),(22,VI e),(21,VI f),(10,VI g),(20,VI h),(19,VI i),(18,VI j),(17,VI k),(16,VI l),(9,VQ m),(8,VI n),(15,VI o),(14,VI p),(13,VI q),(7,VI r),(6,VI s),(0,VS t u v),(1,VI x),(2,VI y)] w
abbrev qC0 K:=kq vt 63 [6,7] [6,7] (zm K)
def qlT a b c d e f g h i j k l m n o p q r s t u v x y z a0 b0 c0 d0 e0 w K:=SC vt 127 [6,7] [6,7] (zm K) 57 [(12,VI a),(30,VI b),(29,VI c),(28,VI d),(27,VI e),(26,VI f),(11,VI g),(25,VI h),(24,VI i),(23,VI j),(22,VI k),(21,VI l),(10,VI m),(20,VI n),(19,VI o),(18,VI p),(17,VI q),(16,VI r),(9,VQ s),(8,VI t),(15,VI u),(14,VI v),(13,VI x),(7,VI y),(6,VI z),(0,VS a0 b0 c0),(1,VI d0),(2,VI e0)] w
abbrev q56 K:=kq vt 127 [6,7] [6,7] (zm K)
abbrev qBg K:=kq vt 254 [11,9] [6,7] (q56 K)
def q0n a b c d f g h w K:=SG vt 2037 [11,9] [6,7] (q56 K) 57 [(9,VQ a),(12,VI b),(11,VI c),(10,VI d),(0,VS f g h)] w
def q0L a b w K:=SG vt 255 [6,7] [6,7] (zm K) 57 [(11,VI a),(9,VQ b)] w
abbrev quf K:=kq vt 255 [6,7] [6,7] (zm K)
def qnX a b c w K:=SC vt 511 [6,7] [6,7] (zm K) 57 [(49,VI a),(11,VI b),(9,VQ c)] w
abbrev qbN K:=qo 0 (zm K)
abbrev qxN K:=kq vt 1022 [6,7] [6,7] (qbN K)
theorem qdZ:qnX d c e w K=(qp (d==0) (K (Value.tuple #[(Value.int .i64 c),(Value.int .i64 1)]) w) (qp (d==12) (K (Value.tuple #[(Value.int .i64 c),(Value.int .i64 2)]) w) (K (Value.tuple #[(Value.int .i64 c),(Value.int .i64 0)]) w))):=Eq.trans (b:=CS P (cA vt 511) none [6,7] [6,7] (zm K) (qi.mk 57 [(49,(VI d)),(11,(VI c)),(9,(VP (some e)))] []) w) kr (Eq.trans (Zc 0 [6,7] (qbN K) kr) (Eq.trans (qZ [51,11,49] (qxN K) kr) kr))
theorem qgc:q0L d c w K=(∃ e:Int,w.cell? c=some (.int .i64 e)/\qnX e d c w K):=qB (qG [11,49] (quf K) kr)
theorem qdH:q0n a c d e f g h w K=(q9 P 175 [(Value.slice f g h),(Value.int .i64 e),(Value.int .i64 d),(Value.int .i64 c),(Value.pointer (some a))] w (fun j k=>∃ i:Int,j=(.int .i64 i)/\q0L i a k K)):=qB kr
theorem qfU:qlT h k l m n o g p q r s t i u v x y z c j a0 b0 c0 d0 e0 d e f f0 g0 w K=(qp (decide (j>=8)) (qp (decide (j>=50)) (q9 P 174 [(Value.slice d e f),(Value.int .i64 i),(Value.pointer (some c))] w (fun l0 m0=>∃ h0:Int,l0=(.int .i64 h0)/\q9 P 174 [(Value.slice d e f),(Value.int .i64 g),(Value.pointer (some c))] m0 (fun n0 o0=>∃ i0:Int,n0=(.int .i64 i0)/\q9 P 174 [(Value.slice d e f),(Value.int .i64 h),(Value.pointer (some c))] o0 (fun p0 q0=>∃ j0:Int,p0=(.int .i64 j0)/\q0n c j0 i0 h0 d e f q0 K)))) (q0n c h g i d e f w K)) (q0L g c w K)):=Eq.trans (b:=CS P (cA vt 127) none [6,7] [6,7] (zm K) (qi.mk 57 [(12,(VI h)),(30,(VI k)),(29,(VI l)),(28,(VI m)),(27,(VI n)),(26,(VI o)),(11,(VI g)),(25,(VI p)),(24,(VI q)),(23,(VI r)),(22,(VI s)),(21,(VI t)),(10,(VI i)),(20,(VI u)),(19,(VI v)),(18,(VI x)),(17,(VI y)),(16,(VI z)),(9,(VP (some c))),(8,(VI j)),(15,(VI a0)),(14,(VI b0)),(13,(VI c0)),(7,(VI d0)),(6,(VI e0)),(0,(VS d e f)),(1,(VI f0)),(2,(VI g0))] []) w) kr (Eq.trans (qZ [11,9] (q56 K) kr) (Eq.trans (qZ [32,9,0,12,11,10,8] (qBg K) kr) kr))
theorem qgv:qlb e f g h i j k l m n o p q c r s t u v x y z d a0 w K=((4:Int)≠0/\qlT (IntKind.wrap .i64 (d+(IntKind.wrap .i64 ((IntKind.wrap .i64 (c.tdiv 4))*3)))) (IntKind.wrap .i64 (d+(IntKind.wrap .i64 ((IntKind.wrap .i64 (c.tdiv 4))*3)))) (IntKind.wrap .i64 ((IntKind.wrap .i64 (c.tdiv 4))*3)) (IntKind.wrap .i64 (c.tdiv 4)) c d e f g h i j k l m n o p q c r s t u v x y z d a0 w K):=Eq.trans (b:=CS P (cA vt 63) none [6,7] [6,7] (zm K) (qi.mk 57 [(11,(VI e)),(25,(VI f)),(24,(VI g)),(23,(VI h)),(22,(VI i)),(21,(VI j)),(10,(VI k)),(20,(VI l)),(19,(VI m)),(18,(VI n)),(17,(VI o)),(16,(VI p)),(9,(VP (some q))),(8,(VI c)),(15,(VI r)),(14,(VI s)),(13,(VI t)),(7,(VI u)),(6,(VI v)),(0,(VS x y z)),(1,(VI d)),(2,(VI a0))] []) w) kr (Eq.trans (qZ [9,0,12,11,10,8] (qC0 K) kr) kr)
theorem qff:qkv e f g h i j k c l m n o p q r s d t w K=((4:Int)≠0/\qlb (IntKind.wrap .i64 (d+(IntKind.wrap .i64 ((IntKind.wrap .i64 (c.tdiv 4))*2)))) (IntKind.wrap .i64 (d+(IntKind.wrap .i64 ((IntKind.wrap .i64 (c.tdiv 4))*2)))) (IntKind.wrap .i64 ((IntKind.wrap .i64 (c.tdiv 4))*2)) (IntKind.wrap .i64 (c.tdiv 4)) c d e f g h i j k c l m n o p q r s d t w K):=Eq.trans (b:=CS P (cA vt 31) none [6,7] [6,7] (zm K) (qi.mk 57 [(10,(VI e)),(20,(VI f)),(19,(VI g)),(18,(VI h)),(17,(VI i)),(16,(VI j)),(9,(VP (some k))),(8,(VI c)),(15,(VI l)),(14,(VI m)),(13,(VI n)),(7,(VI o)),(6,(VI p)),(0,(VS q r s)),(1,(VI d)),(2,(VI t))] []) w) kr (Eq.trans (qZ [9,0,11,10,8,1] (qCh K) kr) kr)
theorem qdj:qk6 e c f g h i j k l m d n w K=((4:Int)≠0/\qkv (IntKind.wrap .i64 (d+(IntKind.wrap .i64 ((IntKind.wrap .i64 (c.tdiv 4))*1)))) (IntKind.wrap .i64 (d+(IntKind.wrap .i64 ((IntKind.wrap .i64 (c.tdiv 4))*1)))) (IntKind.wrap .i64 ((IntKind.wrap .i64 (c.tdiv 4))*1)) (IntKind.wrap .i64 (c.tdiv 4)) c d e c f g h i j k l m d n w K):=Eq.trans (b:=CS P (cA vt 15) none [6,7] [6,7] (zm K) (qi.mk 57 [(9,(VP (some e))),(8,(VI c)),(15,(VI f)),(14,(VI g)),(13,(VI h)),(7,(VI i)),(6,(VI j)),(0,(VS k l m)),(1,(VI d)),(2,(VI n))] []) w) kr (Eq.trans (qZ [9,0,10,8,1] (qDO K) kr) kr)
theorem qdr:qnC c d e f g h i j k l m w K=(qv (qx P 3) 3 w (fun n o=>qk6 (Addr.mk n 0 none) c d e f g h i j k l m o K)):=Eq.trans (b:=CS P (cA vt 7) none [6,7] [6,7] (zm K) (qi.mk 57 [(8,(VI c)),(15,(VI d)),(14,(VI e)),(13,(VI f)),(7,(VI g)),(6,(VI h)),(0,(VS i j k)),(1,(VI l)),(2,(VI m))] []) w) kr (Eq.trans (qZ [9,0,8,1] (qzu K) kr) kr)
theorem qhd:qn4 e f g h i c d w K=(qnC (IntKind.wrap .i64 (d-c)) (IntKind.wrap .i64 (d-c)) c d e f g h i c d w K):=Eq.trans (b:=CS P (cA vt 3) none [6,7] [6,7] (zm K) (qi.mk 57 [(7,(VI e)),(6,(VI f)),(0,(VS g h i)),(1,(VI c)),(2,(VI d))] []) w) kr (Eq.trans (qZ [0,8,1] (qDA K) kr) kr)
theorem qfk:qoc c d e f g w K=(qn4 0 0 c d e f g w K):=Eq.trans (b:=CS P (cA vt 1) none [6,7] [6,7] (zm K) (qi.mk 57 [(0,(VS c d e)),(1,(VI f)),(2,(VI g))] []) w) kr (Eq.trans (qZ [0,1,2] (qzj K) kr) kr)
theorem qyH:f145 a b c d e w K=(qoc a b c d e w K):=kr
theorem qFg a b c d e w K(h:f145 a b c d e w K):q9 P 145 [(Value.slice a b c),(Value.int .i64 d),(Value.int .i64 e)] w K:=qA vt Tryz.func145 h
end Go.Fx.Tryz
namespace Go.Fx.Tryz
open Go Go.Fx
set_option linter.all false
open Go.Proofs
open Go.Sort (swp swp_size ltInt order2 median medianAdjacent choosePivot reverseLoop reverseRange Hint xorNext xorNextN bitsLen breakStep breakPatterns)
variable {w0 w:World} {H X:qE} {K:KT}
set_option maxRecDepth 20000
section
variable {g c:Nat} {T:TypeId} {z:List Value}
def qLU(w0:World)(H:qE)(g c:Nat)(T:TypeId)(z:List Value)(n:Nat)(D:Array Int)(m:Nat)(ee:qi)(w:World):Prop:=
 ∃ (i j:Nat) (d:Array Int),m=j-i/\j<n/\i<=n/\d.size=n/\reverseLoop i j d=D/\ee=qi.mk 32 [(7,(Value.int .i64 j)),(6,(Value.int .i64 i)),(0,(Value.slice (some (Addr.mk g 0 none)) n c))] []/\St w0 w ((g,Cs (yc d z) T)::H)
theorem qcS{d:Array Int}{a b:Nat}(h:St w0 w ((g,Cs (yc d z) T)::H))(hab:a<b)(hb:b<=d.size)(hn:d.size<1000000000000)(hK:∀ w',St w0 w' ((g,Cs (yc (reverseRange d a b) z) T)::H)->K (.tuple [].toArray) w') :
  q9 P 146 [.slice (some (Addr.mk g 0 none)) d.size c,.int .i64 a,.int .i64 b] w K:=by
 refine qCz _ _ _ _ _ _ _ ?_
 rw[qCC,qeQ,qen,qfY]
 have e1:IntKind.wrap .i64 ((b:Int)-1)=((b-1:Nat):Int):=by rw[qc om om];omega
 rw[e1]
 refine⟨qLU w0 H g c T z d.size (reverseRange d a b),⟨b-1-a,a,b-1,d,rfl,by omega,by omega,rfl,rfl,rfl,h⟩,?_⟩
 generalize hnn:d.size=n at hb hn
 generalize reverseRange d a b=D at hK
 rintro m ee w1 ⟨i,j,d1,rfl,hj,hi,hd1,hD,rfl,h1⟩
 show qbr ..
 rw[qbC,qg]
 rw[reverseLoop]at hD
 constructor
 ·intro hlt
  have hlt:i<j:=by simpa using hlt
  rw[if_pos hlt]at hD
  rw[qhG]
  subst hd1
  refine yo (i:=i) (j:=j) rfl rfl om om h1 fun w2 h2=>?_
  rw[qi5]
  have ej:IntKind.wrap .i64 ((j:Int)-1)=((j-1:Nat):Int):=by rw[qc om om];omega
  have ei:IntKind.wrap .i64 ((i:Int)+1)=((i+1:Nat):Int):=by rw[qc om om];omega
  exact⟨j-1-(i+1),by omega,i+1,j-1,_,rfl,by omega,by omega,swp_size _ _ _,hD,by rw[ei,ej],h2⟩
 ·intro hge
  have hge:¬ i<j:=by simpa using hge
  rw[if_neg hge]at hD
  subst hD
  exact hK w1 h1
theorem Jo{d:Array Int}{a b p s:Nat}{ea eb:Int}(ha:ea=(a:Int))(hb:eb=(b:Int))(hm:(g,Cs (yc d z) T)∈X)(h:St w0 w ((p,Cs [I64 s] 3)::X))(han:a<d.size)(hbn:b<d.size)(hs:s<1000)
  (hK:∀ w',St w0 w' ((p,Cs [I64 ((order2 ltInt d a b s).2.2:Nat)] 3)::X)->K (.tuple [I64 ((order2 ltInt d a b s).1:Nat),I64 ((order2 ltInt d a b s).2.1:Nat)].toArray) w') :
  q9 P 189 [.slice (some (Addr.mk g 0 none)) d.size c,.int .i64 ea,.int .i64 eb,.pointer (some (Addr.mk p 0 none))] w K:=by
 subst ha hb
 refine qCH _ _ _ _ _ _ _ _ ?_
 rw[qAf]
 refine yx (i:=b) (j:=a) rfl rfl hbn han h (List.mem_cons_of_mem _ hm) fun w1 h1=>⟨_,rfl,?_⟩
 unfold order2 at hK
 rw[qgi,qg]
 constructor
 ·intro hl
  rw[if_pos hl]at hK
  refine⟨(s:Int),h1.cell (k:=0) rfl,?_⟩
  refine h1.st1 (k:=0) rfl (by simp) rfl fun w2 h2=>?_
  have h2:St w0 w2 ((p,Cs [I64 (IntKind.wrap .i64 ((s:Int)+1))] 3)::X):=h2
  rw[qc om om,show(s:Int)+1=((s+1:Nat):Int)by omega]at h2
  exact hK w2 h2
 ·intro hl
  rw[if_neg (by simp[hl])]at hK
  rw[qhP]
  exact hK w1 h1
theorem QC(d:Array Int)(a b s n:Nat)(ha:a<n)(hb:b<n):(order2 ltInt d a b s).1<n/\(order2 ltInt d a b s).2.1<n/\(order2 ltInt d a b s).2.2<=s+1:=by
 unfold order2
 split
 ·exact⟨hb,ha,Nat.le_refl _⟩
 ·exact⟨ha,hb,Nat.le_succ _⟩
theorem Yb(d:Array Int)(a b c' s n:Nat)(ha:a<n)(hb:b<n)(hc:c'<n):(median ltInt d a b c' s).1<n/\(median ltInt d a b c' s).2<=s+3:=by
 unfold median
 simp only
 obtain⟨h1,h2,h3⟩:=QC d a b s n ha hb
 obtain⟨h4,h5,h6⟩:=QC d (order2 ltInt d a b s).2.1 c' (order2 ltInt d a b s).2.2 n h2 hc
 obtain⟨h7,h8,h9⟩:=QC d (order2 ltInt d a b s).1 (order2 ltInt d (order2 ltInt d a b s).2.1 c' (order2 ltInt d a b s).2.2).1 (order2 ltInt d (order2 ltInt d a b s).2.1 c' (order2 ltInt d a b s).2.2).2.2 n h1 h4
 exact⟨h8,by omega⟩
theorem q4m{d:Array Int}{a b c' p s:Nat}{ea eb ec:Int}(ha:ea=(a:Int))(hb:eb=(b:Int))(hc:ec=(c':Int))(hm:(g,Cs (yc d z) T)∈X)(h:St w0 w ((p,Cs [I64 s] 3)::X))(han:a<d.size)(hbn:b<d.size)(hcn:c'<d.size)(hs:s<900)
  (hK:∀ w',St w0 w' ((p,Cs [I64 ((median ltInt d a b c' s).2:Nat)] 3)::X)->K (I64 ((median ltInt d a b c' s).1:Nat)) w') :
  q9 P 175 [.slice (some (Addr.mk g 0 none)) d.size c,.int .i64 ea,.int .i64 eb,.int .i64 ec,.pointer (some (Addr.mk p 0 none))] w K:=by
 refine qCK _ _ _ _ _ _ _ _ _ ?_
 rw[qAU]
 obtain⟨h1,h2,h3⟩:=QC d a b s d.size han hbn
 refine Jo ha hb hm h han hbn om fun w1 k1=>⟨_,_,rfl,?_⟩
 obtain⟨h4,h5,h6⟩:=QC d (order2 ltInt d a b s).2.1 c' (order2 ltInt d a b s).2.2 d.size h2 hcn
 refine Jo rfl hc hm k1 h2 hcn om fun w2 k2=>⟨_,_,rfl,?_⟩
 refine Jo rfl rfl hm k2 h1 h4 om fun w3 k3=>⟨_,_,rfl,?_⟩
 exact hK w3 k3
theorem ZG{d:Array Int}{a p s:Nat}{ea:Int}(ha:ea=(a:Int))(hm:(g,Cs (yc d z) T)∈X)(h:St w0 w ((p,Cs [I64 s] 3)::X))(ha1:1<=a)(han:a+1<d.size)(hn:d.size<1000000000000)(hs:s<900)
  (hK:∀ w',St w0 w' ((p,Cs [I64 ((medianAdjacent ltInt d a s).2:Nat)] 3)::X)->K (I64 ((medianAdjacent ltInt d a s).1:Nat)) w') :
  q9 P 174 [.slice (some (Addr.mk g 0 none)) d.size c,.int .i64 ea,.pointer (some (Addr.mk p 0 none))] w K:=by
 subst ha
 refine qDa _ _ _ _ _ _ _ ?_
 rw[qAD]
 refine q4m (a:=a-1) (b:=a) (c':=a+1) ?_ rfl ?_ hm h om om om hs fun w1 k1=>⟨_,rfl,hK w1 k1⟩
 ·rw[qc om om];omega
 ·rw[qc om om];omega
def qlj:Hint->Int
 | .unknown=>0
 | .increasing=>1
 | .decreasing=>2
theorem z3i:qx P 3=[I64 0].toArray:=kr
theorem qxi{d:Array Int}{a b:Nat}(hm:(g,Cs (yc d z) T)∈X)(h:St w0 w X)(hab:a<b)(hb:b<=d.size)(hn:d.size<1000000000000)
  (hK:∀ w',St w0 w' X->K (.tuple [I64 ((choosePivot ltInt d a b).1:Nat),I64 (qlj (choosePivot ltInt d a b).2)].toArray) w') :
  q9 P 145 [.slice (some (Addr.mk g 0 none)) d.size c,.int .i64 a,.int .i64 b] w K:=by
 refine qFg _ _ _ _ _ _ _ ?_
 have el:IntKind.wrap .i64 ((b:Int)-(a:Int))=((b-a:Nat):Int):=by rw[qc om om];omega
 rw[qyH,qfk,qhd,qdr,z3i]
 refine h.newC fun p w1 hp h1=>?_
 have h1:St w0 w1 ((p,Cs [I64 ((0:Nat):Int)] 3)::X):=h1
 rw[el,qdj]
 have e4:IntKind.wrap .i64 (((b-a:Nat):Int).tdiv 4)=(((b-a) / 4:Nat):Int):=by
  rw[Int.tdiv_eq_ediv_of_nonneg om,qc om om];omega
 rw[e4]
 have ek:∀ k:Nat,k<=3->IntKind.wrap .i64 ((a:Int)+IntKind.wrap .i64 ((((b-a) / 4:Nat):Int)*(k:Int)))=((a+(b-a) / 4*k:Nat):Int):=fun k hk=>by
  have hle:(b-a) / 4*k<=(b-a) / 4*3:=Nat.mul_le_mul_left _ hk
  rw[show((((b-a) / 4:Nat):Int)*(k:Int))=(((b-a) / 4*k:Nat):Int)by rw[Int.natCast_mul],qc (x:=(((b-a) / 4*k:Nat):Int)) om om,qc om om]
  omega
 have ek1:=ek 1 om
 have ek2:=ek 2 om
 have ek3:=ek 3 om
 refine⟨by omega,?_⟩
 rw[qff]
 refine⟨by omega,?_⟩
 rw[qgv]
 refine⟨by omega,?_⟩
 rw[qfU,e4]
 have ek1':IntKind.wrap .i64 ((a:Int)+IntKind.wrap .i64 ((((b-a) / 4:Nat):Int)*1))=((a+(b-a) / 4*1:Nat):Int):=ek1
 have ek2':IntKind.wrap .i64 ((a:Int)+IntKind.wrap .i64 ((((b-a) / 4:Nat):Int)*2))=((a+(b-a) / 4*2:Nat):Int):=ek2
 have ek3':IntKind.wrap .i64 ((a:Int)+IntKind.wrap .i64 ((((b-a) / 4:Nat):Int)*3))=((a+(b-a) / 4*3:Nat):Int):=ek3
 rw[ek1',ek2',ek3']
 have s8:∀ w2 (r:Nat × Nat),(r.1,if r.2=0 then Hint.increasing else if r.2=12 then .decreasing else .unknown)=choosePivot ltInt d a b->r.2<=100->St w0 w2 ((p,Cs [I64 ((r.2:Nat):Int)] 3)::X)->q0L ((r.1:Nat):Int) (Addr.mk p 0 none) w2 K:=by
  intro w2 r hr hr2 h2
  have hK:=hK w2 (h2.tail hp)
  rw[<-hr]at hK
  rw[qgc]
  refine⟨((r.2:Nat):Int),h2.cell (k:=0) rfl,?_⟩
  rw[qdZ,qg]
  refine⟨fun h0=>?_,fun h0=>?_⟩
  ·have h0:r.2=0:=by simp at h0;omega
   rw[if_pos h0]at hK
   exact hK
  ·have h0:r.2≠0:=by simp at h0;omega
   rw[if_neg h0]at hK
   rw[qg]
   refine⟨fun h12=>?_,fun h12=>?_⟩
   ·have h12:r.2=12:=by simp at h12;omega
    rw[if_pos h12]at hK
    exact hK
   ·have h12:r.2≠12:=by simp at h12;omega
    rw[if_neg h12]at hK
    exact hK
 have s7:∀ w2 (i j k s:Nat),((median ltInt d i j k s).1,if(median ltInt d i j k s).2=0 then Hint.increasing else if(median ltInt d i j k s).2=12 then .decreasing else .unknown)=choosePivot ltInt d a b->i<d.size->j<d.size->k<d.size->s<=20->
   St w0 w2 ((p,Cs [I64 ((s:Nat):Int)] 3)::X)->q0n (Addr.mk p 0 none) ((k:Nat):Int) ((j:Nat):Int) ((i:Nat):Int) (some (Addr.mk g 0 none)) d.size c w2 K:=by
  intro w2 i j k s hr hi hj hk hs h2
  rw[qdH]
  obtain⟨_,m2⟩:=Yb d i j k s d.size hi hj hk
  exact q4m rfl rfl rfl hm h2 hi hj hk om fun w3 h3=>⟨_,rfl,s8 w3 (median ltInt d i j k s) hr om h3⟩
 have hcp:choosePivot ltInt d a b=((if b-a>=8 then(if b-a>=50 then median ltInt d (medianAdjacent ltInt d (a+(b-a) / 4*1) 0).1 (medianAdjacent ltInt d (a+(b-a) / 4*2) (medianAdjacent ltInt d (a+(b-a) / 4*1) 0).2).1
   (medianAdjacent ltInt d (a+(b-a) / 4*3) (medianAdjacent ltInt d (a+(b-a) / 4*2) (medianAdjacent ltInt d (a+(b-a) / 4*1) 0).2).2).1 (medianAdjacent ltInt d (a+(b-a) / 4*3) (medianAdjacent ltInt d (a+(b-a) / 4*2) (medianAdjacent ltInt d (a+(b-a) / 4*1) 0).2).2).2
   else median ltInt d (a+(b-a) / 4*1) (a+(b-a) / 4*2) (a+(b-a) / 4*3) 0)else(a+(b-a) / 4*2,0)).1,if(if b-a>=8 then(if b-a>=50 then median ltInt d (medianAdjacent ltInt d (a+(b-a) / 4*1) 0).1 (medianAdjacent ltInt d (a+(b-a) / 4*2) (medianAdjacent ltInt d (a+(b-a) / 4*1) 0).2).1
   (medianAdjacent ltInt d (a+(b-a) / 4*3) (medianAdjacent ltInt d (a+(b-a) / 4*2) (medianAdjacent ltInt d (a+(b-a) / 4*1) 0).2).2).1 (medianAdjacent ltInt d (a+(b-a) / 4*3) (medianAdjacent ltInt d (a+(b-a) / 4*2) (medianAdjacent ltInt d (a+(b-a) / 4*1) 0).2).2).2
   else median ltInt d (a+(b-a) / 4*1) (a+(b-a) / 4*2) (a+(b-a) / 4*3) 0)else(a+(b-a) / 4*2,0)).2=0 then Hint.increasing else if(if b-a>=8 then(if b-a>=50 then median ltInt d (medianAdjacent ltInt d (a+(b-a) / 4*1) 0).1 (medianAdjacent ltInt d (a+(b-a) / 4*2) (medianAdjacent ltInt d (a+(b-a) / 4*1) 0).2).1
   (medianAdjacent ltInt d (a+(b-a) / 4*3) (medianAdjacent ltInt d (a+(b-a) / 4*2) (medianAdjacent ltInt d (a+(b-a) / 4*1) 0).2).2).1 (medianAdjacent ltInt d (a+(b-a) / 4*3) (medianAdjacent ltInt d (a+(b-a) / 4*2) (medianAdjacent ltInt d (a+(b-a) / 4*1) 0).2).2).2
   else median ltInt d (a+(b-a) / 4*1) (a+(b-a) / 4*2) (a+(b-a) / 4*3) 0)else(a+(b-a) / 4*2,0)).2=12 then .decreasing else .unknown):=rfl
 rw[qg]
 refine⟨fun h8=>?_,fun h8=>?_⟩
 ·have h8:b-a>=8:=by simp at h8;omega
  simp only[if_pos h8]at hcp
  rw[qg]
  refine⟨fun h50=>?_,fun h50=>?_⟩
  ·have h50:b-a>=50:=by simp at h50;omega
   simp only[if_pos h50]at hcp
   have b1:∀ s,(medianAdjacent ltInt d (a+(b-a) / 4*1) s).1<d.size/\(medianAdjacent ltInt d (a+(b-a) / 4*1) s).2<=s+3:=fun s=>Yb _ _ _ _ _ _ om om om
   have b2:∀ s,(medianAdjacent ltInt d (a+(b-a) / 4*2) s).1<d.size/\(medianAdjacent ltInt d (a+(b-a) / 4*2) s).2<=s+3:=fun s=>Yb _ _ _ _ _ _ om om om
   have b3:∀ s,(medianAdjacent ltInt d (a+(b-a) / 4*3) s).1<d.size/\(medianAdjacent ltInt d (a+(b-a) / 4*3) s).2<=s+3:=fun s=>Yb _ _ _ _ _ _ om om om
   have c1:=b1 0
   refine ZG rfl hm h1 om om hn om fun w2 h2=>⟨_,rfl,?_⟩
   have c2:=b2 (medianAdjacent ltInt d (a+(b-a) / 4*1) 0).2
   refine ZG rfl hm h2 om om hn om fun w3 h3=>⟨_,rfl,?_⟩
   have c3:=b3 (medianAdjacent ltInt d (a+(b-a) / 4*2) (medianAdjacent ltInt d (a+(b-a) / 4*1) 0).2).2
   refine ZG rfl hm h3 om om hn om fun w4 h4=>⟨_,rfl,?_⟩
   exact s7 w4 _ _ _ _ hcp.symm c1.1 c2.1 c3.1 om h4
  ·have h50:¬ b-a>=50:=by simp at h50;omega
   simp only[if_neg h50]at hcp
   exact s7 w1 _ _ _ _ hcp.symm om om om om h1
 ·have h8:¬ b-a>=8:=by simp at h8;omega
  simp only[if_neg h8]at hcp
  exact s8 w1 (a+(b-a) / 4*2,0) hcp.symm (by simp) h1
end
end Go.Fx.Tryz
namespace Go.Fx.Tryz
open Go Go.Fx
set_option linter.all false
open Go.Proofs
open Go.Sort (swp swp_size ltInt xorNext xorNextN bitsLen breakStep breakPatterns)
variable {w0 w:World} {H X:qE} {K:KT}
set_option maxRecDepth 20000
theorem St.drewN(h:St w0 w H)(n:Nat):St w0 (w.drewN n) H:=⟨⟨h.kept.os,h.kept.tape,h.kept.output⟩,h.le,h.has,h.nd,h.old⟩
theorem qtx{p x:Nat}{T2:TypeId}(h:St w0 w ((p,Cs [.int .u64 (x:Nat)] T2)::X))(hx:x<18446744073709551616)(hK:∀ w',St w0 w' ((p,Cs [.int .u64 (xorNextN x:Nat)] T2)::X)->K (.int .u64 (xorNextN x:Nat)) w') :
  q9 P 173 [.pointer (some (Addr.mk p 0 none))] w K:=by
 have hb:w.heap[p]?=some (Cs [.int .u64 (x:Nat)] T2):=h.has _ _ (.head _)
 refine ZD (AnyF.xorshift_Next (P:=P) (ρ:=Tryz.sort_ren) Tryz.sortNext p 0 x hx w (qw hb) (ZR hb)) ?_
 rintro e w' ⟨rfl,rfl⟩
 refine⟨_,rfl,hK _ ?_⟩
 have e:w.setCell (Addr.mk p 0 none) (.int .u64 (xorNextN x:Nat))=w.putObj p (Cs [.int .u64 (xorNextN x:Nat)] T2):=YJ _ hb
 have e':w.setCell ⟨p,0,none⟩ (.int .u64 (xorNextN x:Nat))=w.putObj p (Cs [.int .u64 (xorNextN x:Nat)] T2):=e
 rw[e']
 exact St.drewN (h.put (k:=0) rfl _) 3
theorem qFZ(h:St w0 w X){n:Nat}(hn:n<4611686018427387904)(hK:∀ w',St w0 w' X->K (.int .u64 ((1 <<< bitsLen n:Nat):Int)) w'):q9 P 172 [.int .i64 (n:Nat)] w K:=by
 refine ZD (AnyF.nextPowerOfTwo (P:=P) (ρ:=Tryz.sort_ren) Tryz.sortPow n hn w) ?_
 rintro e w' ⟨rfl,rfl⟩
 exact⟨_,rfl,hK w' h⟩
section
variable {g c:Nat} {T:TypeId} {z:List Value}
def brk(a length modulus idx0:Nat)(d:Array Int):Nat->UInt64 × Array Int
 | 0=>(UInt64.ofNat length,d)
 | k+1=>breakStep a length modulus (brk a length modulus idx0 d k) (idx0+k)
theorem qaO(a length modulus idx0:Nat)(d:Array Int):∀ k,(brk a length modulus idx0 d k).2.size=d.size
 | 0=>rfl
 | k+1=>by
  have:=qaO a length modulus idx0 d k
  show(swp _ _ _).size=_
  rw[swp_size,this]
theorem Jk(d:Array Int)(a b:Nat)(h:b-a>=8):breakPatterns d a b=(brk a (b-a) (1 <<< bitsLen (b-a)) (a+(b-a) / 4*2-1) d 3).2:=by
 unfold breakPatterns
 simp only[if_pos h]
 rfl
theorem qID(n:Nat)(h:0<n):1 <<< bitsLen n<=2*n:=by
 rw[Nat.one_shiftLeft]
 unfold bitsLen
 rw[if_neg om,Nat.pow_succ]
 have:=Nat.log2_self_le (n:=n) om
 omega
theorem qu7(n:Nat):0<1 <<< bitsLen n:=by rw[Nat.one_shiftLeft];exact Nat.two_pow_pos _
theorem qF1{x y:Nat}(hx:x<18446744073709551616)(hy:y<4611686018427387904):IntKind.wrap .i64 (IntKind.wrap .u64 ((BitVec.ofInt (IntKind.bits .u64) (x:Int) &&& BitVec.ofInt (IntKind.bits .u64) (y:Int)).toNat:Int))=((x &&& y:Nat):Int):=by
 have h1:(BitVec.ofInt (IntKind.bits .u64) (x:Int) &&& BitVec.ofInt (IntKind.bits .u64) (y:Int)).toNat=x &&& y:=by
  rw[BitVec.toNat_and,BitVec.ofInt_natCast,BitVec.ofInt_natCast,BitVec.toNat_ofNat,BitVec.toNat_ofNat]
  show x % 2 ^ 64 &&& y % 2 ^ 64=x &&& y
  rw[Nat.mod_eq_of_lt om,Nat.mod_eq_of_lt om]
 have h2:x &&& y<=y:=Nat.and_le_right
 rw[h1]
 have h3:IntKind.wrap .u64 ((x &&& y:Nat):Int)=((x &&& y:Nat):Int):=by
  simp only[IntKind.wrap,IntKind.bits,IntKind.signed]
  simp
  omega
 rw[h3,qc om om]
theorem qO8:qx P 224=[Value.int .u64 0].toArray:=kr
def qFu(w0:World)(H:qE)(g c:Nat)(T:TypeId)(z:List Value)(p a length modulus idx0:Nat)(d:Array Int)(m:Nat)(ee:qi)(w:World):Prop:=
 ∃ k:Nat,k<=3/\m=3-k/\ee=qi.mk 65 [(9,(Value.int .i64 ((idx0+k:Nat):Int))),(0,(Value.slice (some (Addr.mk g 0 none)) d.size c)),(1,(Value.int .i64 a)),(6,(Value.int .i64 length)),(8,(Value.int .u64 modulus)),(7,(Value.pointer (some (Addr.mk p 0 none))))] []/\
  St w0 w ((g,Cs (yc (brk a length modulus idx0 d k).2 z) T)::(p,Cs [.int .u64 ((brk a length modulus idx0 d k).1.toNat:Nat)] 224)::H)
theorem qwK{d:Array Int}{a b:Nat}(h:St w0 w ((g,Cs (yc d z) T)::H))(hab:a<=b)(hb:b<=d.size)(hn:d.size<1000000000000)(hK:∀ w',St w0 w' ((g,Cs (yc (breakPatterns d a b) z) T)::H)->K (.tuple [].toArray) w') :
  q9 P 144 [.slice (some (Addr.mk g 0 none)) d.size c,.int .i64 a,.int .i64 b] w K:=by
 refine qzV _ _ _ _ _ _ _ ?_
 have el:IntKind.wrap .i64 ((b:Int)-(a:Int))=((b-a:Nat):Int):=by rw[qc om om];omega
 rw[qyP,qdy,el,qfG,qg]
 constructor
 ·intro h8
  have h8:b-a>=8:=by simp at h8;omega
  have hBP:=Jk d a b h8
  rw[hBP]at hK
  generalize hl:b-a=l at h8 hK
  have hlb:a+l=b:=by omega
  rw[qfn,qO8]
  refine h.newC fun p w1 hp h1=>h1.st1 (k:=0) rfl (by simp) rfl fun w2 h2=>?_
  have e6:IntKind.wrap .u64 (l:Int)=(l:Int):=by
   simp only[IntKind.wrap,IntKind.bits,IntKind.signed]
   simp
   omega
  rw[e6]
  have h2:St w0 w2 ((p,Cs [.int .u64 (IntKind.wrap .u64 (l:Int))] 224)::(g,Cs (yc d z) T)::H):=h2
  rw[e6]at h2
  rw[qh7]
  refine qFZ h2 om fun w3 h3=>⟨_,rfl,?_⟩
  have hp1:=qID l om
  have hp0:=qu7 l
  generalize (1 <<< bitsLen l)=mo at hp1 hp0 hK
  have e4:IntKind.wrap .i64 ((l:Int).tdiv 4)=((l / 4:Nat):Int):=by
   rw[Int.tdiv_eq_ediv_of_nonneg om,qc om om];omega
  have e5:IntKind.wrap .i64 ((a:Int)+IntKind.wrap .i64 (((l / 4:Nat):Int)*2))=((a+l / 4*2:Nat):Int):=by
   rw[qc (x:=((l / 4:Nat):Int)*2) om om,qc om om];omega
  have e7:IntKind.wrap .i64 (((a+l / 4*2:Nat):Int)-1)=((a+l / 4*2-1:Nat):Int):=by rw[qc om om];omega
  have e8:IntKind.wrap .i64 (((a+l / 4*2:Nat):Int)+1)=((a+l / 4*2+1:Nat):Int):=by rw[qc om om];omega
  rw[qfg,e4,e5,e7]
  refine⟨by omega,?_⟩
  rw[qe4]
  have hidx:a+l / 4*2-1+2<b:=by omega
  generalize hi0:a+l / 4*2-1=i0 at hK hidx
  refine⟨qFu w0 H g c T z p a l mo i0 d,⟨3,0,by omega,rfl,rfl,?_⟩,?_⟩
  ·have h3':St w0 w3 ((g,Cs (yc d z) T)::(p,Cs [.int .u64 (l:Int)] 224)::H):=h3.perm (List.Perm.swap _ _ _)
   have e9:((UInt64.ofNat l).toNat:Int)=(l:Int):=by
    rw[UInt64.toNat_ofNat']
    omega
   show St w0 w3 ((g,Cs (yc d z) T)::(p,Cs [.int .u64 ((UInt64.ofNat l).toNat:Int)] 224)::H)
   rw[e9]
   exact h3'
  rintro m ee w4 ⟨k,hk,rfl,rfl,h4⟩
  show q9a ..
  rw[qaj,e4,e5,e8]
  refine⟨by omega,?_⟩
  rw[qg]
  constructor
  ·intro hle
   have hk3:k<3:=by simp at hle;omega
   rw[qf1]
   generalize hst:brk a l mo i0 d k=st at h4
   have hsz:st.2.size=d.size:=by rw[<-hst,qaO]
   have h4':St w0 w4 ((p,Cs [.int .u64 (st.1.toNat:Nat)] 224)::(g,Cs (yc st.2 z) T)::H):=h4.perm (List.Perm.swap _ _ _)
   refine qtx h4' (UInt64.toNat_lt _) fun w5 h5=>⟨_,rfl,?_⟩
   have hx:=Go.Sort.xorNextN_lt st.1.toNat (UInt64.toNat_lt _)
   have ex:(xorNext st.1).toNat=xorNextN st.1.toNat:=Go.Sort.xorNext_toNat st.1
   have em:IntKind.wrap .u64 ((mo:Int)-1)=((mo-1:Nat):Int):=by
    simp only[IntKind.wrap,IntKind.bits,IntKind.signed]
    simp
    omega
   rw[em,qF1 hx om]
   have ho:xorNextN st.1.toNat &&& (mo-1)<=mo-1:=Nat.and_le_right
   have hnext:brk a l mo i0 d (k+1)=(xorNext st.1,swp st.2 (i0+k) (a+(if xorNextN st.1.toNat &&& (mo-1)>=l then(xorNextN st.1.toNat &&& (mo-1))-l else xorNextN st.1.toNat &&& (mo-1)))):=by
    show breakStep a l mo (brk a l mo i0 d k) (i0+k)=_
    rw[hst]
    unfold breakStep
    simp only[ex]
   generalize xorNextN st.1.toNat &&& (mo-1)=o at ho hnext
   have h5':St w0 w5 ((g,Cs (yc st.2 z) T)::(p,Cs [.int .u64 (xorNextN st.1.toNat:Nat)] 224)::H):=h5.perm (List.Perm.swap _ _ _)
   have s8:∀ q:Nat,q<l->brk a l mo i0 d (k+1)=(xorNext st.1,swp st.2 (i0+k) (a+q))->q15 (some (Addr.mk g 0 none)) d.size c a l mo (Addr.mk p 0 none) ((i0+k:Nat):Int) (q:Int) w5 K (fun e' w'=>∃ m,m<3-k/\qFu w0 H g c T z p a l mo i0 d m e' w'):=by
    intro q hq hnx
    rw[qiF]
    have eq':IntKind.wrap .i64 ((a:Int)+(q:Int))=((a+q:Nat):Int):=by rw[qc om om];omega
    rw[<-hsz]
    refine yo (i:=i0+k) (j:=a+q) rfl eq' om om h5' fun w6 h6=>?_
    rw[qhS]
    refine⟨3-(k+1),by omega,k+1,by omega,rfl,?_,?_⟩
    ·rw[qc om om,hsz];rfl
    ·rw[hnx]
     show St w0 w6 ((g,Cs (yc (swp st.2 (i0+k) (a+q)) z) T)::(p,Cs [.int .u64 ((xorNext st.1).toNat:Nat)] 224)::H)
     rw[ex]
     exact h6
   rw[qg]
   refine⟨fun hge=>?_,fun hlt=>?_⟩
   ·have hge:o>=l:=by simp at hge;omega
    rw[if_pos hge]at hnext
    have eo:IntKind.wrap .i64 ((o:Int)-(l:Int))=((o-l:Nat):Int):=by rw[qc om om];omega
    rw[eo]
    exact s8 (o-l) om hnext
   ·have hlt:¬ o>=l:=by simp at hlt;omega
    rw[if_neg hlt]at hnext
    exact s8 o om hnext
  ·intro hgt
   have:k=3:=by simp at hgt;omega
   subst this
   have h4':St w0 w4 ((p,Cs [.int .u64 ((brk a l mo i0 d 3).1.toNat:Nat)] 224)::(g,Cs (yc (brk a l mo i0 d 3).2 z) T)::H):=h4.perm (List.Perm.swap _ _ _)
   exact hK w4 (h4'.tail hp)
 ·intro h8
  have h8:¬ b-a>=8:=by simp at h8;omega
  have hBP:breakPatterns d a b=d:=by unfold breakPatterns;simp only[if_neg h8]
  rw[hBP]at hK
  exact hK w h
end
end Go.Fx.Tryz
