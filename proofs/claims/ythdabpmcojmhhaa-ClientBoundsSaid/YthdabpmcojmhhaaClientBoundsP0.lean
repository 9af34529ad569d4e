/- No condition. -/
import Derived.Test.YthdabpmcojmhhaaClientBoundsE
namespace Go.Proofs.Ythdabpmcojmhhaa
open Go Go.Rx
set_option maxRecDepth 100000
set_option linter.unusedVariables false
set_option linter.unusedSimpArgs false
set_option linter.unnecessarySimpa false
set_option linter.unnecessarySimpa false
def F13_e : View → PV × List Ob := fun r => (.one (.ptr 1000000 0), [.cells [li .i64 r.client, li .i64 r.session, li .i64 r.n, li .i64 r.beat, li .i64 r.start, vw Thing.cod r.things, .osl 1000001 0 0 (r.log_).length, .mp 1000002], .arr 58 Event.cod.sz 0 (r.log_).length (getOf Event.cod r.log_), .map (mapOf Key.cells Event.cod r.wait)])
def F13 (n : Nat) (a0 a1 a2 : Int) : Option View :=
 some (View.mk a0 a1 (imin (imax a2 1) 4) (-1) (-1) ([] : List Thing) ([] : List Event) ([] : (List (Key × (List Event)))))
theorem F13_ok (n : Nat) (a0 a1 a2 : Int) : ∀ r, F13 n a0 a1 a2 = some r → D 13 [.one (li .i64 a0), .one (li .i64 a1), .one (li .i64 a2)] [] = some (F13_e r) := by
 refine fn_to (D := D) (n := n + 8) (nt := 15) (rs := pc13_r) (c := p13c5) (L := [(0, qj a0), (1, qj a1), (2, qj a2)]) (M := []) (k := 0) rfl rfl rfl rfl rfl rfl rfl ?_
 unfold F13
 exact Sim.sr 1 [(6, .one (.val (.pointer none)))] [] (.sr 9 [(6, qp 14 0), (14, qp 14 0), (13, .agg [lj a0, lj a1, lj (imin (imax a2 1) 4), lj (-1), lj (-1), vw Thing.cod ([] : List Thing), lnil, .mp 12]), (12, .one (.mp 12)), (11, qj (imin (imax a2 1) 4)), (10, qj (imax a2 1)), (9, qj a2), (8, qj a1), (7, qj a0)] [(14, some (.cells [lj a0, lj a1, lj (imin (imax a2 1) 4), lj (-1), lj (-1), vw Thing.cod ([] : List Thing), .osl 400113 0 0 (([] : List Event)).length, .mp 12])), (400113, some (.arr 58 Event.cod.sz 0 (([] : List Event)).length (getOf Event.cod ([] : List Event)))), (12, some (.map (mapOf Key.cells Event.cod ([] : (List (Key × (List Event)))))))] (.ret .fn))
def F38s0_e (a0 a1 a2 a3 a4 a5 a6 a7 a8 a9 a10 a11 a12 a13 : Int) (a14 : ByteArray) (a15 : Int) (a16 : ByteArray) (a17 : Int) (a18 : ByteArray) (a19 : Int) (a20 : ByteArray) (a21 : Int) (a22 : ByteArray) (a23 a24 a25 a26 a27 a28 a29 a30 a31 a32 : Int) (a33 : (List Thing)) (a34 : (List Hand)) (a35 : (List Thing)) (a36 : (List Command)) (a37 a38 a39 a40 a41 : Int) (a42 : (List Event)) (a43 a44 : Int) (a45 : Bool) (a46 a47 a48 : Int) : (Int × (List Thing) × (List Hand) × (List Thing) × (List Command) × (List Event) × Int × Int × Int × Int × Int × (List Thing) × (List Event) × (List (Key × (List Event)))) → PV × List Ob := fun r => (.tup [], [.cells [li .i64 a0, li .i64 a1, li .i64 r.1, .ptr 1000001 0, li .i64 0, li .i64 0, li .i64 0, li .i64 0, li .i64 0, li .i64 0, li .i64 0, li .i64 0, li .i64 0, li .i64 0, li .i64 0, ls ByteArray.empty, li .i64 0, ls ByteArray.empty, li .i64 0, ls ByteArray.empty, li .i64 0, ls ByteArray.empty, li .i64 0, ls ByteArray.empty, li .i64 0, li .i64 0, li .i64 0, li .i64 0, li .i64 0, li .i64 0, li .i64 0, li .i64 0, li .i64 0, li .i64 0, vw Thing.cod r.2.1, vw Hand.cod r.2.2.1, vw Thing.cod r.2.2.2.1, vw Command.cod r.2.2.2.2.1, li .i64 0, li .i64 0, li .i64 0, li .i64 0, li .i64 0, vw Event.cod r.2.2.2.2.2.1, li .i64 0, li .i64 0, lb false, li .i64 0, li .i64 0, li .i64 0], .cells [li .i64 r.2.2.2.2.2.2.1, li .i64 r.2.2.2.2.2.2.2.1, li .i64 r.2.2.2.2.2.2.2.2.1, li .i64 r.2.2.2.2.2.2.2.2.2.1, li .i64 r.2.2.2.2.2.2.2.2.2.2.1, vw Thing.cod r.2.2.2.2.2.2.2.2.2.2.2.1, .osl 1000002 0 0 (r.2.2.2.2.2.2.2.2.2.2.2.2.1).length, .mp 1000003], .arr 58 Event.cod.sz 0 (r.2.2.2.2.2.2.2.2.2.2.2.2.1).length (getOf Event.cod r.2.2.2.2.2.2.2.2.2.2.2.2.1), .map (mapOf Key.cells Event.cod r.2.2.2.2.2.2.2.2.2.2.2.2.2)])
def F38s0 (n : Nat) (a0 a1 a2 a3 a4 a5 a6 a7 a8 a9 a10 a11 a12 a13 : Int) (a14 : ByteArray) (a15 : Int) (a16 : ByteArray) (a17 : Int) (a18 : ByteArray) (a19 : Int) (a20 : ByteArray) (a21 : Int) (a22 : ByteArray) (a23 a24 a25 a26 a27 a28 a29 a30 a31 a32 : Int) (a33 : (List Thing)) (a34 : (List Hand)) (a35 : (List Thing)) (a36 : (List Command)) (a37 a38 a39 a40 a41 : Int) (a42 : (List Event)) (a43 a44 : Int) (a45 : Bool) (a46 a47 a48 : Int) : Option (Int × (List Thing) × (List Hand) × (List Thing) × (List Command) × (List Event) × Int × Int × Int × Int × Int × (List Thing) × (List Event) × (List (Key × (List Event)))) :=
 (F13 n a0 (IntKind.wrap .i64 (a2 + 1)) a1).bind fun (r1 : View) =>
 some ((IntKind.wrap .i64 (a2 + 1)), ([] : List Thing), ([] : List Hand), ([] : List Thing), ([] : List Command), ([] : List Event), r1.client, r1.session, r1.n, r1.beat, r1.start, r1.things, r1.log_, r1.wait)
theorem F38s0_ok (n : Nat) (a0 a1 a2 a3 a4 a5 a6 a7 a8 a9 a10 a11 a12 a13 : Int) (a14 : ByteArray) (a15 : Int) (a16 : ByteArray) (a17 : Int) (a18 : ByteArray) (a19 : Int) (a20 : ByteArray) (a21 : Int) (a22 : ByteArray) (a23 a24 a25 a26 a27 a28 a29 a30 a31 a32 : Int) (a33 : (List Thing)) (a34 : (List Hand)) (a35 : (List Thing)) (a36 : (List Command)) (a37 a38 a39 a40 a41 : Int) (a42 : (List Event)) (a43 a44 : Int) (a45 : Bool) (a46 a47 a48 : Int) : ∀ r, F38s0 n a0 a1 a2 a3 a4 a5 a6 a7 a8 a9 a10 a11 a12 a13 a14 a15 a16 a17 a18 a19 a20 a21 a22 a23 a24 a25 a26 a27 a28 a29 a30 a31 a32 a33 a34 a35 a36 a37 a38 a39 a40 a41 a42 a43 a44 a45 a46 a47 a48 = some r → D 38 [.one (.ptr 1000000 0)] [.cells [li .i64 a0, li .i64 a1, li .i64 a2, .val (.pointer none), li .i64 a3, li .i64 a4, li .i64 a5, li .i64 a6, li .i64 a7, li .i64 a8, li .i64 a9, li .i64 a10, li .i64 a11, li .i64 a12, li .i64 a13, ls a14, li .i64 a15, ls a16, li .i64 a17, ls a18, li .i64 a19, ls a20, li .i64 a21, ls a22, li .i64 a23, li .i64 a24, li .i64 a25, li .i64 a26, li .i64 a27, li .i64 a28, li .i64 a29, li .i64 a30, li .i64 a31, li .i64 a32, vw Thing.cod a33, vw Hand.cod a34, vw Thing.cod a35, vw Command.cod a36, li .i64 a37, li .i64 a38, li .i64 a39, li .i64 a40, li .i64 a41, vw Event.cod a42, li .i64 a43, li .i64 a44, lb a45, li .i64 a46, li .i64 a47, li .i64 a48]] = some ((F38s0_e a0 a1 a2 a3 a4 a5 a6 a7 a8 a9 a10 a11 a12 a13 a14 a15 a16 a17 a18 a19 a20 a21 a22 a23 a24 a25 a26 a27 a28 a29 a30 a31 a32 a33 a34 a35 a36 a37 a38 a39 a40 a41 a42 a43 a44 a45 a46 a47 a48) r) := by
 refine fn_to (D := D) (n := n + 8) (nt := 41) (rs := pc38_r) (c := p38c5) (L := [(0, qp 1000000 0)]) (M := [(1000000, some (.cells [lj a0, lj a1, lj a2, .val (.pointer none), lj a3, lj a4, lj a5, lj a6, lj a7, lj a8, lj a9, lj a10, lj a11, lj a12, lj a13, ls a14, lj a15, ls a16, lj a17, ls a18, lj a19, ls a20, lj a21, ls a22, lj a23, lj a24, lj a25, lj a26, lj a27, lj a28, lj a29, lj a30, lj a31, lj a32, vw Thing.cod a33, vw Hand.cod a34, vw Thing.cod a35, vw Command.cod a36, lj a37, lj a38, lj a39, lj a40, lj a41, vw Event.cod a42, lj a43, lj a44, lb a45, lj a46, lj a47, lj a48]))]) (k := 1) rfl rfl rfl rfl rfl rfl rfl ?_
 unfold F38s0
 refine Sim.sr 8 (W47 a2) [(1000000, some (.cells [lj a0, lj a1, lj (iw .i64 (a2 + 1)), .val (.pointer none), lj a3, lj a4, lj a5, lj a6, lj a7, lj a8, lj a9, lj a10, lj a11, lj a12, lj a13, ls a14, lj a15, ls a16, lj a17, ls a18, lj a19, ls a20, lj a21, ls a22, lj a23, lj a24, lj a25, lj a26, lj a27, lj a28, lj a29, lj a30, lj a31, lj a32, vw Thing.cod a33, vw Hand.cod a34, vw Thing.cod a35, vw Command.cod a36, lj a37, lj a38, lj a39, lj a40, lj a41, vw Event.cod a42, lj a43, lj a44, lb a45, lj a46, lj a47, lj a48]))] (.st 13 ([(21, qj a1), (20, qp 1000000 1), (19, qp 1000000 0), (18, qp 1000000 0), (17, qj (iw .i64 (a2 + 1))), (16, qp 1000000 2), (15, qp 1000000 0), (14, qp 1000000 0), (13, qj a0)] ++ rp [12, 11, 10, 9] (qp 1000000 0)) [] (.bn ⟨some 22, .gcall false false W19 [[], [], []] 13 [13, 17, 21], none, [(13, .imm), (17, .imm), (21, .imm)]⟩ (fun r1 => [(22, qp 300000 0)]) (fun r1 => (W11 r1)) (fun r1 hr => pe (eff_gcall (ks := []) (rks := []) (new := [300000, 300001, 300002]) (ARGS := [qj a0, qj (iw .i64 (a2 + 1)), qj a1]) (args1 := [qj a0, qj (iw .i64 (a2 + 1)), qj a1]) (args2 := [qj a0, qj (iw .i64 (a2 + 1)), qj a1]) (os := []) (os' := [.cells (W17 r1), .arr 58 Event.cod.sz 0 (r1.log_).length (getOf Event.cod r1.log_), .map (mapOf Key.cells Event.cod r1.wait)]) (os1 := [.cells (W17 r1), .arr 58 Event.cod.sz 0 (r1.log_).length (getOf Event.cod r1.log_), .map (mapOf Key.cells Event.cod r1.wait)]) (res := qp 1000000 0) (res1 := qp 1000000 0) (r := qp 300000 0) (N := (W11 r1)) (by kernel_rfl) (readA_ow (readA_keep (by kernel_rfl) (readA_keep (by kernel_rfl) (readA_keep (by kernel_rfl) (readA_nil))))) (by kernel_rfl) (by kernel_rfl) (by kernel_rfl) (by kernel_rfl) (F13_ok _ _ _ _ _ hr) (by kernel_rfl) (by kernel_rfl) (by kernel_rfl) rfl (by kernel_rfl) (by kernel_rfl) (by kernel_rfl))) (fun r1 => ?_)))
 exact SimI.rd 3 [(24, qp 1000000 3), (23, qp 1000000 0)] [(1000000, some (.cells [lj a0, lj a1, lj (iw .i64 (a2 + 1)), .ptr 300000 0, lj a3, lj a4, lj a5, lj a6, lj a7, lj a8, lj a9, lj a10, lj a11, lj a12, lj a13, ls a14, lj a15, ls a16, lj a17, ls a18, lj a19, ls a20, lj a21, ls a22, lj a23, lj a24, lj a25, lj a26, lj a27, lj a28, lj a29, lj a30, lj a31, lj a32, vw Thing.cod a33, vw Hand.cod a34, vw Thing.cod a35, vw Command.cod a36, lj a37, lj a38, lj a39, lj a40, lj a41, vw Event.cod a42, lj a43, lj a44, lb a45, lj a46, lj a47, lj a48]))] (.thenN (.region0 (.rd 21 (W32 ++ rp [29, 28, 27, 26, 25] (qp 1000000 0)) [(1000000, some (.cells [lj a0, lj a1, lj (iw .i64 (a2 + 1)), .ptr 300000 0, lj 0, lj 0, lj 0, lj 0, lj 0, lj 0, lj 0, lj 0, lj 0, lj 0, lj 0, ls be, lj 0, ls be, lj 0, ls be, lj 0, ls be, lj 0, ls be, lj 0, lj 0, lj 0, lj 0, lj 0, lj 0, lj 0, lj 0, lj 0, lj 0, vw Thing.cod ([] : List Thing), vw Hand.cod ([] : List Hand), vw Thing.cod ([] : List Thing), vw Command.cod ([] : List Command), lj 0, lj 0, lj 0, lj 0, lj 0, vw Event.cod ([] : List Event), lj 0, lj 0, lb false, lj 0, lj 0, lj 0])), (1000000, some (.cells [lj a0, lj a1, lj (iw .i64 (a2 + 1)), .ptr 300000 0, lj 0, lj 0, lj 0, lj 0, lj 0, lj 0, lj 0, lj 0, lj 0, lj 0, lj 0, ls be, lj 0, ls be, lj 0, ls be, lj 0, ls be, lj 0, ls be, lj 0, lj 0, lj 0, lj 0, lj 0, lj 0, lj 0, lj 0, lj 0, lj 0, vw Thing.cod ([] : List Thing), vw Hand.cod ([] : List Hand), vw Thing.cod ([] : List Thing), vw Command.cod ([] : List Command), lj 0, lj 0, lj 0, lj 0, lj 0, vw Event.cod ([] : List Event), lj 0, lj 0, lb false, lj 0, lj 0, lj a48])), (1000000, some (.cells [lj a0, lj a1, lj (iw .i64 (a2 + 1)), .ptr 300000 0, lj 0, lj 0, lj 0, lj 0, lj 0, lj 0, lj 0, lj 0, lj 0, lj 0, lj 0, ls be, lj 0, ls be, lj 0, ls be, lj 0, ls be, lj 0, ls be, lj 0, lj 0, lj 0, lj 0, lj 0, lj 0, lj 0, lj 0, lj 0, lj 0, vw Thing.cod ([] : List Thing), vw Hand.cod ([] : List Hand), vw Thing.cod ([] : List Thing), vw Command.cod ([] : List Command), lj 0, lj 0, lj 0, lj 0, lj 0, vw Event.cod ([] : List Event), lj 0, lj 0, lb false, lj 0, lj a47, lj a48])), (1000000, some (.cells [lj a0, lj a1, lj (iw .i64 (a2 + 1)), .ptr 300000 0, lj 0, lj 0, lj 0, lj 0, lj 0, lj 0, lj 0, lj 0, lj 0, lj 0, lj 0, ls be, lj 0, ls be, lj 0, ls be, lj 0, ls be, lj 0, ls be, lj 0, lj 0, lj 0, lj 0, lj 0, lj 0, lj 0, lj 0, lj 0, lj 0, vw Thing.cod ([] : List Thing), vw Hand.cod ([] : List Hand), vw Thing.cod ([] : List Thing), vw Command.cod ([] : List Command), lj 0, lj 0, lj 0, lj 0, lj 0, vw Event.cod ([] : List Event), lj 0, lj 0, lb false, lj a46, lj a47, lj a48])), (1000000, some (.cells [lj a0, lj a1, lj (iw .i64 (a2 + 1)), .ptr 300000 0, lj 0, lj 0, lj 0, lj 0, lj 0, lj 0, lj 0, lj 0, lj 0, lj 0, lj 0, ls be, lj 0, ls be, lj 0, ls be, lj 0, ls be, lj 0, ls be, lj 0, lj 0, lj 0, lj 0, lj 0, lj 0, lj 0, lj 0, lj 0, lj 0, vw Thing.cod ([] : List Thing), vw Hand.cod ([] : List Hand), vw Thing.cod ([] : List Thing), vw Command.cod ([] : List Command), lj 0, lj 0, lj 0, lj 0, lj 0, vw Event.cod ([] : List Event), lj 0, lj 0, lb a45, lj a46, lj a47, lj a48]))] (.finN (by kernel_rfl)))))
def F38s1_e (a0 : (List Event)) (a1 a2 a3 a4 a5 a6 a7 a8 a9 a10 a11 a12 a13 a14 : Int) (a15 : ByteArray) (a16 : Int) (a17 : ByteArray) (a18 : Int) (a19 : ByteArray) (a20 : Int) (a21 : ByteArray) (a22 : Int) (a23 : ByteArray) (a24 a25 a26 a27 a28 a29 a30 a31 a32 a33 : Int) (a34 : (List Thing)) (a35 : (List Hand)) (a36 : (List Thing)) (a37 : (List Command)) (a38 a39 a40 a41 a42 : Int) (a43 : (List Event)) (a44 a45 : Int) (a46 : Bool) (a47 a48 a49 a50 a51 a52 a53 a54 : Int) (a55 : (List Thing)) (a56 : (List (Key × (List Event)))) : (Int × (List Thing) × (List Hand) × (List Thing) × (List Command) × (List Event) × Int × Int × Int × Int × Int × (List Thing) × (List Event) × (List (Key × (List Event)))) → PV × List Ob := fun r => (.tup [], [.cells [li .i64 a1, li .i64 a2, li .i64 r.1, .ptr 1000004 0, li .i64 0, li .i64 0, li .i64 0, li .i64 0, li .i64 0, li .i64 0, li .i64 0, li .i64 0, li .i64 0, li .i64 0, li .i64 0, ls ByteArray.empty, li .i64 0, ls ByteArray.empty, li .i64 0, ls ByteArray.empty, li .i64 0, ls ByteArray.empty, li .i64 0, ls ByteArray.empty, li .i64 0, li .i64 0, li .i64 0, li .i64 0, li .i64 0, li .i64 0, li .i64 0, li .i64 0, li .i64 0, li .i64 0, vw Thing.cod r.2.1, vw Hand.cod r.2.2.1, vw Thing.cod r.2.2.2.1, vw Command.cod r.2.2.2.2.1, li .i64 0, li .i64 0, li .i64 0, li .i64 0, li .i64 0, vw Event.cod r.2.2.2.2.2.1, li .i64 0, li .i64 0, lb false, li .i64 0, li .i64 0, li .i64 0], .cells [li .i64 a50, li .i64 a51, li .i64 a52, li .i64 a53, li .i64 a54, vw Thing.cod a55, .osl 1000002 1 0 (a0).length, .mp 1000003], .arr 58 Event.cod.sz 1 (a0).length (getOf Event.cod a0), .map (mapOf Key.cells Event.cod a56), .cells [li .i64 r.2.2.2.2.2.2.1, li .i64 r.2.2.2.2.2.2.2.1, li .i64 r.2.2.2.2.2.2.2.2.1, li .i64 r.2.2.2.2.2.2.2.2.2.1, li .i64 r.2.2.2.2.2.2.2.2.2.2.1, vw Thing.cod r.2.2.2.2.2.2.2.2.2.2.2.1, .osl 1000005 0 0 (r.2.2.2.2.2.2.2.2.2.2.2.2.1).length, .mp 1000006], .arr 58 Event.cod.sz 0 (r.2.2.2.2.2.2.2.2.2.2.2.2.1).length (getOf Event.cod r.2.2.2.2.2.2.2.2.2.2.2.2.1), .map (mapOf Key.cells Event.cod r.2.2.2.2.2.2.2.2.2.2.2.2.2)])
def F38s1 (n : Nat) (a0 : (List Event)) (a1 a2 a3 a4 a5 a6 a7 a8 a9 a10 a11 a12 a13 a14 : Int) (a15 : ByteArray) (a16 : Int) (a17 : ByteArray) (a18 : Int) (a19 : ByteArray) (a20 : Int) (a21 : ByteArray) (a22 : Int) (a23 : ByteArray) (a24 a25 a26 a27 a28 a29 a30 a31 a32 a33 : Int) (a34 : (List Thing)) (a35 : (List Hand)) (a36 : (List Thing)) (a37 : (List Command)) (a38 a39 a40 a41 a42 : Int) (a43 : (List Event)) (a44 a45 : Int) (a46 : Bool) (a47 a48 a49 a50 a51 a52 a53 a54 : Int) (a55 : (List Thing)) (a56 : (List (Key × (List Event)))) : Option (Int × (List Thing) × (List Hand) × (List Thing) × (List Command) × (List Event) × Int × Int × Int × Int × Int × (List Thing) × (List Event) × (List (Key × (List Event)))) :=
 (F13 n a1 (IntKind.wrap .i64 (a3 + 1)) a2).bind fun (r1 : View) =>
 some ((IntKind.wrap .i64 (a3 + 1)), ([] : List Thing), ([] : List Hand), ([] : List Thing), ([] : List Command), ([] : List Event), r1.client, r1.session, r1.n, r1.beat, r1.start, r1.things, r1.log_, r1.wait)
theorem F38s1_ok (n : Nat) (a0 : (List Event)) (a1 a2 a3 a4 a5 a6 a7 a8 a9 a10 a11 a12 a13 a14 : Int) (a15 : ByteArray) (a16 : Int) (a17 : ByteArray) (a18 : Int) (a19 : ByteArray) (a20 : Int) (a21 : ByteArray) (a22 : Int) (a23 : ByteArray) (a24 a25 a26 a27 a28 a29 a30 a31 a32 a33 : Int) (a34 : (List Thing)) (a35 : (List Hand)) (a36 : (List Thing)) (a37 : (List Command)) (a38 a39 a40 a41 a42 : Int) (a43 : (List Event)) (a44 a45 : Int) (a46 : Bool) (a47 a48 a49 a50 a51 a52 a53 a54 : Int) (a55 : (List Thing)) (a56 : (List (Key × (List Event)))) : ∀ r, F38s1 n a0 a1 a2 a3 a4 a5 a6 a7 a8 a9 a10 a11 a12 a13 a14 a15 a16 a17 a18 a19 a20 a21 a22 a23 a24 a25 a26 a27 a28 a29 a30 a31 a32 a33 a34 a35 a36 a37 a38 a39 a40 a41 a42 a43 a44 a45 a46 a47 a48 a49 a50 a51 a52 a53 a54 a55 a56 = some r → D 38 [.one (.ptr 1000000 0)] [.cells [li .i64 a1, li .i64 a2, li .i64 a3, .ptr 1000001 0, li .i64 a4, li .i64 a5, li .i64 a6, li .i64 a7, li .i64 a8, li .i64 a9, li .i64 a10, li .i64 a11, li .i64 a12, li .i64 a13, li .i64 a14, ls a15, li .i64 a16, ls a17, li .i64 a18, ls a19, li .i64 a20, ls a21, li .i64 a22, ls a23, li .i64 a24, li .i64 a25, li .i64 a26, li .i64 a27, li .i64 a28, li .i64 a29, li .i64 a30, li .i64 a31, li .i64 a32, li .i64 a33, vw Thing.cod a34, vw Hand.cod a35, vw Thing.cod a36, vw Command.cod a37, li .i64 a38, li .i64 a39, li .i64 a40, li .i64 a41, li .i64 a42, vw Event.cod a43, li .i64 a44, li .i64 a45, lb a46, li .i64 a47, li .i64 a48, li .i64 a49], .cells [li .i64 a50, li .i64 a51, li .i64 a52, li .i64 a53, li .i64 a54, vw Thing.cod a55, .osl 1000002 0 0 (a0).length, .mp 1000003], .arr 58 Event.cod.sz 0 (a0).length (getOf Event.cod a0), .map (mapOf Key.cells Event.cod a56)] = some ((F38s1_e a0 a1 a2 a3 a4 a5 a6 a7 a8 a9 a10 a11 a12 a13 a14 a15 a16 a17 a18 a19 a20 a21 a22 a23 a24 a25 a26 a27 a28 a29 a30 a31 a32 a33 a34 a35 a36 a37 a38 a39 a40 a41 a42 a43 a44 a45 a46 a47 a48 a49 a50 a51 a52 a53 a54 a55 a56) r) := by
 refine fn_to (D := D) (n := n + 8) (nt := 41) (rs := pc38_r) (c := p38c5) (L := [(0, qp 1000000 0)]) (M := [(1000000, some (.cells [lj a1, lj a2, lj a3, .ptr 1000001 0, lj a4, lj a5, lj a6, lj a7, lj a8, lj a9, lj a10, lj a11, lj a12, lj a13, lj a14, ls a15, lj a16, ls a17, lj a18, ls a19, lj a20, ls a21, lj a22, ls a23, lj a24, lj a25, lj a26, lj a27, lj a28, lj a29, lj a30, lj a31, lj a32, lj a33, vw Thing.cod a34, vw Hand.cod a35, vw Thing.cod a36, vw Command.cod a37, lj a38, lj a39, lj a40, lj a41, lj a42, vw Event.cod a43, lj a44, lj a45, lb a46, lj a47, lj a48, lj a49])), (1000001, some (.cells [lj a50, lj a51, lj a52, lj a53, lj a54, vw Thing.cod a55, .osl 1000002 0 0 (a0).length, .mp 1000003])), (1000002, some (.arr 58 Event.cod.sz 0 (a0).length (getOf Event.cod a0))), (1000003, some (.map (mapOf Key.cells Event.cod a56)))]) (k := 4) rfl rfl rfl rfl rfl rfl rfl ?_
 unfold F38s1
 refine Sim.sr 8 (W47 a3) [(1000000, some (.cells [lj a1, lj a2, lj (iw .i64 (a3 + 1)), .ptr 1000001 0, lj a4, lj a5, lj a6, lj a7, lj a8, lj a9, lj a10, lj a11, lj a12, lj a13, lj a14, ls a15, lj a16, ls a17, lj a18, ls a19, lj a20, ls a21, lj a22, ls a23, lj a24, lj a25, lj a26, lj a27, lj a28, lj a29, lj a30, lj a31, lj a32, lj a33, vw Thing.cod a34, vw Hand.cod a35, vw Thing.cod a36, vw Command.cod a37, lj a38, lj a39, lj a40, lj a41, lj a42, vw Event.cod a43, lj a44, lj a45, lb a46, lj a47, lj a48, lj a49]))] (.st 13 ([(21, qj a2), (20, qp 1000000 1), (19, qp 1000000 0), (18, qp 1000000 0), (17, qj (iw .i64 (a3 + 1))), (16, qp 1000000 2), (15, qp 1000000 0), (14, qp 1000000 0), (13, qj a1)] ++ rp [12, 11, 10, 9] (qp 1000000 0)) [] (.bn ⟨some 22, .gcall false false W19 [[], [], []] 13 [13, 17, 21], none, [(13, .imm), (17, .imm), (21, .imm)]⟩ (fun r1 => [(22, qp 300000 0)]) (fun r1 => (W11 r1)) (fun r1 hr => pe (eff_gcall (ks := []) (rks := []) (new := [300000, 300001, 300002]) (ARGS := [qj a1, qj (iw .i64 (a3 + 1)), qj a2]) (args1 := [qj a1, qj (iw .i64 (a3 + 1)), qj a2]) (args2 := [qj a1, qj (iw .i64 (a3 + 1)), qj a2]) (os := []) (os' := [.cells (W17 r1), .arr 58 Event.cod.sz 0 (r1.log_).length (getOf Event.cod r1.log_), .map (mapOf Key.cells Event.cod r1.wait)]) (os1 := [.cells (W17 r1), .arr 58 Event.cod.sz 0 (r1.log_).length (getOf Event.cod r1.log_), .map (mapOf Key.cells Event.cod r1.wait)]) (res := qp 1000000 0) (res1 := qp 1000000 0) (r := qp 300000 0) (N := (W11 r1)) (by kernel_rfl) (readA_ow (readA_keep (by kernel_rfl) (readA_keep (by kernel_rfl) (readA_keep (by kernel_rfl) (readA_nil))))) (by kernel_rfl) (by kernel_rfl) (by kernel_rfl) (by kernel_rfl) (F13_ok _ _ _ _ _ hr) (by kernel_rfl) (by kernel_rfl) (by kernel_rfl) rfl (by kernel_rfl) (by kernel_rfl) (by kernel_rfl))) (fun r1 => ?_)))
 exact SimI.rd 3 [(24, qp 1000000 3), (23, qp 1000000 0)] [(1000000, some (.cells [lj a1, lj a2, lj (iw .i64 (a3 + 1)), .ptr 300000 0, lj a4, lj a5, lj a6, lj a7, lj a8, lj a9, lj a10, lj a11, lj a12, lj a13, lj a14, ls a15, lj a16, ls a17, lj a18, ls a19, lj a20, ls a21, lj a22, ls a23, lj a24, lj a25, lj a26, lj a27, lj a28, lj a29, lj a30, lj a31, lj a32, lj a33, vw Thing.cod a34, vw Hand.cod a35, vw Thing.cod a36, vw Command.cod a37, lj a38, lj a39, lj a40, lj a41, lj a42, vw Event.cod a43, lj a44, lj a45, lb a46, lj a47, lj a48, lj a49]))] (.thenN (.region0 (.rd 21 (W32 ++ rp [29, 28, 27, 26, 25] (qp 1000000 0)) [(1000000, some (.cells [lj a1, lj a2, lj (iw .i64 (a3 + 1)), .ptr 300000 0, lj 0, lj 0, lj 0, lj 0, lj 0, lj 0, lj 0, lj 0, lj 0, lj 0, lj 0, ls be, lj 0, ls be, lj 0, ls be, lj 0, ls be, lj 0, ls be, lj 0, lj 0, lj 0, lj 0, lj 0, lj 0, lj 0, lj 0, lj 0, lj 0, vw Thing.cod ([] : List Thing), vw Hand.cod ([] : List Hand), vw Thing.cod ([] : List Thing), vw Command.cod ([] : List Command), lj 0, lj 0, lj 0, lj 0, lj 0, vw Event.cod ([] : List Event), lj 0, lj 0, lb false, lj 0, lj 0, lj 0])), (1000000, some (.cells [lj a1, lj a2, lj (iw .i64 (a3 + 1)), .ptr 300000 0, lj 0, lj 0, lj 0, lj 0, lj 0, lj 0, lj 0, lj 0, lj 0, lj 0, lj 0, ls be, lj 0, ls be, lj 0, ls be, lj 0, ls be, lj 0, ls be, lj 0, lj 0, lj 0, lj 0, lj 0, lj 0, lj 0, lj 0, lj 0, lj 0, vw Thing.cod ([] : List Thing), vw Hand.cod ([] : List Hand), vw Thing.cod ([] : List Thing), vw Command.cod ([] : List Command), lj 0, lj 0, lj 0, lj 0, lj 0, vw Event.cod ([] : List Event), lj 0, lj 0, lb false, lj 0, lj 0, lj a49])), (1000000, some (.cells [lj a1, lj a2, lj (iw .i64 (a3 + 1)), .ptr 300000 0, lj 0, lj 0, lj 0, lj 0, lj 0, lj 0, lj 0, lj 0, lj 0, lj 0, lj 0, ls be, lj 0, ls be, lj 0, ls be, lj 0, ls be, lj 0, ls be, lj 0, lj 0, lj 0, lj 0, lj 0, lj 0, lj 0, lj 0, lj 0, lj 0, vw Thing.cod ([] : List Thing), vw Hand.cod ([] : List Hand), vw Thing.cod ([] : List Thing), vw Command.cod ([] : List Command), lj 0, lj 0, lj 0, lj 0, lj 0, vw Event.cod ([] : List Event), lj 0, lj 0, lb false, lj 0, lj a48, lj a49])), (1000000, some (.cells [lj a1, lj a2, lj (iw .i64 (a3 + 1)), .ptr 300000 0, lj 0, lj 0, lj 0, lj 0, lj 0, lj 0, lj 0, lj 0, lj 0, lj 0, lj 0, ls be, lj 0, ls be, lj 0, ls be, lj 0, ls be, lj 0, ls be, lj 0, lj 0, lj 0, lj 0, lj 0, lj 0, lj 0, lj 0, lj 0, lj 0, vw Thing.cod ([] : List Thing), vw Hand.cod ([] : List Hand), vw Thing.cod ([] : List Thing), vw Command.cod ([] : List Command), lj 0, lj 0, lj 0, lj 0, lj 0, vw Event.cod ([] : List Event), lj 0, lj 0, lb false, lj a47, lj a48, lj a49])), (1000000, some (.cells [lj a1, lj a2, lj (iw .i64 (a3 + 1)), .ptr 300000 0, lj 0, lj 0, lj 0, lj 0, lj 0, lj 0, lj 0, lj 0, lj 0, lj 0, lj 0, ls be, lj 0, ls be, lj 0, ls be, lj 0, ls be, lj 0, ls be, lj 0, lj 0, lj 0, lj 0, lj 0, lj 0, lj 0, lj 0, lj 0, lj 0, vw Thing.cod ([] : List Thing), vw Hand.cod ([] : List Hand), vw Thing.cod ([] : List Thing), vw Command.cod ([] : List Command), lj 0, lj 0, lj 0, lj 0, lj 0, vw Event.cod ([] : List Event), lj 0, lj 0, lb a46, lj a47, lj a48, lj a49]))] (.finN (by kernel_rfl)))))
def F27_e : Client → PV × List Ob := fun r => (.one (.ptr 1000000 0), [.cells [li .i64 r.id_, li .i64 r.n, li .i64 r.session, .ptr 1000001 0, li .i64 r.asked.From, li .i64 r.asked.To, li .i64 r.asked.Kind, li .i64 r.asked.Seq, li .i64 r.asked.C.Kind, li .i64 r.asked.C.ID, li .i64 r.asked.C.Which, li .i64 r.asked.C.To, li .i64 r.asked.C.At.X, li .i64 r.asked.C.At.Y, li .i64 r.asked.C.F.a0.N, ls r.asked.C.F.a0.Text, li .i64 r.asked.C.F.a1.N, ls r.asked.C.F.a1.Text, li .i64 r.asked.C.F.a2.N, ls r.asked.C.F.a2.Text, li .i64 r.asked.C.F.a3.N, ls r.asked.C.F.a3.Text, li .i64 r.asked.C.Value.N, ls r.asked.C.Value.Text, li .i64 r.asked.C.Client, li .i64 r.asked.C.Session, li .i64 r.asked.C.Rect.X0, li .i64 r.asked.C.Rect.Y0, li .i64 r.asked.C.Rect.X1, li .i64 r.asked.C.Rect.Y1, li .i64 r.asked.E, li .i64 r.asked.ID, li .i64 r.asked.N.From, li .i64 r.asked.N.Beat, vw Thing.cod r.asked.N.Moved, vw Hand.cod r.asked.N.Hands, vw Thing.cod r.asked.N.Given, vw Command.cod r.asked.N.Watch, li .i64 r.asked.F.From, li .i64 r.asked.F.Client, li .i64 r.asked.F.Session, li .i64 r.asked.F.Start, li .i64 r.asked.F.Beat, vw Event.cod r.asked.F.Events, li .i64 r.asked.Session, li .i64 r.asked.Beat, lb r.busy, li .i64 r.seq, li .i64 r.thing, li .i64 r.e], .cells [li .i64 r.v.client, li .i64 r.v.session, li .i64 r.v.n, li .i64 r.v.beat, li .i64 r.v.start, vw Thing.cod r.v.things, .osl 1000002 0 0 (r.v.log_).length, .mp 1000003], .arr 58 Event.cod.sz 0 (r.v.log_).length (getOf Event.cod r.v.log_), .map (mapOf Key.cells Event.cod r.v.wait)])
def F27 (n : Nat) (a0 a1 : Int) : Option Client :=
 (F38s0 n (imin (imax a0 0) 3) (imin (imax a1 1) 4) 0 0 0 0 0 0 0 0 0 0 0 0 ByteArray.empty 0 ByteArray.empty 0 ByteArray.empty 0 ByteArray.empty 0 ByteArray.empty 0 0 0 0 0 0 0 0 0 0 ([] : List Thing) ([] : List Hand) ([] : List Thing) ([] : List Command) 0 0 0 0 0 ([] : List Event) 0 0 false 0 0 0).bind fun (r1 : (Int × (List Thing) × (List Hand) × (List Thing) × (List Command) × (List Event) × Int × Int × Int × Int × Int × (List Thing) × (List Event) × (List (Key × (List Event))))) =>
 some (Client.mk (imin (imax a0 0) 3) (imin (imax a1 1) 4) r1.1 (View.mk r1.2.2.2.2.2.2.1 r1.2.2.2.2.2.2.2.1 r1.2.2.2.2.2.2.2.2.1 r1.2.2.2.2.2.2.2.2.2.1 r1.2.2.2.2.2.2.2.2.2.2.1 r1.2.2.2.2.2.2.2.2.2.2.2.1 r1.2.2.2.2.2.2.2.2.2.2.2.2.1 r1.2.2.2.2.2.2.2.2.2.2.2.2.2) (Packet.mk 0 0 0 0 (Command.mk 0 0 0 0 (Point.mk 0 0) (A4.mk (Field.mk 0 ByteArray.empty) (Field.mk 0 ByteArray.empty) (Field.mk 0 ByteArray.empty) (Field.mk 0 ByteArray.empty)) (Field.mk 0 ByteArray.empty) 0 0 (Rect.mk 0 0 0 0)) 0 0 (Note.mk 0 0 r1.2.1 r1.2.2.1 r1.2.2.2.1 r1.2.2.2.2.1) (Frame.mk 0 0 0 0 0 r1.2.2.2.2.2.1) 0 0) false 0 0 0)
theorem F27_ok (n : Nat) (a0 a1 : Int) : ∀ r, F27 n a0 a1 = some r → D 27 [.one (li .i64 a0), .one (li .i64 a1)] [] = some (F27_e r) := by
 refine fn_to (D := D) (n := n + 8) (nt := 17) (rs := pc27_r) (c := p27c9) (L := [(0, qj a0), (1, qj a1)]) (M := []) (k := 0) rfl rfl rfl rfl rfl rfl rfl ?_
 unfold F27
 refine Sim.sr 1 [(4, .one (.val (.pointer none)))] [] (.sr 9 [(5, qp 13 0), (13, qp 13 0), (12, .agg (W9 a0 a1)), (11, qj (imin (imax a1 1) 4)), (10, qj (imax a1 1)), (9, qj a1), (8, qj (imin (imax a0 0) 3)), (7, qj (imax a0 0)), (6, qj a0)] [(13, some (.cells (W9 a0 a1)))] (.st 1 [(14, qp 13 0)] [] (.bn ⟨some 15, .gcall false false [13, 300000, 300001, 300002, 300003, 300004, 300005, 300006, 300007, 300008, 300009, 300010, 300011, 300012, 300013, 300014, 300015, 300016, 300017, 300018, 300019, 300020, 300021, 300022, 300023] [[]] 38 [14], none, []⟩ (fun r1 => [(15, tz)]) (fun r1 => [(13, some (.cells [lj (imin (imax a0 0) 3), lj (imin (imax a1 1) 4), lj r1.1, .ptr 300000 0, lj 0, lj 0, lj 0, lj 0, lj 0, lj 0, lj 0, lj 0, lj 0, lj 0, lj 0, ls be, lj 0, ls be, lj 0, ls be, lj 0, ls be, lj 0, ls be, lj 0, lj 0, lj 0, lj 0, lj 0, lj 0, lj 0, lj 0, lj 0, lj 0, vw Thing.cod r1.2.1, vw Hand.cod r1.2.2.1, vw Thing.cod r1.2.2.2.1, vw Command.cod r1.2.2.2.2.1, lj 0, lj 0, lj 0, lj 0, lj 0, vw Event.cod r1.2.2.2.2.2.1, lj 0, lj 0, lb false, lj 0, lj 0, lj 0])), (300000, some (.cells [lj r1.2.2.2.2.2.2.1, lj r1.2.2.2.2.2.2.2.1, lj r1.2.2.2.2.2.2.2.2.1, lj r1.2.2.2.2.2.2.2.2.2.1, lj r1.2.2.2.2.2.2.2.2.2.2.1, vw Thing.cod r1.2.2.2.2.2.2.2.2.2.2.2.1, .osl 300001 0 0 (r1.2.2.2.2.2.2.2.2.2.2.2.2.1).length, .mp 300002])), (300001, some (.arr 58 Event.cod.sz 0 (r1.2.2.2.2.2.2.2.2.2.2.2.2.1).length (getOf Event.cod r1.2.2.2.2.2.2.2.2.2.2.2.2.1))), (300002, some (.map (mapOf Key.cells Event.cod r1.2.2.2.2.2.2.2.2.2.2.2.2.2)))]) (fun r1 hr => pe (eff_gcall (ks := [13]) (rks := []) (new := [300000, 300001, 300002]) (ARGS := [qp 13 0]) (args1 := [qp 13 0]) (args2 := [qp 1000000 0]) (os := [.cells (W9 a0 a1)]) (os' := [.cells [lj (imin (imax a0 0) 3), lj (imin (imax a1 1) 4), lj r1.1, .ptr 1000001 0, lj 0, lj 0, lj 0, lj 0, lj 0, lj 0, lj 0, lj 0, lj 0, lj 0, lj 0, ls be, lj 0, ls be, lj 0, ls be, lj 0, ls be, lj 0, ls be, lj 0, lj 0, lj 0, lj 0, lj 0, lj 0, lj 0, lj 0, lj 0, lj 0, vw Thing.cod r1.2.1, vw Hand.cod r1.2.2.1, vw Thing.cod r1.2.2.2.1, vw Command.cod r1.2.2.2.2.1, lj 0, lj 0, lj 0, lj 0, lj 0, vw Event.cod r1.2.2.2.2.2.1, lj 0, lj 0, lb false, lj 0, lj 0, lj 0], .cells [lj r1.2.2.2.2.2.2.1, lj r1.2.2.2.2.2.2.2.1, lj r1.2.2.2.2.2.2.2.2.1, lj r1.2.2.2.2.2.2.2.2.2.1, lj r1.2.2.2.2.2.2.2.2.2.2.1, vw Thing.cod r1.2.2.2.2.2.2.2.2.2.2.2.1, .osl 1000002 0 0 (r1.2.2.2.2.2.2.2.2.2.2.2.2.1).length, .mp 1000003], .arr 58 Event.cod.sz 0 (r1.2.2.2.2.2.2.2.2.2.2.2.2.1).length (getOf Event.cod r1.2.2.2.2.2.2.2.2.2.2.2.2.1), .map (mapOf Key.cells Event.cod r1.2.2.2.2.2.2.2.2.2.2.2.2.2)]) (os1 := [.cells [lj (imin (imax a0 0) 3), lj (imin (imax a1 1) 4), lj r1.1, .ptr 1000001 0, lj 0, lj 0, lj 0, lj 0, lj 0, lj 0, lj 0, lj 0, lj 0, lj 0, lj 0, ls be, lj 0, ls be, lj 0, ls be, lj 0, ls be, lj 0, ls be, lj 0, lj 0, lj 0, lj 0, lj 0, lj 0, lj 0, lj 0, lj 0, lj 0, vw Thing.cod r1.2.1, vw Hand.cod r1.2.2.1, vw Thing.cod r1.2.2.2.1, vw Command.cod r1.2.2.2.2.1, lj 0, lj 0, lj 0, lj 0, lj 0, vw Event.cod r1.2.2.2.2.2.1, lj 0, lj 0, lb false, lj 0, lj 0, lj 0], .cells [lj r1.2.2.2.2.2.2.1, lj r1.2.2.2.2.2.2.2.1, lj r1.2.2.2.2.2.2.2.2.1, lj r1.2.2.2.2.2.2.2.2.2.1, lj r1.2.2.2.2.2.2.2.2.2.2.1, vw Thing.cod r1.2.2.2.2.2.2.2.2.2.2.2.1, .osl 1000002 0 0 (r1.2.2.2.2.2.2.2.2.2.2.2.2.1).length, .mp 1000003], .arr 58 Event.cod.sz 0 (r1.2.2.2.2.2.2.2.2.2.2.2.2.1).length (getOf Event.cod r1.2.2.2.2.2.2.2.2.2.2.2.2.1), .map (mapOf Key.cells Event.cod r1.2.2.2.2.2.2.2.2.2.2.2.2.2)]) (res := tz) (res1 := tz) (r := tz) (N := [(13, some (.cells [lj (imin (imax a0 0) 3), lj (imin (imax a1 1) 4), lj r1.1, .ptr 300000 0, lj 0, lj 0, lj 0, lj 0, lj 0, lj 0, lj 0, lj 0, lj 0, lj 0, lj 0, ls be, lj 0, ls be, lj 0, ls be, lj 0, ls be, lj 0, ls be, lj 0, lj 0, lj 0, lj 0, lj 0, lj 0, lj 0, lj 0, lj 0, lj 0, vw Thing.cod r1.2.1, vw Hand.cod r1.2.2.1, vw Thing.cod r1.2.2.2.1, vw Command.cod r1.2.2.2.2.1, lj 0, lj 0, lj 0, lj 0, lj 0, vw Event.cod r1.2.2.2.2.2.1, lj 0, lj 0, lb false, lj 0, lj 0, lj 0])), (300000, some (.cells [lj r1.2.2.2.2.2.2.1, lj r1.2.2.2.2.2.2.2.1, lj r1.2.2.2.2.2.2.2.2.1, lj r1.2.2.2.2.2.2.2.2.2.1, lj r1.2.2.2.2.2.2.2.2.2.2.1, vw Thing.cod r1.2.2.2.2.2.2.2.2.2.2.2.1, .osl 300001 0 0 (r1.2.2.2.2.2.2.2.2.2.2.2.2.1).length, .mp 300002])), (300001, some (.arr 58 Event.cod.sz 0 (r1.2.2.2.2.2.2.2.2.2.2.2.2.1).length (getOf Event.cod r1.2.2.2.2.2.2.2.2.2.2.2.2.1))), (300002, some (.map (mapOf Key.cells Event.cod r1.2.2.2.2.2.2.2.2.2.2.2.2.2)))]) (by kernel_rfl) (readA_ow (readA_keep (by kernel_rfl) (readA_nil))) (by kernel_rfl) (by kernel_rfl) (by kernel_rfl) (by kernel_rfl) (F38s0_ok _ _ _ _ _ _ _ _ _ _ _ _ _ _ _ _ _ _ _ _ _ _ _ _ _ _ _ _ _ _ _ _ _ _ _ _ _ _ _ _ _ _ _ _ _ _ _ _ _ _ _ hr) (by kernel_rfl) (by kernel_rfl) (by kernel_rfl) rfl (by kernel_rfl) (by kernel_rfl) (by kernel_rfl))) (fun r1 => ?_))))
 exact SimI.dn (.thenN (.sr 2 [(4, qp 13 0), (16, qp 13 0)] [] (.ret .fn)))
def F62_e : Bool → PV × List Ob := fun r => (.one (lb r), [])
def F62 (n : Nat) (a0 : Field) : Option Bool :=
 if a0.N == 0 then
  some (decide ((a0.Text.size : Int) ≤ 12))
 else
  if a0.Text.toList == ByteArray.empty.toList then
   some (decide ((a0.Text.size : Int) ≤ 12))
  else
   some false
theorem F62_ok (n : Nat) (a0 : Field) : ∀ r, F62 n a0 = some r → D 62 [.agg [li .i64 a0.N, ls a0.Text]] [] = some (F62_e r) := by
 refine fn_to (D := D) (n := n + 8) (nt := 17) (rs := pc62_r) (c := p62c5) (L := [(0, .agg [lj a0.N, ls a0.Text])]) (M := []) (k := 0) rfl rfl rfl rfl rfl rfl rfl ?_
 unfold F62
 refine Sim.sr 2 [(2, qb false), (1, qp 1 0)] [(1, some (.cells [lj a0.N, ls a0.Text]))] (.st 4 [(6, qb (a0.N == 0)), (5, qb (a0.N == 0)), (4, qj a0.N), (3, qp 1 0)] [] (.sp 6 _ ?_ ?_))
 ·exact SimI.rd 11 (rp [2, 16, 15] (qb (decide ((a0.Text.size : Int) ≤ 12))) ++ [(14, qj (a0.Text.size : Int)), (13, qs a0.Text), (12, qp 1 1), (11, qb true), (10, qb true), (9, tz), (8, tz), (7, tz)]) [] (.thenN (.ret .fn))
 ·refine SimI.rn 5 (rp [11, 10, 9] (qb (a0.Text.toList == be.toList)) ++ [(8, qs a0.Text), (7, qp 1 1)]) [] (.sp 11 _ ?_ ?_)
  ·exact SimI.rd 6 (rp [2, 16, 15] (qb (decide ((a0.Text.size : Int) ≤ 12))) ++ [(14, qj (a0.Text.size : Int)), (13, qs a0.Text), (12, qp 1 1)]) [] (.thenN (.ret .fn))
  ·exact SimI.rd 6 [(2, qb false), (16, qb false), (15, tz), (14, tz), (13, tz), (12, tz)] [] (.thenN (.ret .fn))
def F63_e : Command → PV × List Ob := fun r => (.agg (Command.cells r), [])
def F63 (n : Nat) (a0 : Command) : Option Command :=
 if a0.Kind == 1 then
  some (Command.mk a0.Kind 0 0 0 a0.At a0.F (Field.mk 0 ByteArray.empty) a0.Client a0.Session (Rect.mk 0 0 0 0))
 else
  if a0.Kind == 2 then
   some (Command.mk a0.Kind a0.ID 0 0 a0.At (A4.mk (Field.mk 0 ByteArray.empty) (Field.mk 0 ByteArray.empty) (Field.mk 0 ByteArray.empty) (Field.mk 0 ByteArray.empty)) (Field.mk 0 ByteArray.empty) a0.Client a0.Session (Rect.mk 0 0 0 0))
  else
   if a0.Kind == 3 then
    some (Command.mk a0.Kind a0.ID a0.Which 0 (Point.mk 0 0) (A4.mk (Field.mk 0 ByteArray.empty) (Field.mk 0 ByteArray.empty) (Field.mk 0 ByteArray.empty) (Field.mk 0 ByteArray.empty)) a0.Value a0.Client a0.Session (Rect.mk 0 0 0 0))
   else
    if a0.Kind == 4 then
     some (Command.mk a0.Kind a0.ID 0 0 (Point.mk 0 0) (A4.mk (Field.mk 0 ByteArray.empty) (Field.mk 0 ByteArray.empty) (Field.mk 0 ByteArray.empty) (Field.mk 0 ByteArray.empty)) (Field.mk 0 ByteArray.empty) a0.Client a0.Session (Rect.mk 0 0 0 0))
    else
     if a0.Kind == 5 then
      some (Command.mk a0.Kind 0 a0.Which a0.To (Point.mk 0 0) (A4.mk (Field.mk 0 ByteArray.empty) (Field.mk 0 ByteArray.empty) (Field.mk 0 ByteArray.empty) (Field.mk 0 ByteArray.empty)) (Field.mk 0 ByteArray.empty) a0.Client a0.Session (Rect.mk 0 0 0 0))
     else
      if a0.Kind == 6 then
       if a0.Kind == 6 then
        some (Command.mk a0.Kind 0 0 0 (Point.mk 0 0) (A4.mk (Field.mk 0 ByteArray.empty) (Field.mk 0 ByteArray.empty) (Field.mk 0 ByteArray.empty) (Field.mk 0 ByteArray.empty)) (Field.mk 0 ByteArray.empty) a0.Client a0.Session a0.Rect)
       else
        some (Command.mk a0.Kind 0 0 0 (Point.mk 0 0) (A4.mk (Field.mk 0 ByteArray.empty) (Field.mk 0 ByteArray.empty) (Field.mk 0 ByteArray.empty) (Field.mk 0 ByteArray.empty)) (Field.mk 0 ByteArray.empty) a0.Client a0.Session (Rect.mk 0 0 0 0))
      else
       if a0.Kind == 7 then
        some (Command.mk a0.Kind 0 0 0 (Point.mk 0 0) (A4.mk (Field.mk 0 ByteArray.empty) (Field.mk 0 ByteArray.empty) (Field.mk 0 ByteArray.empty) (Field.mk 0 ByteArray.empty)) (Field.mk 0 ByteArray.empty) a0.Client a0.Session a0.Rect)
       else
        some (Command.mk a0.Kind 0 0 0 (Point.mk 0 0) (A4.mk (Field.mk 0 ByteArray.empty) (Field.mk 0 ByteArray.empty) (Field.mk 0 ByteArray.empty) (Field.mk 0 ByteArray.empty)) (Field.mk 0 ByteArray.empty) a0.Client a0.Session (Rect.mk 0 0 0 0))
theorem F63_ok (n : Nat) (a0 : Command) : ∀ r, F63 n a0 = some r → D 63 [.agg (Command.cells a0)] [] = some (F63_e r) := by
 refine fn_to (D := D) (n := n + 8) (nt := 60) (rs := pc63_r) (c := p63c40) (L := [(0, .agg (Command.cells a0))]) (M := []) (k := 0) rfl rfl rfl rfl rfl rfl rfl ?_
 unfold F63
 refine Sim.sr 2 [(2, qp 2 0), (1, qp 1 0)] [(2, some (.cells W41)), (1, some (.cells (Command.cells a0)))] (.sr 9 [(3, qp 3 0), (10, .agg (w0 a0)), (9, qj a0.Session), (8, qp 1 17), (7, qj a0.Client), (6, qp 1 16), (5, qj a0.Kind), (4, qp 1 0)] [(3, some (.cells (w0 a0))), (3, some (.cells W41))] (.seq (.sr 2 [(12, qj a0.Kind), (11, qp 1 0)] [] (.block (.sr 2 (rp [13, 14] (qb (a0.Kind == 1))) [] (.cd _ ?_ ?_))))))
 ·exact Sim.region0 (.rd 8 [(20, qp 3 6), (19, qp 3 4), (18, .agg (A4_Field.cells a0.F)), (17, qp 1 6), (16, .agg [lj a0.At.X, lj a0.At.Y]), (15, qp 1 4)] [(3, some (.cells (W18 a0))), (3, some (.cells [lj a0.Kind, lj 0, lj 0, lj 0, lj a0.At.X, lj a0.At.Y, lj 0, ls be, lj 0, ls be, lj 0, ls be, lj 0, ls be, lj 0, ls be, lj a0.Client, lj a0.Session, lj 0, lj 0, lj 0, lj 0]))] (.blockN (.thenN (.sr 2 [(59, .agg (W18 a0))] [(2, some (.cells (W18 a0)))] (.ret .fn)))))
 ·refine Sim.sr 2 (rp [21, 22] (qb (a0.Kind == 2))) [] (.cd _ ?_ ?_)
  ·exact Sim.region0 (.rd 8 [(28, qp 3 4), (27, qp 3 1), (26, .agg [lj a0.At.X, lj a0.At.Y]), (25, qp 1 4), (24, qj a0.ID), (23, qp 1 1)] [(3, some (.cells (w3 a0))), (3, some (.cells (w2 a0)))] (.blockN (.thenN (.sr 2 [(59, .agg (w3 a0))] [(2, some (.cells (w3 a0)))] (.ret .fn)))))
  ·refine Sim.sr 2 (rp [29, 30] (qb (a0.Kind == 3))) [] (.cd _ ?_ ?_)
   ·exact Sim.region0 (.rd 12 [(39, qp 3 14), (38, qp 3 2), (37, qp 3 1), (36, .agg [lj a0.Value.N, ls a0.Value.Text]), (35, qp 1 14), (34, qj a0.Which), (33, qp 1 2), (32, qj a0.ID), (31, qp 1 1)] [(3, some (.cells (w4 a0))), (3, some (.cells [lj a0.Kind, lj a0.ID, lj a0.Which, lj 0, lj 0, lj 0, lj 0, ls be, lj 0, ls be, lj 0, ls be, lj 0, ls be, lj 0, ls be, lj a0.Client, lj a0.Session, lj 0, lj 0, lj 0, lj 0])), (3, some (.cells (w2 a0)))] (.blockN (.thenN (.sr 2 [(59, .agg (w4 a0))] [(2, some (.cells (w4 a0)))] (.ret .fn)))))
   ·refine Sim.sr 2 (rp [40, 41] (qb (a0.Kind == 4))) [] (.cd _ ?_ ?_)
    ·exact Sim.region0 (.rd 4 [(44, qp 3 1), (43, qj a0.ID), (42, qp 1 1)] [(3, some (.cells (w2 a0)))] (.blockN (.thenN (.sr 2 [(59, .agg (w2 a0))] [(2, some (.cells (w2 a0)))] (.ret .fn)))))
    ·refine Sim.sr 2 (rp [45, 46] (qb (a0.Kind == 5))) [] (.cd _ ?_ ?_)
     ·exact Sim.region0 (.rd 8 [(52, qp 3 3), (51, qp 3 2), (50, qj a0.To), (49, qp 1 3), (48, qj a0.Which), (47, qp 1 2)] [(3, some (.cells (w5 a0))), (3, some (.cells [lj a0.Kind, lj 0, lj a0.Which, lj 0, lj 0, lj 0, lj 0, ls be, lj 0, ls be, lj 0, ls be, lj 0, ls be, lj 0, ls be, lj a0.Client, lj a0.Session, lj 0, lj 0, lj 0, lj 0]))] (.blockN (.thenN (.sr 2 [(59, .agg (w5 a0))] [(2, some (.cells (w5 a0)))] (.ret .fn)))))
     ·refine Sim.seq (.sr 2 (rp [53, 54] (qb (a0.Kind == 6))) [] (.cd _ ?_ ?_))
      ·refine Sim.skip (.thenN (.cd _ ?_ ?_))
       ·exact Sim.region0 (.rd 4 [(58, qp 3 18), (57, .agg (Rect.cells a0.Rect)), (56, qp 1 18)] [(3, some (.cells (w1 a0)))] (.blockN (.thenN (.sr 2 [(59, .agg (w1 a0))] [(2, some (.cells (w1 a0)))] (.ret .fn)))))
       ·exact Sim.skip (.blockN (.thenN (.sr 2 [(59, .agg (w0 a0))] [(2, some (.cells (w0 a0)))] (.ret .fn))))
      ·refine Sim.region0 (.rd 2 (rp [53, 55] (qb (a0.Kind == 7))) [] (.thenN (.cd _ ?_ ?_)))
       ·exact Sim.region0 (.rd 4 [(58, qp 3 18), (57, .agg (Rect.cells a0.Rect)), (56, qp 1 18)] [(3, some (.cells (w1 a0)))] (.blockN (.thenN (.sr 2 [(59, .agg (w1 a0))] [(2, some (.cells (w1 a0)))] (.ret .fn)))))
       ·exact Sim.skip (.blockN (.thenN (.sr 2 [(59, .agg (w0 a0))] [(2, some (.cells (w0 a0)))] (.ret .fn))))
def F64_e : Bool → PV × List Ob := fun r => (.one (lb r), [])
def F64_l4 (n : Nat) (a0 : (List Int)) : Nat → Int → Option Bool
 | 0, _ => none
 | m + 1, i3 =>
  if decide (i3 < ((a0).length : Int)) then
   (ix a0 i3).bind fun (x5 : Int) =>
   if decide (((-1000) : Int) ≤ x5) then
    if decide (x5 ≤ 1000) then
     (F64_l4 n a0 m) (IntKind.wrap .i64 (i3 + 1))
    else
     some false
   else
    some false
  else
   some true
theorem F64_l4_ok (n : Nat) (a0 : (List Int)) : ∀ (m : Nat) (i3 : Int), SimL Try.prog D (n + 8) m p64c23 [(5, .one (vw (codI .i64) a0)), (6, qj ((a0).length : Int)), (7, qj i3)] [] (F64_l4 n a0 m i3) (QB 0 (QT Try.prog D (n + 8) p64c29 (QF false pc64_r 0 F64_e))) := by
 intro m_l4
 induction m_l4 with
 | zero => intro i3; exact SimL.zero'  rfl
 | succ m_l4 ih_l4 =>
  intro i3
  refine SimL.succ ?_
  unfold F64_l4
  refine Sim.seq (.rg [(5, .one (vw (codI .i64) a0)), (6, qj ((a0).length : Int)), (7, qj i3)] [] (.rd 1 [(8, qb (decide (i3 < ((a0).length : Int))))] [] (.thenN (.seq (.cd _ ?_ ?_)))))
  ·refine Sim.skip (.thenN (.seq (.block (.seq (.region0 (.bn ⟨some 9, .iaddrS 1 5 7, none, []⟩ (fun x5 => [(9, .one (.eptr ((codI .i64).enc x5) 0))]) (fun x5 => []) (fun x5 hr => pe (ei (c := (codI .i64)) (k := .i64) hr)) (fun x5 => ?_)))))))
   refine SimI.rd 2 [(4, qj x5), (10, qj x5)] [] (.thenN (.seq (.st 3 (rp [13, 12] (qb (decide (((-1000) : Int) ≤ x5))) ++ [(11, qj x5)]) [] (.sp 13 _ ?_ ?_))))
   ·refine SimI.rd 3 (rp [16, 15] (qb (decide (x5 ≤ 1000))) ++ [(14, qj x5)]) [] (.thenN (.cd _ ?_ ?_))
    ·refine Sim.exit (.thenX (.blockX (.thenN (.region0 (.rd 2 (rp [7, 17] (qj (iw .i64 (i3 + 1)))) [] (.loopN (.pr [5, 6, 7] [] [] [(5, .one (vw (codI .i64) a0)), (6, qj ((a0).length : Int)), (7, qj (iw .i64 (i3 + 1)))] [] ?_)))))))
     exact ih_l4 (iw .i64 (i3 + 1))
    ·exact Sim.skip (.thenN (.sr 1 [(2, qb false)] [] (.ret (.blockR (.thenR (.loopR (.blockR (.thenR .fn))))))))
   ·exact SimI.rd 3 [(16, qb false), (15, tz), (14, tz)] [] (.thenN (.cf (.skip (.thenN (.sr 1 [(2, qb false)] [] (.ret (.blockR (.thenR (.loopR (.blockR (.thenR .fn)))))))))))
  ·exact Sim.exit (.thenX (.loopX (.blockX (.thenN (.sr 1 [(2, qb true)] [] (.ret .fn))))))
def F64 (n : Nat) (a0 : (List Int)) : Option Bool :=
 F64_l4 n a0 (n + 8) 0
theorem F64_ok (n : Nat) (a0 : (List Int)) : ∀ r, F64 n a0 = some r → D 64 [.one (vw (codI .i64) a0)] [] = some (F64_e r) := by
 refine fn_to (D := D) (n := n + 8) (nt := 18) (rs := pc64_r) (c := p64c33) (L := [(0, .one (vw (codI .i64) a0))]) (M := []) (k := 0) rfl rfl rfl rfl rfl rfl rfl ?_
 unfold F64
 refine Sim.sr 1 [(2, qb false)] [] (.scope (.seq (.label (.thenN (.seq (.sr 3 [(7, qj 0), (6, qj ((a0).length : Int)), (5, .one (vw (codI .i64) a0))] [] (.block (.loop (.pr [5, 6, 7] [] [] [(5, .one (vw (codI .i64) a0)), (6, qj ((a0).length : Int)), (7, qj 0)] [] ?_)))))))))
 exact F64_l4_ok n a0 (n + 8) 0
def F51_e : Bool → PV × List Ob := fun r => (.one (lb r), [])
def F51_j12 (n : Nat) (a0 : Command) (b6 b8 b11 : Bool) : Option Bool :=
  if b6 then
   if b8 then
    if b11 then
     (F64 n [a0.At.X, a0.At.Y, a0.Rect.X0, a0.Rect.Y0, a0.Rect.X1, a0.Rect.Y1]).bind fun (r13 : Bool) =>
     some r13
    else
     some false
   else
    some false
  else
   some false
theorem F51_j12_ok (n : Nat) (a0 : Command) (b6 b8 b11 : Bool) : Sim Try.prog D (n + 8) p51c29 [(1, qp 1 0), (5, qb b6), (6, qb b8), (7, qb b11)] (W12 a0) (F51_j12 n a0 b6 b8 b11) (QF false pc51_r 0 F51_e) := by
  unfold F51_j12
  refine Sim.seq (.rs (.rn 2 [(83, qb b6), (82, qb b6)] [] (.sp 83 _ ?_ ?_)))
  ·refine SimI.rn 3 [(86, qb b8), (85, qb b8), (84, qb b8)] [] (.sp 86 _ ?_ ?_)
   ·refine SimI.rn 3 (rp [89, 88, 87] (qb b11)) [] (.sp 89 _ ?_ ?_)
    ·refine SimI.rn 19 [(108, .one (vw (codI .i64) [a0.At.X, a0.At.Y, a0.Rect.X0, a0.Rect.Y0, a0.Rect.X1, a0.Rect.Y1])), (107, qj a0.Rect.Y1), (106, qp 1 21), (105, qp 1 18), (104, qj a0.Rect.X1), (103, qp 1 20), (102, qp 1 18), (101, qj a0.Rect.Y0), (100, qp 1 19), (99, qp 1 18), (98, qj a0.Rect.X0), (97, qp 1 18), (96, qp 1 18), (95, qj a0.At.Y), (94, qp 1 5), (93, qp 1 4), (92, qj a0.At.X), (91, qp 1 4), (90, qp 1 4)] [] (.cl 109 true [[(0, 1)]] 64 [108] (some (89, true)) (fun r13 => qb r13) [.one (vw (codI .i64) [a0.At.X, a0.At.Y, a0.Rect.X0, a0.Rect.Y0, a0.Rect.X1, a0.Rect.Y1])] (F64_ok _ _) (fun r13 => ?_))
     exact SimI.rd 2 [(2, qb r13), (110, qb r13)] [] (.thenN (.ret .fn))
    ·exact SimI.rd 22 ([(2, qb false), (110, qb false)] ++ rp W34 tz) [] (.thenN (.ret .fn))
   ·exact SimI.rd 25 ([(2, qb false), (110, qb false)] ++ rp W34 tz ++ [(89, qb false), (88, qb false), (87, tz)]) [] (.thenN (.ret .fn))
  ·exact SimI.rd 28 ([(2, qb false), (110, qb false)] ++ rp W34 tz ++ [(89, qb false), (88, qb false), (87, tz), (86, qb false), (85, qb false), (84, tz)]) [] (.thenN (.ret .fn))
def F51_j9 (n : Nat) (a0 : Command) (b6 b8 : Bool) : Option Bool :=
  if decide ((0 : Int) ≤ a0.ID) then
   if decide (a0.ID ≤ 1000000) then
    if decide (((-1) : Int) ≤ a0.Which) then
     if decide (a0.Which ≤ 100) then
      if decide (((-1) : Int) ≤ a0.To) then
       if decide (a0.To ≤ 100) then
        (F62 n a0.Value).bind fun (r10 : Bool) =>
        F51_j12 n a0 b6 b8 r10
       else
        F51_j12 n a0 b6 b8 false
      else
       F51_j12 n a0 b6 b8 false
     else
      F51_j12 n a0 b6 b8 false
    else
     F51_j12 n a0 b6 b8 false
   else
    F51_j12 n a0 b6 b8 false
  else
   F51_j12 n a0 b6 b8 false
theorem F51_j9_ok (n : Nat) (a0 : Command) (b6 b8 : Bool) : Sim Try.prog D (n + 8) p51c30 [(1, qp 1 0), (5, qb b6), (6, qb b8)] (W12 a0) (F51_j9 n a0 b6 b8) (QF false pc51_r 0 F51_e) := by
  unfold F51_j9
  refine Sim.seq (.rs (.rn 4 (rp [52, 51] (qb (decide ((0 : Int) ≤ a0.ID))) ++ [(50, qj a0.ID), (49, qp 1 1)]) [] (.sp 52 _ ?_ ?_)))
  ·refine SimI.rn 5 (rp [57, 56, 55] (qb (decide (a0.ID ≤ 1000000))) ++ [(54, qj a0.ID), (53, qp 1 1)]) [] (.sp 57 _ ?_ ?_)
   ·refine SimI.rn 5 (rp [62, 61, 60] (qb (decide (((-1) : Int) ≤ a0.Which))) ++ [(59, qj a0.Which), (58, qp 1 2)]) [] (.sp 62 _ ?_ ?_)
    ·refine SimI.rn 5 (rp [67, 66, 65] (qb (decide (a0.Which ≤ 100))) ++ [(64, qj a0.Which), (63, qp 1 2)]) [] (.sp 67 _ ?_ ?_)
     ·refine SimI.rn 5 (rp [72, 71, 70] (qb (decide (((-1) : Int) ≤ a0.To))) ++ [(69, qj a0.To), (68, qp 1 3)]) [] (.sp 72 _ ?_ ?_)
      ·refine SimI.rn 5 (rp [77, 76, 75] (qb (decide (a0.To ≤ 100))) ++ [(74, qj a0.To), (73, qp 1 3)]) [] (.sp 77 _ ?_ ?_)
       ·refine SimI.rn 2 [(79, .agg [lj a0.Value.N, ls a0.Value.Text]), (78, qp 1 14)] [] (.cl 80 true [[]] 62 [79] (some (77, true)) (fun r10 => qb r10) [.agg [lj a0.Value.N, ls a0.Value.Text]] (F62_ok _ _) (fun r10 => ?_))
        refine SimI.rd 2 [(7, qb r10), (81, qb r10)] [] (.thenN (.pr [1, 5, 6, 7] [1] [] [(1, qp 1 0), (5, qb b6), (6, qb b8), (7, qb r10)] (W12 a0) ?_))
        exact F51_j12_ok n a0 b6 b8 r10
       ·refine SimI.rd 5 [(7, qb false), (81, qb false), (80, tz), (79, tz), (78, tz)] [] (.thenN (.pr [1, 5, 6, 7] [1] [] (W37 b6 b8) (W12 a0) ?_))
        exact F51_j12_ok n a0 b6 b8 false
      ·refine SimI.rd 10 [(7, qb false), (81, qb false), (80, tz), (79, tz), (78, tz), (77, qb false), (76, qb false), (75, tz), (74, tz), (73, tz)] [] (.thenN (.pr [1, 5, 6, 7] [1] [] (W37 b6 b8) (W12 a0) ?_))
       exact F51_j12_ok n a0 b6 b8 false
     ·refine SimI.rd 15 [(7, qb false), (81, qb false), (80, tz), (79, tz), (78, tz), (77, qb false), (76, qb false), (75, tz), (74, tz), (73, tz), (72, qb false), (71, qb false), (70, tz), (69, tz), (68, tz)] [] (.thenN (.pr [1, 5, 6, 7] [1] [] (W37 b6 b8) (W12 a0) ?_))
      exact F51_j12_ok n a0 b6 b8 false
    ·refine SimI.rd 20 [(7, qb false), (81, qb false), (80, tz), (79, tz), (78, tz), (77, qb false), (76, qb false), (75, tz), (74, tz), (73, tz), (72, qb false), (71, qb false), (70, tz), (69, tz), (68, tz), (67, qb false), (66, qb false), (65, tz), (64, tz), (63, tz)] [] (.thenN (.pr [1, 5, 6, 7] [1] [] (W37 b6 b8) (W12 a0) ?_))
     exact F51_j12_ok n a0 b6 b8 false
   ·refine SimI.rd 25 [(7, qb false), (81, qb false), (80, tz), (79, tz), (78, tz), (77, qb false), (76, qb false), (75, tz), (74, tz), (73, tz), (72, qb false), (71, qb false), (70, tz), (69, tz), (68, tz), (67, qb false), (66, qb false), (65, tz), (64, tz), (63, tz), (62, qb false), (61, qb false), (60, tz), (59, tz), (58, tz)] [] (.thenN (.pr [1, 5, 6, 7] [1] [] (W37 b6 b8) (W12 a0) ?_))
    exact F51_j12_ok n a0 b6 b8 false
  ·refine SimI.rd 30 [(7, qb false), (81, qb false), (80, tz), (79, tz), (78, tz), (77, qb false), (76, qb false), (75, tz), (74, tz), (73, tz), (72, qb false), (71, qb false), (70, tz), (69, tz), (68, tz), (67, qb false), (66, qb false), (65, tz), (64, tz), (63, tz), (62, qb false), (61, qb false), (60, tz), (59, tz), (58, tz), (57, qb false), (56, qb false), (55, tz), (54, tz), (53, tz)] [] (.thenN (.pr [1, 5, 6, 7] [1] [] (W37 b6 b8) (W12 a0) ?_))
   exact F51_j12_ok n a0 b6 b8 false
def F51_j7 (n : Nat) (a0 : Command) (b6 : Bool) : Option Bool :=
  if decide ((0 : Int) ≤ a0.Client) then
   if decide (a0.Client < 4) then
    if decide ((0 : Int) ≤ a0.Session) then
     F51_j9 n a0 b6 (decide (a0.Session ≤ 1000000))
    else
     F51_j9 n a0 b6 false
   else
    F51_j9 n a0 b6 false
  else
   F51_j9 n a0 b6 false
theorem F51_j7_ok (n : Nat) (a0 : Command) (b6 : Bool) : Sim Try.prog D (n + 8) p51c31 [(1, qp 1 0), (5, qb b6)] (W12 a0) (F51_j7 n a0 b6) (QF false pc51_r 0 F51_e) := by
  unfold F51_j7
  refine Sim.seq (.rs (.rn 4 (rp [34, 33] (qb (decide ((0 : Int) ≤ a0.Client))) ++ [(32, qj a0.Client), (31, qp 1 16)]) [] (.sp 34 _ ?_ ?_)))
  ·refine SimI.rn 5 (rp [39, 38, 37] (qb (decide (a0.Client < 4))) ++ [(36, qj a0.Client), (35, qp 1 16)]) [] (.sp 39 _ ?_ ?_)
   ·refine SimI.rn 5 (rp [44, 43, 42] (qb (decide ((0 : Int) ≤ a0.Session))) ++ [(41, qj a0.Session), (40, qp 1 17)]) [] (.sp 44 _ ?_ ?_)
    ·refine SimI.rd 5 (rp [6, 48, 47] (qb (decide (a0.Session ≤ 1000000))) ++ [(46, qj a0.Session), (45, qp 1 17)]) [] (.thenN (.pr [1, 5, 6] [1] [] [(1, qp 1 0), (5, qb b6), (6, qb (decide (a0.Session ≤ 1000000)))] (W12 a0) ?_))
     exact F51_j9_ok n a0 b6 (decide (a0.Session ≤ 1000000))
    ·refine SimI.rd 5 [(6, qb false), (48, qb false), (47, tz), (46, tz), (45, tz)] [] (.thenN (.pr [1, 5, 6] [1] [] [(1, qp 1 0), (5, qb b6), (6, qb false)] (W12 a0) ?_))
     exact F51_j9_ok n a0 b6 false
   ·refine SimI.rd 10 [(6, qb false), (48, qb false), (47, tz), (46, tz), (45, tz), (44, qb false), (43, qb false), (42, tz), (41, tz), (40, tz)] [] (.thenN (.pr [1, 5, 6] [1] [] [(1, qp 1 0), (5, qb b6), (6, qb false)] (W12 a0) ?_))
    exact F51_j9_ok n a0 b6 false
  ·refine SimI.rd 15 [(6, qb false), (48, qb false), (47, tz), (46, tz), (45, tz), (44, qb false), (43, qb false), (42, tz), (41, tz), (40, tz), (39, qb false), (38, qb false), (37, tz), (36, tz), (35, tz)] [] (.thenN (.pr [1, 5, 6] [1] [] [(1, qp 1 0), (5, qb b6), (6, qb false)] (W12 a0) ?_))
   exact F51_j9_ok n a0 b6 false
def F51 (n : Nat) (a0 : Command) : Option Bool :=
 (F62 n a0.F.a0).bind fun (r1 : Bool) =>
 if !(r1) then
  some false
 else
  (F62 n a0.F.a1).bind fun (r2 : Bool) =>
  if !(r2) then
   some false
  else
   (F62 n a0.F.a2).bind fun (r3 : Bool) =>
   if !(r3) then
    some false
   else
    (F62 n a0.F.a3).bind fun (r4 : Bool) =>
    if !(r4) then
     some false
    else
     if decide ((1 : Int) ≤ a0.Kind) then
      if decide (a0.Kind ≤ 8) then
       (F63 n a0).bind fun (r5 : Command) =>
       F51_j7 n a0 (Command.eqb a0 r5)
      else
       F51_j7 n a0 false
     else
      F51_j7 n a0 false
theorem F51_ok (n : Nat) (a0 : Command) : ∀ r, F51 n a0 = some r → D 51 [.agg (Command.cells a0)] [] = some (F51_e r) := by
 refine fn_to (D := D) (n := n + 8) (nt := 111) (rs := pc51_r) (c := p51c34) (L := [(0, .agg (Command.cells a0))]) (M := []) (k := 0) rfl rfl rfl rfl rfl rfl rfl ?_
 unfold F51
 refine Sim.sr 2 [(2, qb false), (1, qp 1 0)] (W12 a0) (.seq (.sr 3 [(10, qj 0), (9, .agg (A4_Field.cells a0.F)), (8, qp 1 6)] [] (.block (.loop (.succ (.seq (.rg [(1, qp 1 0), (9, .agg (A4_Field.cells a0.F)), (10, qj 0)] (W12 a0) (.rd 1 [(11, qb true)] [] (.thenN (.seq (.ct (.skip (.thenN (.seq (.block (.sr 3 [(4, qp 4 0), (12, .agg [lj a0.F.a0.N, ls a0.F.a0.Text])] [(4, some (.cells [lj a0.F.a0.N, ls a0.F.a0.Text])), (4, some (.cells [lj 0, ls be]))] (.st 1 [(13, .agg [lj a0.F.a0.N, ls a0.F.a0.Text])] [] (.cl 14 true [[]] 62 [13] none (fun r1 => qb r1) [.agg [lj a0.F.a0.N, ls a0.F.a0.Text]] (F62_ok _ _) (fun r1 => ?_)))))))))))))))))))
 refine SimI.rd 1 [(15, qb (!(r1)))] [] (.thenN (.cd _ ?_ ?_))
 ·exact Sim.sr 1 [(2, qb false)] [] (.ret (.blockR (.thenR (.loopR (.blockR (.thenR .fn))))))
 ·refine Sim.skip (.blockN (.thenN (.region0 (.rd 2 [(10, qj 1), (16, qj 1)] [] (.loopN (.succ (.seq (.rg [(1, qp 1 0), (9, .agg (A4_Field.cells a0.F)), (10, qj 1)] (W12 a0) (.rd 1 [(11, qb true)] [] (.thenN (.seq (.ct (.skip (.thenN (.seq (.block (.sr 3 [(4, qp 4 0), (12, .agg [lj a0.F.a1.N, ls a0.F.a1.Text])] [(4, some (.cells [lj a0.F.a1.N, ls a0.F.a1.Text])), (4, some (.cells [lj 0, ls be]))] (.st 1 [(13, .agg [lj a0.F.a1.N, ls a0.F.a1.Text])] [] (.cl 14 true [[]] 62 [13] none (fun r2 => qb r2) [.agg [lj a0.F.a1.N, ls a0.F.a1.Text]] (F62_ok _ _) (fun r2 => ?_))))))))))))))))))))
  refine SimI.rd 1 [(15, qb (!(r2)))] [] (.thenN (.cd _ ?_ ?_))
  ·exact Sim.sr 1 [(2, qb false)] [] (.ret (.blockR (.thenR (.loopR (.blockR (.thenR .fn))))))
  ·refine Sim.skip (.blockN (.thenN (.region0 (.rd 2 [(10, qj 2), (16, qj 2)] [] (.loopN (.succ (.seq (.rg [(1, qp 1 0), (9, .agg (A4_Field.cells a0.F)), (10, qj 2)] (W12 a0) (.rd 1 [(11, qb true)] [] (.thenN (.seq (.ct (.skip (.thenN (.seq (.block (.sr 3 [(4, qp 4 0), (12, .agg [lj a0.F.a2.N, ls a0.F.a2.Text])] [(4, some (.cells [lj a0.F.a2.N, ls a0.F.a2.Text])), (4, some (.cells [lj 0, ls be]))] (.st 1 [(13, .agg [lj a0.F.a2.N, ls a0.F.a2.Text])] [] (.cl 14 true [[]] 62 [13] none (fun r3 => qb r3) [.agg [lj a0.F.a2.N, ls a0.F.a2.Text]] (F62_ok _ _) (fun r3 => ?_))))))))))))))))))))
   refine SimI.rd 1 [(15, qb (!(r3)))] [] (.thenN (.cd _ ?_ ?_))
   ·exact Sim.sr 1 [(2, qb false)] [] (.ret (.blockR (.thenR (.loopR (.blockR (.thenR .fn))))))
   ·refine Sim.skip (.blockN (.thenN (.region0 (.rd 2 [(10, qj 3), (16, qj 3)] [] (.loopN (.succ (.seq (.rg [(1, qp 1 0), (9, .agg (A4_Field.cells a0.F)), (10, qj 3)] (W12 a0) (.rd 1 [(11, qb true)] [] (.thenN (.seq (.ct (.skip (.thenN (.seq (.block (.sr 3 [(4, qp 4 0), (12, .agg [lj a0.F.a3.N, ls a0.F.a3.Text])] [(4, some (.cells [lj a0.F.a3.N, ls a0.F.a3.Text])), (4, some (.cells [lj 0, ls be]))] (.st 1 [(13, .agg [lj a0.F.a3.N, ls a0.F.a3.Text])] [] (.cl 14 true [[]] 62 [13] none (fun r4 => qb r4) [.agg [lj a0.F.a3.N, ls a0.F.a3.Text]] (F62_ok _ _) (fun r4 => ?_))))))))))))))))))))
    refine SimI.rd 1 [(15, qb (!(r4)))] [] (.thenN (.cd _ ?_ ?_))
    ·exact Sim.sr 1 [(2, qb false)] [] (.ret (.blockR (.thenR (.loopR (.blockR (.thenR .fn))))))
    ·refine Sim.skip (.blockN (.thenN (.region0 (.rd 2 [(10, qj 4), (16, qj 4)] [] (.loopN (.succ (.seq (.rg [(1, qp 1 0), (9, .agg (A4_Field.cells a0.F)), (10, qj 4)] (W12 a0) (.rd 1 [(11, qb false)] [] (.thenN (.seq (.cf (.exit (.thenX (.loopX (.blockX (.thenN (.st 4 (rp [20, 19] (qb (decide ((1 : Int) ≤ a0.Kind))) ++ [(18, qj a0.Kind), (17, qp 1 0)]) [] (.sp 20 _ ?_ ?_)))))))))))))))))))
     ·refine SimI.rn 5 (rp [25, 24, 23] (qb (decide (a0.Kind ≤ 8))) ++ [(22, qj a0.Kind), (21, qp 1 0)]) [] (.sp 25 _ ?_ ?_)
      ·refine SimI.rn 2 (rp [27, 26] (.agg (Command.cells a0))) [] (.cm 28 false [[]] 63 [27] (some (25, true)) [(27, .imm)] (F63_ok _ _) (fun r5 => ?_))
       refine SimI.se ⟨some 29, .prim (.bin .eql 63 false false) [26, 28], some (25, true), [(26, .imm), (28, .imm)]⟩ [(29, qb (Command.eqb a0 r5))] [] (pe (ep (Command_eql a0 r5 _ _))) (.rd 2 (rp [5, 30] (qb (Command.eqb a0 r5))) [] (.thenN (.pr [1, 5] [1] [] [(1, qp 1 0), (5, qb (Command.eqb a0 r5))] (W12 a0) ?_)))
       exact F51_j7_ok n a0 (Command.eqb a0 r5)
      ·refine SimI.rd 6 [(5, qb false), (30, qb false), (29, tz), (28, tz), (27, tz), (26, tz)] [] (.thenN (.pr [1, 5] [1] [] [(1, qp 1 0), (5, qb false)] (W12 a0) ?_))
       exact F51_j7_ok n a0 false
     ·refine SimI.rd 11 [(5, qb false), (30, qb false), (29, tz), (28, tz), (27, tz), (26, tz), (25, qb false), (24, qb false), (23, tz), (22, tz), (21, tz)] [] (.thenN (.pr [1, 5] [1] [] [(1, qp 1 0), (5, qb false)] (W12 a0) ?_))
      exact F51_j7_ok n a0 false
def F28_e : (Packet × Int × Client) → PV × List Ob := fun r => (.tup [.agg [li .i64 r.1.From, li .i64 r.1.To, li .i64 r.1.Kind, li .i64 r.1.Seq, li .i64 r.1.C.Kind, li .i64 r.1.C.ID, li .i64 r.1.C.Which, li .i64 r.1.C.To, li .i64 r.1.C.At.X, li .i64 r.1.C.At.Y, li .i64 r.1.C.F.a0.N, ls r.1.C.F.a0.Text, li .i64 r.1.C.F.a1.N, ls r.1.C.F.a1.Text, li .i64 r.1.C.F.a2.N, ls r.1.C.F.a2.Text, li .i64 r.1.C.F.a3.N, ls r.1.C.F.a3.Text, li .i64 r.1.C.Value.N, ls r.1.C.Value.Text, li .i64 r.1.C.Client, li .i64 r.1.C.Session, li .i64 r.1.C.Rect.X0, li .i64 r.1.C.Rect.Y0, li .i64 r.1.C.Rect.X1, li .i64 r.1.C.Rect.Y1, li .i64 r.1.E, li .i64 r.1.ID, li .i64 r.1.N.From, li .i64 r.1.N.Beat, vw Thing.cod r.1.N.Moved, vw Hand.cod r.1.N.Hands, vw Thing.cod r.1.N.Given, vw Command.cod r.1.N.Watch, li .i64 r.1.F.From, li .i64 r.1.F.Client, li .i64 r.1.F.Session, li .i64 r.1.F.Start, li .i64 r.1.F.Beat, vw Event.cod r.1.F.Events, li .i64 r.1.Session, li .i64 r.1.Beat], .one (li .i64 r.2.1)], [.cells [li .i64 r.2.2.id_, li .i64 r.2.2.n, li .i64 r.2.2.session, .ptr 1000001 0, li .i64 r.2.2.asked.From, li .i64 r.2.2.asked.To, li .i64 r.2.2.asked.Kind, li .i64 r.2.2.asked.Seq, li .i64 r.2.2.asked.C.Kind, li .i64 r.2.2.asked.C.ID, li .i64 r.2.2.asked.C.Which, li .i64 r.2.2.asked.C.To, li .i64 r.2.2.asked.C.At.X, li .i64 r.2.2.asked.C.At.Y, li .i64 r.2.2.asked.C.F.a0.N, ls r.2.2.asked.C.F.a0.Text, li .i64 r.2.2.asked.C.F.a1.N, ls r.2.2.asked.C.F.a1.Text, li .i64 r.2.2.asked.C.F.a2.N, ls r.2.2.asked.C.F.a2.Text, li .i64 r.2.2.asked.C.F.a3.N, ls r.2.2.asked.C.F.a3.Text, li .i64 r.2.2.asked.C.Value.N, ls r.2.2.asked.C.Value.Text, li .i64 r.2.2.asked.C.Client, li .i64 r.2.2.asked.C.Session, li .i64 r.2.2.asked.C.Rect.X0, li .i64 r.2.2.asked.C.Rect.Y0, li .i64 r.2.2.asked.C.Rect.X1, li .i64 r.2.2.asked.C.Rect.Y1, li .i64 r.2.2.asked.E, li .i64 r.2.2.asked.ID, li .i64 r.2.2.asked.N.From, li .i64 r.2.2.asked.N.Beat, vw Thing.cod r.2.2.asked.N.Moved, vw Hand.cod r.2.2.asked.N.Hands, vw Thing.cod r.2.2.asked.N.Given, vw Command.cod r.2.2.asked.N.Watch, li .i64 r.2.2.asked.F.From, li .i64 r.2.2.asked.F.Client, li .i64 r.2.2.asked.F.Session, li .i64 r.2.2.asked.F.Start, li .i64 r.2.2.asked.F.Beat, vw Event.cod r.2.2.asked.F.Events, li .i64 r.2.2.asked.Session, li .i64 r.2.2.asked.Beat, lb r.2.2.busy, li .i64 r.2.2.seq, li .i64 r.2.2.thing, li .i64 r.2.2.e], .cells [li .i64 r.2.2.v.client, li .i64 r.2.2.v.session, li .i64 r.2.2.v.n, li .i64 r.2.2.v.beat, li .i64 r.2.2.v.start, vw Thing.cod r.2.2.v.things, .osl 1000002 1 0 (r.2.2.v.log_).length, .mp 1000003], .arr 58 Event.cod.sz 1 (r.2.2.v.log_).length (getOf Event.cod r.2.2.v.log_), .map (mapOf Key.cells Event.cod r.2.2.v.wait)])
def F28 (n : Nat) (a0 : Client) (a1 : Int) (a2 : Command) : Option (Packet × Int × Client) :=
 if a0.busy then
  some ((Packet.mk 0 0 0 0 (Command.mk 0 0 0 0 (Point.mk 0 0) (A4.mk (Field.mk 0 ByteArray.empty) (Field.mk 0 ByteArray.empty) (Field.mk 0 ByteArray.empty) (Field.mk 0 ByteArray.empty)) (Field.mk 0 ByteArray.empty) 0 0 (Rect.mk 0 0 0 0)) 0 0 (Note.mk 0 0 ([] : List Thing) ([] : List Hand) ([] : List Thing) ([] : List Command)) (Frame.mk 0 0 0 0 0 ([] : List Event)) 0 0), 28, a0)
 else
  if decide (a1 < 0) then
   some ((Packet.mk 0 0 0 0 (Command.mk 0 0 0 0 (Point.mk 0 0) (A4.mk (Field.mk 0 ByteArray.empty) (Field.mk 0 ByteArray.empty) (Field.mk 0 ByteArray.empty) (Field.mk 0 ByteArray.empty)) (Field.mk 0 ByteArray.empty) 0 0 (Rect.mk 0 0 0 0)) 0 0 (Note.mk 0 0 ([] : List Thing) ([] : List Hand) ([] : List Thing) ([] : List Command)) (Frame.mk 0 0 0 0 0 ([] : List Event)) 0 0), 19, a0)
  else
   if decide (a0.n ≤ a1) then
    some ((Packet.mk 0 0 0 0 (Command.mk 0 0 0 0 (Point.mk 0 0) (A4.mk (Field.mk 0 ByteArray.empty) (Field.mk 0 ByteArray.empty) (Field.mk 0 ByteArray.empty) (Field.mk 0 ByteArray.empty)) (Field.mk 0 ByteArray.empty) 0 0 (Rect.mk 0 0 0 0)) 0 0 (Note.mk 0 0 ([] : List Thing) ([] : List Hand) ([] : List Thing) ([] : List Command)) (Frame.mk 0 0 0 0 0 ([] : List Event)) 0 0), 19, a0)
   else
    (F51 n (Command.mk a2.Kind a2.ID a2.Which a2.To a2.At a2.F a2.Value a0.id_ a0.session a2.Rect)).bind fun (r1 : Bool) =>
    if !(r1) then
     some ((Packet.mk 0 0 0 0 (Command.mk 0 0 0 0 (Point.mk 0 0) (A4.mk (Field.mk 0 ByteArray.empty) (Field.mk 0 ByteArray.empty) (Field.mk 0 ByteArray.empty) (Field.mk 0 ByteArray.empty)) (Field.mk 0 ByteArray.empty) 0 0 (Rect.mk 0 0 0 0)) 0 0 (Note.mk 0 0 ([] : List Thing) ([] : List Hand) ([] : List Thing) ([] : List Command)) (Frame.mk 0 0 0 0 0 ([] : List Event)) 0 0), 11, a0)
    else
     some ((Packet.mk (IntKind.wrap .i64 (100 + a0.id_)) a1 1 (IntKind.wrap .i64 (a0.seq + 1)) (Command.mk a2.Kind a2.ID a2.Which a2.To a2.At a2.F a2.Value a0.id_ a0.session a2.Rect) 0 0 (Note.mk 0 0 ([] : List Thing) ([] : List Hand) ([] : List Thing) ([] : List Command)) (Frame.mk 0 0 0 0 0 ([] : List Event)) a0.session 0), 0, (Client.mk a0.id_ a0.n a0.session a0.v (Packet.mk (IntKind.wrap .i64 (100 + a0.id_)) a1 1 (IntKind.wrap .i64 (a0.seq + 1)) (Command.mk a2.Kind a2.ID a2.Which a2.To a2.At a2.F a2.Value a0.id_ a0.session a2.Rect) 0 0 (Note.mk 0 0 ([] : List Thing) ([] : List Hand) ([] : List Thing) ([] : List Command)) (Frame.mk 0 0 0 0 0 ([] : List Event)) a0.session 0) true (IntKind.wrap .i64 (a0.seq + 1)) a0.thing a0.e))
theorem F28_ok (n : Nat) (a0 : Client) (a1 : Int) (a2 : Command) : ∀ r, F28 n a0 a1 a2 = some r → D 28 [.one (.ptr 1000000 0), .one (li .i64 a1), .agg (Command.cells a2)] [.cells [li .i64 a0.id_, li .i64 a0.n, li .i64 a0.session, .ptr 1000001 0, li .i64 a0.asked.From, li .i64 a0.asked.To, li .i64 a0.asked.Kind, li .i64 a0.asked.Seq, li .i64 a0.asked.C.Kind, li .i64 a0.asked.C.ID, li .i64 a0.asked.C.Which, li .i64 a0.asked.C.To, li .i64 a0.asked.C.At.X, li .i64 a0.asked.C.At.Y, li .i64 a0.asked.C.F.a0.N, ls a0.asked.C.F.a0.Text, li .i64 a0.asked.C.F.a1.N, ls a0.asked.C.F.a1.Text, li .i64 a0.asked.C.F.a2.N, ls a0.asked.C.F.a2.Text, li .i64 a0.asked.C.F.a3.N, ls a0.asked.C.F.a3.Text, li .i64 a0.asked.C.Value.N, ls a0.asked.C.Value.Text, li .i64 a0.asked.C.Client, li .i64 a0.asked.C.Session, li .i64 a0.asked.C.Rect.X0, li .i64 a0.asked.C.Rect.Y0, li .i64 a0.asked.C.Rect.X1, li .i64 a0.asked.C.Rect.Y1, li .i64 a0.asked.E, li .i64 a0.asked.ID, li .i64 a0.asked.N.From, li .i64 a0.asked.N.Beat, vw Thing.cod a0.asked.N.Moved, vw Hand.cod a0.asked.N.Hands, vw Thing.cod a0.asked.N.Given, vw Command.cod a0.asked.N.Watch, li .i64 a0.asked.F.From, li .i64 a0.asked.F.Client, li .i64 a0.asked.F.Session, li .i64 a0.asked.F.Start, li .i64 a0.asked.F.Beat, vw Event.cod a0.asked.F.Events, li .i64 a0.asked.Session, li .i64 a0.asked.Beat, lb a0.busy, li .i64 a0.seq, li .i64 a0.thing, li .i64 a0.e], .cells [li .i64 a0.v.client, li .i64 a0.v.session, li .i64 a0.v.n, li .i64 a0.v.beat, li .i64 a0.v.start, vw Thing.cod a0.v.things, .osl 1000002 0 0 (a0.v.log_).length, .mp 1000003], .arr 58 Event.cod.sz 0 (a0.v.log_).length (getOf Event.cod a0.v.log_), .map (mapOf Key.cells Event.cod a0.v.wait)] = some (F28_e r) := by
 refine fn_to (D := D) (n := n + 8) (nt := 74) (rs := pc28_r) (c := p28c34) (L := [(0, qp 1000000 0), (1, qj a1), (2, .agg (Command.cells a2))]) (M := (W30 a0)) (k := 4) rfl rfl rfl rfl rfl rfl rfl ?_
 unfold F28
 refine Sim.sr 3 [(7, qj 0), (6, qp 6 0), (5, qp 5 0)] [(6, some (.cells W1)), (5, some (.cells (Command.cells a2)))] (.sr 12 ([(17, qp 5 17), (16, qp 5 16), (15, qj a0.session), (14, qp 1000000 2), (13, qp 1000000 0), (12, qp 1000000 0), (11, qj a0.id_)] ++ rp [10, 9, 8] (qp 1000000 0)) [(5, some (.cells (W10 a2 a0))), (5, some (.cells [lj a2.Kind, lj a2.ID, lj a2.Which, lj a2.To, lj a2.At.X, lj a2.At.Y, lj a2.F.a0.N, ls a2.F.a0.Text, lj a2.F.a1.N, ls a2.F.a1.Text, lj a2.F.a2.N, ls a2.F.a2.Text, lj a2.F.a3.N, ls a2.F.a3.Text, lj a2.Value.N, ls a2.Value.Text, lj a0.id_, lj a2.Session, lj a2.Rect.X0, lj a2.Rect.Y0, lj a2.Rect.X1, lj a2.Rect.Y1]))] (.seq (.block (.sr 5 [(18, qb a0.busy), (22, qb a0.busy), (21, qp 1000000 46), (20, qp 1000000 0), (19, qp 1000000 0)] [] (.cd _ ?_ ?_)))))
 ·exact Sim.sr 3 [(7, qj 28), (23, .agg W1)] [(6, some (.cells W1))] (.ret (.blockR (.thenR .fn)))
 ·refine Sim.st 3 (rp [27, 26] (qb (decide (a1 < 0))) ++ [(25, qj a1)]) [] (.sp 27 _ ?_ ?_)
  ·exact SimI.rd 8 ([(24, qb true), (34, qb true)] ++ rp [33, 32, 31, 30, 29, 28] tz) [] (.thenN (.ct (.sr 3 [(7, qj 19), (35, .agg W1)] [(6, some (.cells W1))] (.ret (.blockR (.thenR .fn))))))
  ·refine SimI.rd 8 (rp [24, 34, 33] (qb (decide (a0.n ≤ a1))) ++ [(32, qj a0.n), (31, qp 1000000 1), (30, qp 1000000 0), (29, qp 1000000 0), (28, qj a1)]) [] (.thenN (.cd _ ?_ ?_))
   ·exact Sim.sr 3 [(7, qj 19), (35, .agg W1)] [(6, some (.cells W1))] (.ret (.blockR (.thenR .fn)))
   ·refine Sim.st 1 [(37, .agg (W10 a2 a0))] [] (.cl 38 true [[]] 51 [37] none (fun r1 => qb r1) [.agg (W10 a2 a0)] (F51_ok _ _) (fun r1 => ?_))
    refine SimI.rd 2 [(36, qb (!(r1))), (39, qb (!(r1)))] [] (.thenN (.cd _ ?_ ?_))
    ·exact Sim.sr 3 [(7, qj 11), (40, .agg W1)] [(6, some (.cells W1))] (.ret (.blockR (.thenR .fn)))
    ·exact Sim.skip (.blockN (.thenN (.sr 8 [(47, qp 1000000 47), (46, qp 1000000 0), (45, qj (iw .i64 (a0.seq + 1))), (44, qj a0.seq), (43, qp 1000000 47), (42, qp 1000000 0), (41, qp 1000000 0)] [(1000000, some (.cells [lj a0.id_, lj a0.n, lj a0.session, .ptr 1000001 0, lj a0.asked.From, lj a0.asked.To, lj a0.asked.Kind, lj a0.asked.Seq, lj a0.asked.C.Kind, lj a0.asked.C.ID, lj a0.asked.C.Which, lj a0.asked.C.To, lj a0.asked.C.At.X, lj a0.asked.C.At.Y, lj a0.asked.C.F.a0.N, ls a0.asked.C.F.a0.Text, lj a0.asked.C.F.a1.N, ls a0.asked.C.F.a1.Text, lj a0.asked.C.F.a2.N, ls a0.asked.C.F.a2.Text, lj a0.asked.C.F.a3.N, ls a0.asked.C.F.a3.Text, lj a0.asked.C.Value.N, ls a0.asked.C.Value.Text, lj a0.asked.C.Client, lj a0.asked.C.Session, lj a0.asked.C.Rect.X0, lj a0.asked.C.Rect.Y0, lj a0.asked.C.Rect.X1, lj a0.asked.C.Rect.Y1, lj a0.asked.E, lj a0.asked.ID, lj a0.asked.N.From, lj a0.asked.N.Beat, vw Thing.cod a0.asked.N.Moved, vw Hand.cod a0.asked.N.Hands, vw Thing.cod a0.asked.N.Given, vw Command.cod a0.asked.N.Watch, lj a0.asked.F.From, lj a0.asked.F.Client, lj a0.asked.F.Session, lj a0.asked.F.Start, lj a0.asked.F.Beat, vw Event.cod a0.asked.F.Events, lj a0.asked.Session, lj a0.asked.Beat, lb a0.busy, lj (iw .i64 (a0.seq + 1)), lj a0.thing, lj a0.e]))] (.sr 4 [(50, qp 1000000 46), (49, qp 1000000 0), (48, qp 1000000 0)] [(1000000, some (.cells [lj a0.id_, lj a0.n, lj a0.session, .ptr 1000001 0, lj a0.asked.From, lj a0.asked.To, lj a0.asked.Kind, lj a0.asked.Seq, lj a0.asked.C.Kind, lj a0.asked.C.ID, lj a0.asked.C.Which, lj a0.asked.C.To, lj a0.asked.C.At.X, lj a0.asked.C.At.Y, lj a0.asked.C.F.a0.N, ls a0.asked.C.F.a0.Text, lj a0.asked.C.F.a1.N, ls a0.asked.C.F.a1.Text, lj a0.asked.C.F.a2.N, ls a0.asked.C.F.a2.Text, lj a0.asked.C.F.a3.N, ls a0.asked.C.F.a3.Text, lj a0.asked.C.Value.N, ls a0.asked.C.Value.Text, lj a0.asked.C.Client, lj a0.asked.C.Session, lj a0.asked.C.Rect.X0, lj a0.asked.C.Rect.Y0, lj a0.asked.C.Rect.X1, lj a0.asked.C.Rect.Y1, lj a0.asked.E, lj a0.asked.ID, lj a0.asked.N.From, lj a0.asked.N.Beat, vw Thing.cod a0.asked.N.Moved, vw Hand.cod a0.asked.N.Hands, vw Thing.cod a0.asked.N.Given, vw Command.cod a0.asked.N.Watch, lj a0.asked.F.From, lj a0.asked.F.Client, lj a0.asked.F.Session, lj a0.asked.F.Start, lj a0.asked.F.Beat, vw Event.cod a0.asked.F.Events, lj a0.asked.Session, lj a0.asked.Beat, lb true, lj (iw .i64 (a0.seq + 1)), lj a0.thing, lj a0.e]))] (.sr 20 ([(69, qp 1000000 4), (68, qp 1000000 0), (67, .agg (W8 a0 a1 a2)), (66, qj a0.session), (65, qp 1000000 2), (64, qp 1000000 0), (63, qp 1000000 0), (62, .agg (W10 a2 a0)), (61, qj (iw .i64 (a0.seq + 1))), (60, qp 1000000 47), (59, qp 1000000 0), (58, qp 1000000 0), (57, qj a1), (56, qj (iw .i64 (100 + a0.id_))), (55, qj a0.id_)] ++ rp [54, 53, 52, 51] (qp 1000000 0)) [(1000000, some (.cells [lj a0.id_, lj a0.n, lj a0.session, .ptr 1000001 0, lj (iw .i64 (100 + a0.id_)), lj a1, lj 1, lj (iw .i64 (a0.seq + 1)), lj a2.Kind, lj a2.ID, lj a2.Which, lj a2.To, lj a2.At.X, lj a2.At.Y, lj a2.F.a0.N, ls a2.F.a0.Text, lj a2.F.a1.N, ls a2.F.a1.Text, lj a2.F.a2.N, ls a2.F.a2.Text, lj a2.F.a3.N, ls a2.F.a3.Text, lj a2.Value.N, ls a2.Value.Text, lj a0.id_, lj a0.session, lj a2.Rect.X0, lj a2.Rect.Y0, lj a2.Rect.X1, lj a2.Rect.Y1, lj 0, lj 0, lj 0, lj 0, vw Thing.cod ([] : List Thing), vw Hand.cod ([] : List Hand), vw Thing.cod ([] : List Thing), vw Command.cod ([] : List Command), lj 0, lj 0, lj 0, lj 0, lj 0, vw Event.cod ([] : List Event), lj a0.session, lj 0, lb true, lj (iw .i64 (a0.seq + 1)), lj a0.thing, lj a0.e]))] (.sr 6 [(7, qj 0), (73, .agg (W8 a0 a1 a2)), (72, qp 1000000 4), (71, qp 1000000 0), (70, qp 1000000 0)] [(6, some (.cells (W8 a0 a1 a2)))] (.ret .fn)))))))
def F29_e : (Bool × Client) → PV × List Ob := fun r => (.one (lb r.1), [.cells [li .i64 r.2.id_, li .i64 r.2.n, li .i64 r.2.session, .ptr 1000001 0, li .i64 r.2.asked.From, li .i64 r.2.asked.To, li .i64 r.2.asked.Kind, li .i64 r.2.asked.Seq, li .i64 r.2.asked.C.Kind, li .i64 r.2.asked.C.ID, li .i64 r.2.asked.C.Which, li .i64 r.2.asked.C.To, li .i64 r.2.asked.C.At.X, li .i64 r.2.asked.C.At.Y, li .i64 r.2.asked.C.F.a0.N, ls r.2.asked.C.F.a0.Text, li .i64 r.2.asked.C.F.a1.N, ls r.2.asked.C.F.a1.Text, li .i64 r.2.asked.C.F.a2.N, ls r.2.asked.C.F.a2.Text, li .i64 r.2.asked.C.F.a3.N, ls r.2.asked.C.F.a3.Text, li .i64 r.2.asked.C.Value.N, ls r.2.asked.C.Value.Text, li .i64 r.2.asked.C.Client, li .i64 r.2.asked.C.Session, li .i64 r.2.asked.C.Rect.X0, li .i64 r.2.asked.C.Rect.Y0, li .i64 r.2.asked.C.Rect.X1, li .i64 r.2.asked.C.Rect.Y1, li .i64 r.2.asked.E, li .i64 r.2.asked.ID, li .i64 r.2.asked.N.From, li .i64 r.2.asked.N.Beat, vw Thing.cod r.2.asked.N.Moved, vw Hand.cod r.2.asked.N.Hands, vw Thing.cod r.2.asked.N.Given, vw Command.cod r.2.asked.N.Watch, li .i64 r.2.asked.F.From, li .i64 r.2.asked.F.Client, li .i64 r.2.asked.F.Session, li .i64 r.2.asked.F.Start, li .i64 r.2.asked.F.Beat, vw Event.cod r.2.asked.F.Events, li .i64 r.2.asked.Session, li .i64 r.2.asked.Beat, lb r.2.busy, li .i64 r.2.seq, li .i64 r.2.thing, li .i64 r.2.e], .cells [li .i64 r.2.v.client, li .i64 r.2.v.session, li .i64 r.2.v.n, li .i64 r.2.v.beat, li .i64 r.2.v.start, vw Thing.cod r.2.v.things, .osl 1000002 1 0 (r.2.v.log_).length, .mp 1000003], .arr 58 Event.cod.sz 1 (r.2.v.log_).length (getOf Event.cod r.2.v.log_), .map (mapOf Key.cells Event.cod r.2.v.wait)])
def F29 (n : Nat) (a0 : Client) : Option (Bool × Client) :=
 some (a0.busy, a0)
theorem F29_ok (n : Nat) (a0 : Client) : ∀ r, F29 n a0 = some r → D 29 [.one (.ptr 1000000 0)] [.cells [li .i64 a0.id_, li .i64 a0.n, li .i64 a0.session, .ptr 1000001 0, li .i64 a0.asked.From, li .i64 a0.asked.To, li .i64 a0.asked.Kind, li .i64 a0.asked.Seq, li .i64 a0.asked.C.Kind, li .i64 a0.asked.C.ID, li .i64 a0.asked.C.Which, li .i64 a0.asked.C.To, li .i64 a0.asked.C.At.X, li .i64 a0.asked.C.At.Y, li .i64 a0.asked.C.F.a0.N, ls a0.asked.C.F.a0.Text, li .i64 a0.asked.C.F.a1.N, ls a0.asked.C.F.a1.Text, li .i64 a0.asked.C.F.a2.N, ls a0.asked.C.F.a2.Text, li .i64 a0.asked.C.F.a3.N, ls a0.asked.C.F.a3.Text, li .i64 a0.asked.C.Value.N, ls a0.asked.C.Value.Text, li .i64 a0.asked.C.Client, li .i64 a0.asked.C.Session, li .i64 a0.asked.C.Rect.X0, li .i64 a0.asked.C.Rect.Y0, li .i64 a0.asked.C.Rect.X1, li .i64 a0.asked.C.Rect.Y1, li .i64 a0.asked.E, li .i64 a0.asked.ID, li .i64 a0.asked.N.From, li .i64 a0.asked.N.Beat, vw Thing.cod a0.asked.N.Moved, vw Hand.cod a0.asked.N.Hands, vw Thing.cod a0.asked.N.Given, vw Command.cod a0.asked.N.Watch, li .i64 a0.asked.F.From, li .i64 a0.asked.F.Client, li .i64 a0.asked.F.Session, li .i64 a0.asked.F.Start, li .i64 a0.asked.F.Beat, vw Event.cod a0.asked.F.Events, li .i64 a0.asked.Session, li .i64 a0.asked.Beat, lb a0.busy, li .i64 a0.seq, li .i64 a0.thing, li .i64 a0.e], .cells [li .i64 a0.v.client, li .i64 a0.v.session, li .i64 a0.v.n, li .i64 a0.v.beat, li .i64 a0.v.start, vw Thing.cod a0.v.things, .osl 1000002 0 0 (a0.v.log_).length, .mp 1000003], .arr 58 Event.cod.sz 0 (a0.v.log_).length (getOf Event.cod a0.v.log_), .map (mapOf Key.cells Event.cod a0.v.wait)] = some (F29_e r) := by
 refine fn_to (D := D) (n := n + 8) (nt := 7) (rs := pc29_r) (c := p29c5) (L := [(0, qp 1000000 0)]) (M := (W30 a0)) (k := 4) rfl rfl rfl rfl rfl rfl rfl ?_
 unfold F29
 exact Sim.sr 1 [(2, qb false)] [] (.sr 5 [(2, qb a0.busy), (6, qb a0.busy), (5, qp 1000000 46), (4, qp 1000000 0), (3, qp 1000000 0)] [] (.ret .fn))
def F17_e : (Int × View) → PV × List Ob := fun r => (.one (li .i64 r.1), [.cells [li .i64 r.2.client, li .i64 r.2.session, li .i64 r.2.n, li .i64 r.2.beat, li .i64 r.2.start, vw Thing.cod r.2.things, .osl 1000001 1 0 (r.2.log_).length, .mp 1000002], .arr 58 Event.cod.sz 1 (r.2.log_).length (getOf Event.cod r.2.log_), .map (mapOf Key.cells Event.cod r.2.wait)])
def F17 (n : Nat) (a0 : View) : Option (Int × View) :=
 some (a0.beat, a0)
theorem F17_ok (n : Nat) (a0 : View) : ∀ r, F17 n a0 = some r → D 17 [.one (.ptr 1000000 0)] [.cells [li .i64 a0.client, li .i64 a0.session, li .i64 a0.n, li .i64 a0.beat, li .i64 a0.start, vw Thing.cod a0.things, .osl 1000001 0 0 (a0.log_).length, .mp 1000002], .arr 58 Event.cod.sz 0 (a0.log_).length (getOf Event.cod a0.log_), .map (mapOf Key.cells Event.cod a0.wait)] = some (F17_e r) := by
 refine fn_to (D := D) (n := n + 8) (nt := 7) (rs := pc17_r) (c := p17c5) (L := [(0, qp 1000000 0)]) (M := [(1000000, some (.cells (W17 a0))), (1000001, some (.arr 58 Event.cod.sz 0 (a0.log_).length (getOf Event.cod a0.log_))), (1000002, some (.map (mapOf Key.cells Event.cod a0.wait)))]) (k := 3) rfl rfl rfl rfl rfl rfl rfl ?_
 unfold F17
 exact Sim.sr 1 [(2, qj 0)] [] (.sr 5 [(2, qj a0.beat), (6, qj a0.beat), (5, qp 1000000 3), (4, qp 1000000 0), (3, qp 1000000 0)] [] (.ret .fn))
def F30_e : ((List Packet) × Client) → PV × List Ob := fun r => (.one (vw Packet.cod r.1), [.cells [li .i64 r.2.id_, li .i64 r.2.n, li .i64 r.2.session, .ptr 1000001 0, li .i64 r.2.asked.From, li .i64 r.2.asked.To, li .i64 r.2.asked.Kind, li .i64 r.2.asked.Seq, li .i64 r.2.asked.C.Kind, li .i64 r.2.asked.C.ID, li .i64 r.2.asked.C.Which, li .i64 r.2.asked.C.To, li .i64 r.2.asked.C.At.X, li .i64 r.2.asked.C.At.Y, li .i64 r.2.asked.C.F.a0.N, ls r.2.asked.C.F.a0.Text, li .i64 r.2.asked.C.F.a1.N, ls r.2.asked.C.F.a1.Text, li .i64 r.2.asked.C.F.a2.N, ls r.2.asked.C.F.a2.Text, li .i64 r.2.asked.C.F.a3.N, ls r.2.asked.C.F.a3.Text, li .i64 r.2.asked.C.Value.N, ls r.2.asked.C.Value.Text, li .i64 r.2.asked.C.Client, li .i64 r.2.asked.C.Session, li .i64 r.2.asked.C.Rect.X0, li .i64 r.2.asked.C.Rect.Y0, li .i64 r.2.asked.C.Rect.X1, li .i64 r.2.asked.C.Rect.Y1, li .i64 r.2.asked.E, li .i64 r.2.asked.ID, li .i64 r.2.asked.N.From, li .i64 r.2.asked.N.Beat, vw Thing.cod r.2.asked.N.Moved, vw Hand.cod r.2.asked.N.Hands, vw Thing.cod r.2.asked.N.Given, vw Command.cod r.2.asked.N.Watch, li .i64 r.2.asked.F.From, li .i64 r.2.asked.F.Client, li .i64 r.2.asked.F.Session, li .i64 r.2.asked.F.Start, li .i64 r.2.asked.F.Beat, vw Event.cod r.2.asked.F.Events, li .i64 r.2.asked.Session, li .i64 r.2.asked.Beat, lb r.2.busy, li .i64 r.2.seq, li .i64 r.2.thing, li .i64 r.2.e], .cells [li .i64 r.2.v.client, li .i64 r.2.v.session, li .i64 r.2.v.n, li .i64 r.2.v.beat, li .i64 r.2.v.start, vw Thing.cod r.2.v.things, .osl 1000002 1 0 (r.2.v.log_).length, .mp 1000003], .arr 58 Event.cod.sz 1 (r.2.v.log_).length (getOf Event.cod r.2.v.log_), .map (mapOf Key.cells Event.cod r.2.v.wait)])
def F30_l31 (n : Nat) (a0 : Client) : Nat → (List Packet) → Int → Int → Int → Int → Int → Int → (List Thing) → (List Event) → (List (Key × (List Event))) → Option ((List Packet) × Client)
 | 0, _, _, _, _, _, _, _, _, _, _ => none
 | m + 1, l21, i22, i23, i24, i25, i26, i27, l28, l29, l30 =>
  if decide (i22 < a0.n) then
   (F17 n (View.mk i23 i24 i25 i26 i27 l28 l29 l30)).bind fun (r32 : (Int × View)) =>
   if decide (r32.1 < 0) then
    some (l21, (Client.mk a0.id_ a0.n a0.session r32.2 a0.asked a0.busy a0.seq a0.thing a0.e))
   else
    (F17 n r32.2).bind fun (r33 : (Int × View)) =>
    if ((l21).length + 1) * 456 ≤ maxCells ∧ (l21).length + 1 ≤ maxCells then
     (F30_l31 n a0 m) (l21 ++ [(Packet.mk (IntKind.wrap .i64 (100 + a0.id_)) i22 5 0 (Command.mk 0 0 0 0 (Point.mk 0 0) (A4.mk (Field.mk 0 ByteArray.empty) (Field.mk 0 ByteArray.empty) (Field.mk 0 ByteArray.empty) (Field.mk 0 ByteArray.empty)) (Field.mk 0 ByteArray.empty) 0 0 (Rect.mk 0 0 0 0)) 0 0 (Note.mk 0 0 ([] : List Thing) ([] : List Hand) ([] : List Thing) ([] : List Command)) (Frame.mk 0 0 0 0 0 ([] : List Event)) a0.session r33.1)]) (IntKind.wrap .i64 (i22 + 1)) r33.2.client r33.2.session r33.2.n r33.2.beat r33.2.start r33.2.things r33.2.log_ r33.2.wait
    else none
  else
   some (l21, (Client.mk a0.id_ a0.n a0.session (View.mk i23 i24 i25 i26 i27 l28 l29 l30) a0.asked a0.busy a0.seq a0.thing a0.e))
theorem F30_l31_ok (n : Nat) (a0 : Client) : ∀ (m : Nat) (l21 : (List Packet)) (i22 i23 i24 i25 i26 i27 : Int) (l28 : (List Thing)) (l29 : (List Event)) (l30 : (List (Key × (List Event)))), SimL Try.prog D (n + 8) m p30c27 (W39 l21 a0 i22) (W2 l21 a0 i23 i24 i25 i26 i27 l28 l29 l30) (F30_l31 n a0 m l21 i22 i23 i24 i25 i26 i27 l28 l29 l30) (QB 0 (QT Try.prog D (n + 8) p30c33 (QF false pc30_r 4 F30_e))) := by
 intro m_l31
 induction m_l31 with
 | zero => intro l21 i22 i23 i24 i25 i26 i27 l28 l29 l30; exact SimL.zero'  rfl
 | succ m_l31 ih_l31 =>
  intro l21 i22 i23 i24 i25 i26 i27 l28 l29 l30
  refine SimL.succ ?_
  unfold F30_l31
  refine Sim.seq (.rg (W39 l21 a0 i22) (W2 l21 a0 i23 i24 i25 i26 i27 l28 l29 l30) (.rd 1 [(21, qb (decide (i22 < a0.n)))] [] (.thenN (.seq (.cd _ ?_ ?_)))))
  ·refine Sim.skip (.thenN (.seq (.block (.sr 2 [(4, qj i22), (22, qj i22)] [] (.seq (.st 4 W48 [] (.bn ⟨some 27, .gcall false false W38 [[]] 17 [26], none, []⟩ (fun r32 => [(27, qj r32.1)]) (fun r32 => (W24 r32)) (fun r32 hr => pe (gq (ks := W38) (ARGS := [qp 1000001 0]) (F17_ok _ _ _ hr))) (fun r32 => ?_))))))))
   refine SimI.rd 1 [(28, qb (decide (r32.1 < 0)))] [] (.thenN (.cd _ ?_ ?_))
   ·exact Sim.exit (.thenX (.blockY rfl (.thenX (.loopX (.blockX (.thenN (.sr 2 (rp [2, 49] (.one (.osl 100003 0 0 (l21).length))) [] (.ret (.fin (out_with (vs := [.one (vw Packet.cod l21)]) (ress_cons (resOf_own (c := Packet.cod) (k := 100003) (g := 0) (el := 73) (l := l21) (by kernel_rfl) (by kernel_rfl) (by kernel_rfl)) (ress_nil)) (by kernel_rfl)))))))))))
   ·refine Sim.skip (.thenN (.region0 (.rn 15 ((W33 a0 i22) ++ rp [32, 31, 30] (qp 1000000 0) ++ [(29, .one (.osl 100003 0 0 (l21).length))]) [] (.bn ⟨some 44, .gcall false false W38 [[]] 17 [43], none, [(43, .at_ 1000001 0)]⟩ (fun r33 => [(44, qj r33.1)]) (fun r33 => (W22 r33)) (fun r33 hr => pe (gq (ks := W38) (ARGS := [qp 1000001 0]) (F17_ok _ _ _ hr))) (fun r33 => ?_)))))
    refine SimI.rn 2 (W13 a0 i22 r33) [] (.gu ⟨some 47, .app 100003 73 42 456 29 46, none, [(29, Hint.obj 100003), (46, .imm)]⟩ (W25 l21 a0 i22 r33) (W15 l21 a0 i22 r33) (fun hc => pe (eff_appO (c := Packet.cod) (g := 0) (l := l21) (a := (Packet.mk (iw .i64 (100 + a0.id_)) i22 5 0 (Command.mk 0 0 0 0 (Point.mk 0 0) (A4.mk (Field.mk 0 be) (Field.mk 0 be) (Field.mk 0 be) (Field.mk 0 be)) (Field.mk 0 be) 0 0 (Rect.mk 0 0 0 0)) 0 0 (Note.mk 0 0 ([] : List Thing) ([] : List Hand) ([] : List Thing) ([] : List Command)) (Frame.mk 0 0 0 0 0 ([] : List Event)) a0.session r33.1)) (by kernel_rfl) (by kernel_rfl) (by kernel_rfl) (by kernel_rfl) hc)) (.rd 1 (W26 l21 a0 i22 r33) [] (.blockN (.thenN (.region0 (.rd 2 (rp [20, 48] (qj (iw .i64 (i22 + 1)))) [] (.loopN (.pr [0, 3, 19, 20] W46 [(false, 3, 0, 100003, 73, 42)] (W21 l21 a0 i22 r33) (W6 l21 a0 i22 r33) ?_))))))))
    exact ih_l31 (l21 ++ [(Packet.mk (iw .i64 (100 + a0.id_)) i22 5 0 (Command.mk 0 0 0 0 (Point.mk 0 0) (A4.mk (Field.mk 0 be) (Field.mk 0 be) (Field.mk 0 be) (Field.mk 0 be)) (Field.mk 0 be) 0 0 (Rect.mk 0 0 0 0)) 0 0 (Note.mk 0 0 ([] : List Thing) ([] : List Hand) ([] : List Thing) ([] : List Command)) (Frame.mk 0 0 0 0 0 ([] : List Event)) a0.session r33.1)]) (iw .i64 (i22 + 1)) r33.2.client r33.2.session r33.2.n r33.2.beat r33.2.start r33.2.things r33.2.log_ r33.2.wait
  ·exact Sim.exit (.thenX (.loopX (.blockX (.thenN (.sr 2 (rp [2, 49] (.one (.osl 100003 0 0 (l21).length))) [] (.ret (.fin (out_with (vs := [.one (vw Packet.cod l21)]) (ress_cons (resOf_own (c := Packet.cod) (k := 100003) (g := 0) (el := 73) (l := l21) (by kernel_rfl) (by kernel_rfl) (by kernel_rfl)) (ress_nil)) (by kernel_rfl)))))))))
def F30_l64 (n : Nat) (a0 : Client) : Nat → (List Packet) → Int → Int → Int → Int → Int → Int → (List Thing) → (List Event) → (List (Key × (List Event))) → Option ((List Packet) × Client)
 | 0, _, _, _, _, _, _, _, _, _, _ => none
 | m + 1, l54, i55, i56, i57, i58, i59, i60, l61, l62, l63 =>
  if decide (i55 < a0.n) then
   (F17 n (View.mk i56 i57 i58 i59 i60 l61 l62 l63)).bind fun (r65 : (Int × View)) =>
   if decide (r65.1 < 0) then
    some (l54, (Client.mk a0.id_ a0.n a0.session r65.2 a0.asked a0.busy a0.seq a0.thing a0.e))
   else
    (F17 n r65.2).bind fun (r66 : (Int × View)) =>
    if ((l54).length + 1) * 456 ≤ maxCells ∧ (l54).length + 1 ≤ maxCells then
     (F30_l64 n a0 m) (l54 ++ [(Packet.mk (IntKind.wrap .i64 (100 + a0.id_)) i55 5 0 (Command.mk 0 0 0 0 (Point.mk 0 0) (A4.mk (Field.mk 0 ByteArray.empty) (Field.mk 0 ByteArray.empty) (Field.mk 0 ByteArray.empty) (Field.mk 0 ByteArray.empty)) (Field.mk 0 ByteArray.empty) 0 0 (Rect.mk 0 0 0 0)) 0 0 (Note.mk 0 0 ([] : List Thing) ([] : List Hand) ([] : List Thing) ([] : List Command)) (Frame.mk 0 0 0 0 0 ([] : List Event)) a0.session r66.1)]) (IntKind.wrap .i64 (i55 + 1)) r66.2.client r66.2.session r66.2.n r66.2.beat r66.2.start r66.2.things r66.2.log_ r66.2.wait
    else none
  else
   some (l54, (Client.mk a0.id_ a0.n a0.session (View.mk i56 i57 i58 i59 i60 l61 l62 l63) a0.asked a0.busy a0.seq a0.thing a0.e))
theorem F30_l64_ok (n : Nat) (a0 : Client) : ∀ (m : Nat) (l54 : (List Packet)) (i55 i56 i57 i58 i59 i60 : Int) (l61 : (List Thing)) (l62 : (List Event)) (l63 : (List (Key × (List Event)))), SimL Try.prog D (n + 8) m p30c27 (W39 l54 a0 i55) (W2 l54 a0 i56 i57 i58 i59 i60 l61 l62 l63) (F30_l64 n a0 m l54 i55 i56 i57 i58 i59 i60 l61 l62 l63) (QB 0 (QT Try.prog D (n + 8) p30c33 (QF false pc30_r 4 F30_e))) := by
 intro m_l64
 induction m_l64 with
 | zero => intro l54 i55 i56 i57 i58 i59 i60 l61 l62 l63; exact SimL.zero'  rfl
 | succ m_l64 ih_l64 =>
  intro l54 i55 i56 i57 i58 i59 i60 l61 l62 l63
  refine SimL.succ ?_
  unfold F30_l64
  refine Sim.seq (.rg (W39 l54 a0 i55) (W2 l54 a0 i56 i57 i58 i59 i60 l61 l62 l63) (.rd 1 [(21, qb (decide (i55 < a0.n)))] [] (.thenN (.seq (.cd _ ?_ ?_)))))
  ·refine Sim.skip (.thenN (.seq (.block (.sr 2 [(4, qj i55), (22, qj i55)] [] (.seq (.st 4 W48 [] (.bn ⟨some 27, .gcall false false W38 [[]] 17 [26], none, []⟩ (fun r65 => [(27, qj r65.1)]) (fun r65 => (W24 r65)) (fun r65 hr => pe (gq (ks := W38) (ARGS := [qp 1000001 0]) (F17_ok _ _ _ hr))) (fun r65 => ?_))))))))
   refine SimI.rd 1 [(28, qb (decide (r65.1 < 0)))] [] (.thenN (.cd _ ?_ ?_))
   ·exact Sim.exit (.thenX (.blockY rfl (.thenX (.loopX (.blockX (.thenN (.sr 2 (rp [2, 49] (.one (.osl 100003 0 0 (l54).length))) [] (.ret (.fin (out_with (vs := [.one (vw Packet.cod l54)]) (ress_cons (resOf_own (c := Packet.cod) (k := 100003) (g := 0) (el := 73) (l := l54) (by kernel_rfl) (by kernel_rfl) (by kernel_rfl)) (ress_nil)) (by kernel_rfl)))))))))))
   ·refine Sim.skip (.thenN (.region0 (.rn 15 ((W33 a0 i55) ++ rp [32, 31, 30] (qp 1000000 0) ++ [(29, .one (.osl 100003 0 0 (l54).length))]) [] (.bn ⟨some 44, .gcall false false W38 [[]] 17 [43], none, [(43, .at_ 1000001 0)]⟩ (fun r66 => [(44, qj r66.1)]) (fun r66 => (W22 r66)) (fun r66 hr => pe (gq (ks := W38) (ARGS := [qp 1000001 0]) (F17_ok _ _ _ hr))) (fun r66 => ?_)))))
    refine SimI.rn 2 (W13 a0 i55 r66) [] (.gu ⟨some 47, .app 100003 73 42 456 29 46, none, [(29, Hint.obj 100003), (46, .imm)]⟩ (W25 l54 a0 i55 r66) (W15 l54 a0 i55 r66) (fun hc => pe (eff_appO (c := Packet.cod) (g := 0) (l := l54) (a := (Packet.mk (iw .i64 (100 + a0.id_)) i55 5 0 (Command.mk 0 0 0 0 (Point.mk 0 0) (A4.mk (Field.mk 0 be) (Field.mk 0 be) (Field.mk 0 be) (Field.mk 0 be)) (Field.mk 0 be) 0 0 (Rect.mk 0 0 0 0)) 0 0 (Note.mk 0 0 ([] : List Thing) ([] : List Hand) ([] : List Thing) ([] : List Command)) (Frame.mk 0 0 0 0 0 ([] : List Event)) a0.session r66.1)) (by kernel_rfl) (by kernel_rfl) (by kernel_rfl) (by kernel_rfl) hc)) (.rd 1 (W26 l54 a0 i55 r66) [] (.blockN (.thenN (.region0 (.rd 2 (rp [20, 48] (qj (iw .i64 (i55 + 1)))) [] (.loopN (.pr [0, 3, 19, 20] W46 [(false, 3, 0, 100003, 73, 42)] (W21 l54 a0 i55 r66) (W6 l54 a0 i55 r66) ?_))))))))
    exact ih_l64 (l54 ++ [(Packet.mk (iw .i64 (100 + a0.id_)) i55 5 0 (Command.mk 0 0 0 0 (Point.mk 0 0) (A4.mk (Field.mk 0 be) (Field.mk 0 be) (Field.mk 0 be) (Field.mk 0 be)) (Field.mk 0 be) 0 0 (Rect.mk 0 0 0 0)) 0 0 (Note.mk 0 0 ([] : List Thing) ([] : List Hand) ([] : List Thing) ([] : List Command)) (Frame.mk 0 0 0 0 0 ([] : List Event)) a0.session r66.1)]) (iw .i64 (i55 + 1)) r66.2.client r66.2.session r66.2.n r66.2.beat r66.2.start r66.2.things r66.2.log_ r66.2.wait
  ·exact Sim.exit (.thenX (.loopX (.blockX (.thenN (.sr 2 (rp [2, 49] (.one (.osl 100003 0 0 (l54).length))) [] (.ret (.fin (out_with (vs := [.one (vw Packet.cod l54)]) (ress_cons (resOf_own (c := Packet.cod) (k := 100003) (g := 0) (el := 73) (l := l54) (by kernel_rfl) (by kernel_rfl) (by kernel_rfl)) (ress_nil)) (by kernel_rfl)))))))))
def F30 (n : Nat) (a0 : Client) : Option ((List Packet) × Client) :=
 if a0.busy then
  if (([] : List Packet).length + 1) * 456 ≤ maxCells ∧ ([] : List Packet).length + 1 ≤ maxCells then
   F30_l31 n a0 (n + 8) [a0.asked] 0 a0.v.client a0.v.session a0.v.n a0.v.beat a0.v.start a0.v.things a0.v.log_ a0.v.wait
  else none
 else
  F30_l64 n a0 (n + 8) ([] : List Packet) 0 a0.v.client a0.v.session a0.v.n a0.v.beat a0.v.start a0.v.things a0.v.log_ a0.v.wait
theorem F30_ok (n : Nat) (a0 : Client) : ∀ r, F30 n a0 = some r → D 30 [.one (.ptr 1000000 0)] [.cells [li .i64 a0.id_, li .i64 a0.n, li .i64 a0.session, .ptr 1000001 0, li .i64 a0.asked.From, li .i64 a0.asked.To, li .i64 a0.asked.Kind, li .i64 a0.asked.Seq, li .i64 a0.asked.C.Kind, li .i64 a0.asked.C.ID, li .i64 a0.asked.C.Which, li .i64 a0.asked.C.To, li .i64 a0.asked.C.At.X, li .i64 a0.asked.C.At.Y, li .i64 a0.asked.C.F.a0.N, ls a0.asked.C.F.a0.Text, li .i64 a0.asked.C.F.a1.N, ls a0.asked.C.F.a1.Text, li .i64 a0.asked.C.F.a2.N, ls a0.asked.C.F.a2.Text, li .i64 a0.asked.C.F.a3.N, ls a0.asked.C.F.a3.Text, li .i64 a0.asked.C.Value.N, ls a0.asked.C.Value.Text, li .i64 a0.asked.C.Client, li .i64 a0.asked.C.Session, li .i64 a0.asked.C.Rect.X0, li .i64 a0.asked.C.Rect.Y0, li .i64 a0.asked.C.Rect.X1, li .i64 a0.asked.C.Rect.Y1, li .i64 a0.asked.E, li .i64 a0.asked.ID, li .i64 a0.asked.N.From, li .i64 a0.asked.N.Beat, vw Thing.cod a0.asked.N.Moved, vw Hand.cod a0.asked.N.Hands, vw Thing.cod a0.asked.N.Given, vw Command.cod a0.asked.N.Watch, li .i64 a0.asked.F.From, li .i64 a0.asked.F.Client, li .i64 a0.asked.F.Session, li .i64 a0.asked.F.Start, li .i64 a0.asked.F.Beat, vw Event.cod a0.asked.F.Events, li .i64 a0.asked.Session, li .i64 a0.asked.Beat, lb a0.busy, li .i64 a0.seq, li .i64 a0.thing, li .i64 a0.e], .cells [li .i64 a0.v.client, li .i64 a0.v.session, li .i64 a0.v.n, li .i64 a0.v.beat, li .i64 a0.v.start, vw Thing.cod a0.v.things, .osl 1000002 0 0 (a0.v.log_).length, .mp 1000003], .arr 58 Event.cod.sz 0 (a0.v.log_).length (getOf Event.cod a0.v.log_), .map (mapOf Key.cells Event.cod a0.v.wait)] = some (F30_e r) := by
 refine fn_to (D := D) (n := n + 8) (nt := 50) (rs := pc30_r) (c := p30c39) (L := [(0, qp 1000000 0)]) (M := (W30 a0)) (k := 4) rfl rfl rfl rfl rfl rfl rfl ?_
 unfold F30
 refine Sim.sr 1 [(2, .one (lnil))] [] (.scope (.sr 1 [(3, .one (lnil))] [] (.seq (.sr 4 [(8, qb a0.busy), (7, qp 1000000 46), (6, qp 1000000 0), (5, qp 1000000 0)] [] (.cd _ ?_ ?_)))))
 ·refine Sim.region0 (.rn 6 [(14, .one (vw Packet.cod [a0.asked])), (13, .agg [lj a0.asked.From, lj a0.asked.To, lj a0.asked.Kind, lj a0.asked.Seq, lj a0.asked.C.Kind, lj a0.asked.C.ID, lj a0.asked.C.Which, lj a0.asked.C.To, lj a0.asked.C.At.X, lj a0.asked.C.At.Y, lj a0.asked.C.F.a0.N, ls a0.asked.C.F.a0.Text, lj a0.asked.C.F.a1.N, ls a0.asked.C.F.a1.Text, lj a0.asked.C.F.a2.N, ls a0.asked.C.F.a2.Text, lj a0.asked.C.F.a3.N, ls a0.asked.C.F.a3.Text, lj a0.asked.C.Value.N, ls a0.asked.C.Value.Text, lj a0.asked.C.Client, lj a0.asked.C.Session, lj a0.asked.C.Rect.X0, lj a0.asked.C.Rect.Y0, lj a0.asked.C.Rect.X1, lj a0.asked.C.Rect.Y1, lj a0.asked.E, lj a0.asked.ID, lj a0.asked.N.From, lj a0.asked.N.Beat, vw Thing.cod a0.asked.N.Moved, vw Hand.cod a0.asked.N.Hands, vw Thing.cod a0.asked.N.Given, vw Command.cod a0.asked.N.Watch, lj a0.asked.F.From, lj a0.asked.F.Client, lj a0.asked.F.Session, lj a0.asked.F.Start, lj a0.asked.F.Beat, vw Event.cod a0.asked.F.Events, lj a0.asked.Session, lj a0.asked.Beat]), (12, qp 1000000 4), (11, qp 1000000 0), (10, qp 1000000 0), (9, .one (lnil))] [] (.gu ⟨some 15, .app 100003 73 42 456 9 14, none, []⟩ [(15, .one (.osl 100003 0 0 ([a0.asked]).length))] [(100003, some (.arr 73 Packet.cod.sz 0 ([a0.asked]).length (getOf Packet.cod [a0.asked])))] (fun hc => pe (eff_appN (c := Packet.cod) (a := a0.asked) (by kernel_rfl) (by kernel_rfl) (by kernel_rfl) (by kernel_rfl) (by kernel_rfl) (by kernel_rfl))) (.rd 1 [(3, .one (.osl 100003 0 0 ([a0.asked]).length))] [] (.thenN (.seq (.label (.thenN (.seq (.sr 5 [(20, qj 0), (19, qj a0.n), (18, qp 1000000 1), (17, qp 1000000 0), (16, qp 1000000 0)] [] (.block (.loop (.pr [0, 3, 19, 20] W46 [(false, 3, 0, 100003, 73, 42)] [(0, qp 1000000 0), (3, .one (.osl 100003 0 0 ([a0.asked]).length)), (19, qj a0.n), (20, qj 0)] [(100003, some (.arr 73 Packet.cod.sz 0 ([a0.asked]).length (getOf Packet.cod [a0.asked]))), (1000000, some (.cells (W0 a0))), (1000001, some (.cells (W44 a0))), (1000002, some (.arr 58 Event.cod.sz 1 (a0.v.log_).length (getOf Event.cod a0.v.log_))), (1000003, some (.map (mapOf Key.cells Event.cod a0.v.wait)))] ?_))))))))))))
  exact F30_l31_ok n a0 (n + 8) [a0.asked] 0 a0.v.client a0.v.session a0.v.n a0.v.beat a0.v.start a0.v.things a0.v.log_ a0.v.wait
 ·refine Sim.skip (.thenN (.seq (.label (.thenN (.seq (.sr 5 [(20, qj 0), (19, qj a0.n), (18, qp 1000000 1), (17, qp 1000000 0), (16, qp 1000000 0)] [] (.block (.loop (.pr [0, 3, 19, 20] W46 [(false, 3, 0, 100003, 73, 42)] [(0, qp 1000000 0), (3, .one (.osl 100003 0 0 (([] : List Packet)).length)), (19, qj a0.n), (20, qj 0)] [(100003, some (.arr 73 Packet.cod.sz 0 (([] : List Packet)).length (getOf Packet.cod ([] : List Packet)))), (1000000, some (.cells (W0 a0))), (1000001, some (.cells (W44 a0))), (1000002, some (.arr 58 Event.cod.sz 1 (a0.v.log_).length (getOf Event.cod a0.v.log_))), (1000003, some (.map (mapOf Key.cells Event.cod a0.v.wait)))] ?_)))))))))
  exact F30_l64_ok n a0 (n + 8) ([] : List Packet) 0 a0.v.client a0.v.session a0.v.n a0.v.beat a0.v.start a0.v.things a0.v.log_ a0.v.wait
theorem F25_ok (n : Nat) : ∀ r, (some true : Option Bool) = some r → D 25 [] [] = some (.one (lb r), []) := by
 rintro _ ⟨⟩
 exact all_of (N := 60) (by kernel_rfl)
def F26_e : Bool → PV × List Ob := fun r => (.one (lb r), [])
def F26 (n : Nat) (a0 : Command) : Option Bool :=
 if decide ((40 : Int) < (a0.F.a0.Text.size : Int)) then
  some false
 else
  if decide ((40 : Int) < (a0.F.a1.Text.size : Int)) then
   some false
  else
   if decide ((40 : Int) < (a0.F.a2.Text.size : Int)) then
    some false
   else
    if decide ((40 : Int) < (a0.F.a3.Text.size : Int)) then
     some false
    else
     some (decide ((a0.Value.Text.size : Int) ≤ 40))
theorem F26_ok (n : Nat) (a0 : Command) : ∀ r, F26 n a0 = some r → D 26 [.agg (Command.cells a0)] [] = some (F26_e r) := by
 refine fn_to (D := D) (n := n + 8) (nt := 20) (rs := pc26_r) (c := p26c26) (L := [(0, .agg (Command.cells a0))]) (M := []) (k := 0) rfl rfl rfl rfl rfl rfl rfl ?_
 unfold F26
 refine Sim.sr 2 [(2, qb false), (1, qp 1 0)] (W12 a0) (.seq (.sr 1 [(3, qj 0)] [] (.block (.loop (.succ (.seq (.seq (.rg [(1, qp 1 0), (3, qj 0)] (W12 a0) (.rd 2 [(5, qb true), (4, qj 0)] [] (.thenN (.ct (.skip (.thenN (.seq (.block (.sr 7 [(14, qb (decide ((40 : Int) < (a0.F.a0.Text.size : Int)))), (13, qj (a0.F.a0.Text.size : Int)), (12, qs a0.F.a0.Text), (11, qp 1 7), (10, qp 1 6), (9, qp 1 6), (8, qj 0)] [] (.cd _ ?_ ?_)))))))))))))))))
 ·exact Sim.sr 1 [(2, qb false)] [] (.ret (.blockR (.thenR (.loopR (.blockR (.thenR .fn))))))
 ·refine Sim.skip (.blockN (.thenN (.region0 (.rd 3 [(3, qj 1), (7, qj 1), (6, qj 0)] [] (.loopN (.succ (.seq (.seq (.rg [(1, qp 1 0), (3, qj 1)] (W12 a0) (.rd 2 [(5, qb true), (4, qj 1)] [] (.thenN (.ct (.skip (.thenN (.seq (.block (.sr 7 [(14, qb (decide ((40 : Int) < (a0.F.a1.Text.size : Int)))), (13, qj (a0.F.a1.Text.size : Int)), (12, qs a0.F.a1.Text), (11, qp 1 9), (10, qp 1 8), (9, qp 1 6), (8, qj 1)] [] (.cd _ ?_ ?_))))))))))))))))))
  ·exact Sim.sr 1 [(2, qb false)] [] (.ret (.blockR (.thenR (.loopR (.blockR (.thenR .fn))))))
  ·refine Sim.skip (.blockN (.thenN (.region0 (.rd 3 [(3, qj 2), (7, qj 2), (6, qj 1)] [] (.loopN (.succ (.seq (.seq (.rg [(1, qp 1 0), (3, qj 2)] (W12 a0) (.rd 2 [(5, qb true), (4, qj 2)] [] (.thenN (.ct (.skip (.thenN (.seq (.block (.sr 7 [(14, qb (decide ((40 : Int) < (a0.F.a2.Text.size : Int)))), (13, qj (a0.F.a2.Text.size : Int)), (12, qs a0.F.a2.Text), (11, qp 1 11), (10, qp 1 10), (9, qp 1 6), (8, qj 2)] [] (.cd _ ?_ ?_))))))))))))))))))
   ·exact Sim.sr 1 [(2, qb false)] [] (.ret (.blockR (.thenR (.loopR (.blockR (.thenR .fn))))))
   ·refine Sim.skip (.blockN (.thenN (.region0 (.rd 3 [(3, qj 3), (7, qj 3), (6, qj 2)] [] (.loopN (.succ (.seq (.seq (.rg [(1, qp 1 0), (3, qj 3)] (W12 a0) (.rd 2 [(5, qb true), (4, qj 3)] [] (.thenN (.ct (.skip (.thenN (.seq (.block (.sr 7 [(14, qb (decide ((40 : Int) < (a0.F.a3.Text.size : Int)))), (13, qj (a0.F.a3.Text.size : Int)), (12, qs a0.F.a3.Text), (11, qp 1 13), (10, qp 1 12), (9, qp 1 6), (8, qj 3)] [] (.cd _ ?_ ?_))))))))))))))))))
    ·exact Sim.sr 1 [(2, qb false)] [] (.ret (.blockR (.thenR (.loopR (.blockR (.thenR .fn))))))
    ·exact Sim.skip (.blockN (.thenN (.region0 (.rd 3 [(3, qj 4), (7, qj 4), (6, qj 3)] [] (.loopN (.succ (.seq (.seq (.rg [(1, qp 1 0), (3, qj 4)] (W12 a0) (.rd 2 [(5, qb false), (4, qj 4)] [] (.thenN (.cf (.exit (.thenX (.loopX (.blockX (.thenN (.sr 6 (rp [2, 19] (qb (decide ((a0.Value.Text.size : Int) ≤ 40))) ++ [(18, qj (a0.Value.Text.size : Int)), (17, qs a0.Value.Text), (16, qp 1 15), (15, qp 1 14)]) [] (.ret .fn)))))))))))))))))))
def F8_e : Bool → PV × List Ob := fun r => (.one (lb r), [])
def F8_j5 (n : Nat) (r4 : (Packet × Int × Client)) : Option Bool :=
  if r4.2.1 == 19 then
   (F29 n r4.2.2).bind fun (r6 : (Bool × Client)) =>
   if !(r6.1) then
    (F30 n r6.2).bind fun (r7 : ((List Packet) × Client)) =>
    some (((r7.1).length : Int) == 0)
   else
    some false
  else
   some false
theorem F8_j5_ok (n : Nat) (a0 a1 : Int) (a2 : Command) (r4 : (Packet × Int × Client)) : Sim Try.prog D (n + 8) p8c22 [(8, qp 300000 0), (10, qj r4.2.1)] (W31 r4) (F8_j5 n r4) (QB 0 (QT Try.prog D (n + 8) p8c37 (QF false pc8_r 0 F8_e))) := by
  unfold F8_j5
  refine Sim.seq (.rs (.rn 3 (rp [40, 39] (qb (r4.2.1 == 19)) ++ [(38, qj r4.2.1)]) [] (.sp 40 _ ?_ ?_)))
  ·refine SimI.rn 1 [(41, qp 300000 0)] [] (.bn ⟨some 42, .gcall false false W20 [[]] 29 [41], some (40, true), []⟩ (fun r6 => [(42, qb r6.1)]) (fun r6 => [(300000, some (.cells (W5 r6))), (300001, some (.cells [lj r6.2.v.client, lj r6.2.v.session, lj r6.2.v.n, lj r6.2.v.beat, lj r6.2.v.start, vw Thing.cod r6.2.v.things, .osl 300002 (0 + 1) 0 (r6.2.v.log_).length, .mp 300003])), (300002, some (.arr 58 Event.cod.sz (0 + 1) (r6.2.v.log_).length (getOf Event.cod r6.2.v.log_))), (300003, some (.map (mapOf Key.cells Event.cod r6.2.v.wait)))]) (fun r6 hr => pe (gq (ks := W20) (ARGS := [qp 300000 0]) (F29_ok _ _ _ hr))) (fun r6 => ?_))
   refine SimI.rn 3 (rp [45, 44, 43] (qb (!(r6.1)))) [] (.sp 45 _ ?_ ?_)
   ·refine SimI.rn 1 [(46, qp 300000 0)] [] (.bn ⟨some 47, .gcall false false W20 [[]] 30 [46], some (45, true), []⟩ (fun r7 => [(47, .one (vw Packet.cod r7.1))]) (fun r7 => (W50 r7)) (fun r7 hr => pe (gq (ks := W20) (ARGS := [qp 300000 0]) (F30_ok _ _ _ hr))) (fun r7 => ?_))
    exact SimI.rd 4 (rp [6, 50, 49] (qb (((r7.1).length : Int) == 0)) ++ [(48, qj ((r7.1).length : Int))]) [] (.thenN (.ret (.blockR (.thenR .fn))))
   ·exact SimI.rd 6 [(6, qb false), (50, qb false), (49, tz), (48, tz), (47, tz), (46, tz)] [] (.thenN (.ret (.blockR (.thenR .fn))))
  ·exact SimI.rd 11 [(6, qb false), (50, qb false), (49, tz), (48, tz), (47, tz), (46, tz), (45, qb false), (44, qb false), (43, tz), (42, tz), (41, tz)] [] (.thenN (.ret (.blockR (.thenR .fn))))
def F8 (n : Nat) (a0 a1 : Int) (a2 : Command) : Option Bool :=
 ((some true)).bind fun (r1 : Bool) =>
 if !(r1) then
  some false
 else
  (F26 n a2).bind fun (r2 : Bool) =>
  if !(r2) then
   some true
  else
   (F27 n 3 (IntKind.wrap .i64 (IntKind.wrap .i64 (Int.tmod a0 4) + 1))).bind fun (r3 : Client) =>
   (F28 n r3 a1 a2).bind fun (r4 : (Packet × Int × Client)) =>
   if decide (a1 < 0) then
    F8_j5 n r4
   else
    if decide (IntKind.wrap .i64 (IntKind.wrap .i64 (Int.tmod a0 4) + 1) ≤ a1) then
     F8_j5 n r4
    else
     if r4.2.1 != 0 then
      if r4.2.1 == 11 then
       (F29 n r4.2.2).bind fun (r8 : (Bool × Client)) =>
       if !(r8.1) then
        (F30 n r8.2).bind fun (r9 : ((List Packet) × Client)) =>
        some (((r9.1).length : Int) == 0)
       else
        some false
      else
       some false
     else
      (F30 n r4.2.2).bind fun (r10 : ((List Packet) × Client)) =>
      (F29 n r10.2).bind fun (r11 : (Bool × Client)) =>
      if r11.1 then
       if r4.1.From == 103 then
        if r4.1.To == a1 then
         if r4.1.Seq == 1 then
          if r4.1.C.Client == 3 then
           if r4.1.C.Session == 1 then
            if r4.1.C.Kind == a2.Kind then
             if r4.1.C.ID == a2.ID then
              if Point.eqb r4.1.C.At a2.At then
               if ((r10.1).length : Int) == 1 then
                (ix r10.1 0).bind fun (x12 : Packet) =>
                some (Command.eqb x12.C r4.1.C)
               else
                some false
              else
               some false
             else
              some false
            else
             some false
           else
            some false
          else
           some false
         else
          some false
        else
         some false
       else
        some false
      else
       some false
theorem F8_ok (n : Nat) (a0 a1 : Int) (a2 : Command) : ∀ r, F8 n a0 a1 a2 = some r → D 8 [.one (li .u8 a0), .one (li .i64 a1), .agg (Command.cells a2)] [] = some (F8_e r) := by
 refine fn_to (D := D) (n := n + 8) (nt := 137) (rs := pc8_r) (c := p8c44) (L := [(0, .one (li .u8 a0)), (1, qj a1), (2, .agg (Command.cells a2))]) (M := []) (k := 0) rfl rfl rfl rfl rfl rfl rfl ?_
 unfold F8
 refine Sim.sr 2 [(6, qb false), (5, qp 5 0)] [(5, some (.cells (Command.cells a2)))] (.seq (.seq (.region0 (.cl 12 true [] 25 [] none (fun r1 => qb r1) [] (F25_ok n) (fun r1 => ?_)))))
 refine SimI.rd 1 [(13, qb (!(r1)))] [] (.thenN (.cd _ ?_ ?_))
 ·exact Sim.sr 1 [(6, qb false)] [] (.ret (.thenR .fn))
 ·refine Sim.skip (.thenN (.seq (.st 1 [(14, .agg (Command.cells a2))] [] (.cl 15 true [[]] 26 [14] none (fun r2 => qb r2) [.agg (Command.cells a2)] (F26_ok _ _) (fun r2 => ?_)))))
  refine SimI.rd 1 [(16, qb (!(r2)))] [] (.thenN (.cd _ ?_ ?_))
  ·exact Sim.sr 1 [(6, qb true)] [] (.ret (.thenR .fn))
  ·refine Sim.skip (.thenN (.sr 5 (rp [7, 20] (qj (iw .i64 (iw .i64 (Int.tmod a0 4) + 1))) ++ [(19, qj (iw .i64 (Int.tmod a0 4))), (18, .one (li .u8 (Int.tmod a0 4))), (17, .one (li .u8 a0))]) [] (.st 1 [(21, qj (iw .i64 (iw .i64 (Int.tmod a0 4) + 1)))] [] (.bn ⟨some 22, .gcall false false W19 [[], []] 27 [kk 3, 21], none, []⟩ (fun r3 => [(22, qp 300000 0)]) (fun r3 => (W7 r3)) (fun r3 hr => pe (eff_gcall (ks := []) (rks := []) (new := W20) (ARGS := (W49 a0)) (args1 := (W49 a0)) (args2 := (W49 a0)) (os := []) (os' := [.cells (W0 r3), .cells (W16 r3), .arr 58 Event.cod.sz 0 (r3.v.log_).length (getOf Event.cod r3.v.log_), .map (mapOf Key.cells Event.cod r3.v.wait)]) (os1 := [.cells (W0 r3), .cells (W16 r3), .arr 58 Event.cod.sz 0 (r3.v.log_).length (getOf Event.cod r3.v.log_), .map (mapOf Key.cells Event.cod r3.v.wait)]) (res := qp 1000000 0) (res1 := qp 1000000 0) (r := qp 300000 0) (N := (W7 r3)) (by kernel_rfl) (readA_ow (readA_keep (by kernel_rfl) (readA_keep (by kernel_rfl) (readA_nil)))) (by kernel_rfl) (by kernel_rfl) (by kernel_rfl) (by kernel_rfl) (F27_ok _ _ _ _ hr) (by kernel_rfl) (by kernel_rfl) (by kernel_rfl) rfl (by kernel_rfl) (by kernel_rfl) (by kernel_rfl))) (fun r3 => ?_)))))
   refine SimI.rd 1 [(8, qp 300000 0)] [] (.thenN (.st 3 [(26, .agg (Command.cells a2)), (25, qj a1), (24, qp 300000 0)] [] (.bn ⟨some 27, .gcall false false W20 [[], [], []] 28 [24, 25, 26], none, []⟩ (fun r4 => [(27, .tup [.agg (W4 r4), qj r4.2.1])]) (fun r4 => [(300000, some (.cells (W3 r4))), (300001, some (.cells [lj r4.2.2.v.client, lj r4.2.2.v.session, lj r4.2.2.v.n, lj r4.2.2.v.beat, lj r4.2.2.v.start, vw Thing.cod r4.2.2.v.things, .osl 300002 (0 + 1) 0 (r4.2.2.v.log_).length, .mp 300003])), (300002, some (.arr 58 Event.cod.sz (0 + 1) (r4.2.2.v.log_).length (getOf Event.cod r4.2.2.v.log_))), (300003, some (.map (mapOf Key.cells Event.cod r4.2.2.v.wait)))]) (fun r4 hr => pe (gq (ks := W20) (ARGS := [qp 300000 0, qj a1, .agg (Command.cells a2)]) (F28_ok _ _ _ _ _ hr))) (fun r4 => ?_))))
   refine SimI.rd 6 [(10, qj r4.2.1), (9, qp 9 0), (29, qj r4.2.1), (28, .agg (W4 r4)), (23, .tup [.agg (W4 r4), qj r4.2.1])] [(9, some (.cells (W4 r4))), (9, some (.cells W1))] (.thenN (.seq (.block (.st 3 (rp [33, 32] (qb (decide (a1 < 0))) ++ [(31, qj a1)]) [] (.sp 33 _ ?_ ?_)))))
   ·refine SimI.rd 5 [(30, qb true), (37, qb true), (36, tz), (35, tz), (34, tz)] [] (.thenN (.ct (.pr [8, 10] [5, 9, 300000, 300001, 300002, 300003] [] [(8, qp 300000 0), (10, qj r4.2.1)] (W31 r4) ?_)))
    exact F8_j5_ok n a0 a1 a2 r4
   ·refine SimI.rd 5 (rp [30, 37, 36] (qb (decide (iw .i64 (iw .i64 (Int.tmod a0 4) + 1) ≤ a1))) ++ [(35, qj (iw .i64 (iw .i64 (Int.tmod a0 4) + 1))), (34, qj a1)]) [] (.thenN (.cd _ ?_ ?_))
    ·refine Sim.pr [8, 10] [5, 9, 300000, 300001, 300002, 300003] [] [(8, qp 300000 0), (10, qj r4.2.1)] (W31 r4) ?_
     exact F8_j5_ok n a0 a1 a2 r4
    ·refine Sim.sr 3 (rp [51, 53] (qb (r4.2.1 != 0)) ++ [(52, qj r4.2.1)]) [] (.cd _ ?_ ?_)
     ·refine Sim.st 3 (rp [56, 55] (qb (r4.2.1 == 11)) ++ [(54, qj r4.2.1)]) [] (.sp 56 _ ?_ ?_)
      ·refine SimI.rn 1 [(57, qp 300000 0)] [] (.bn ⟨some 58, .gcall false false W20 [[]] 29 [57], some (56, true), []⟩ (fun r8 => [(58, qb r8.1)]) (fun r8 => [(300000, some (.cells (W5 r8))), (300001, some (.cells [lj r8.2.v.client, lj r8.2.v.session, lj r8.2.v.n, lj r8.2.v.beat, lj r8.2.v.start, vw Thing.cod r8.2.v.things, .osl 300002 ((0 + 1) + 1) 0 (r8.2.v.log_).length, .mp 300003])), (300002, some (.arr 58 Event.cod.sz ((0 + 1) + 1) (r8.2.v.log_).length (getOf Event.cod r8.2.v.log_))), (300003, some (.map (mapOf Key.cells Event.cod r8.2.v.wait)))]) (fun r8 hr => pe (gq (ks := W20) (ARGS := [qp 300000 0]) (F29_ok _ _ _ hr))) (fun r8 => ?_))
       refine SimI.rn 3 (rp [61, 60, 59] (qb (!(r8.1)))) [] (.sp 61 _ ?_ ?_)
       ·refine SimI.rn 1 [(62, qp 300000 0)] [] (.bn ⟨some 63, .gcall false false W20 [[]] 30 [62], some (61, true), []⟩ (fun r9 => [(63, .one (vw Packet.cod r9.1))]) (fun r9 => [(300000, some (.cells (W29 r9))), (300001, some (.cells [lj r9.2.v.client, lj r9.2.v.session, lj r9.2.v.n, lj r9.2.v.beat, lj r9.2.v.start, vw Thing.cod r9.2.v.things, .osl 300002 (((0 + 1) + 1) + 1) 0 (r9.2.v.log_).length, .mp 300003])), (300002, some (.arr 58 Event.cod.sz (((0 + 1) + 1) + 1) (r9.2.v.log_).length (getOf Event.cod r9.2.v.log_))), (300003, some (.map (mapOf Key.cells Event.cod r9.2.v.wait)))]) (fun r9 hr => pe (gq (ks := W20) (ARGS := [qp 300000 0]) (F30_ok _ _ _ hr))) (fun r9 => ?_))
        exact SimI.rd 4 (rp [6, 66, 65] (qb (((r9.1).length : Int) == 0)) ++ [(64, qj ((r9.1).length : Int))]) [] (.thenN (.ret (.blockR (.thenR .fn))))
       ·exact SimI.rd 6 [(6, qb false), (66, qb false), (65, tz), (64, tz), (63, tz), (62, tz)] [] (.thenN (.ret (.blockR (.thenR .fn))))
      ·exact SimI.rd 11 [(6, qb false), (66, qb false), (65, tz), (64, tz), (63, tz), (62, tz), (61, qb false), (60, qb false), (59, tz), (58, tz), (57, tz)] [] (.thenN (.ret (.blockR (.thenR .fn))))
     ·refine Sim.skip (.blockN (.thenN (.st 1 [(67, qp 300000 0)] [] (.bn ⟨some 68, .gcall false false W20 [[]] 30 [67], none, []⟩ (fun r10 => [(68, .one (vw Packet.cod r10.1))]) (fun r10 => (W50 r10)) (fun r10 hr => pe (gq (ks := W20) (ARGS := [qp 300000 0]) (F30_ok _ _ _ hr))) (fun r10 => ?_)))))
      refine SimI.rd 1 [(11, .one (vw Packet.cod r10.1))] [] (.thenN (.st 1 [(69, qp 300000 0)] [] (.bn ⟨some 70, .gcall false false W20 [[]] 29 [69], none, [(69, .at_ 300000 0)]⟩ (fun r11 => [(70, qb r11.1)]) (fun r11 => [(300000, some (.cells (W5 r11))), (300001, some (.cells [lj r11.2.v.client, lj r11.2.v.session, lj r11.2.v.n, lj r11.2.v.beat, lj r11.2.v.start, vw Thing.cod r11.2.v.things, .osl 300002 (((0 + 1) + 1) + 1) 0 (r11.2.v.log_).length, .mp 300003])), (300002, some (.arr 58 Event.cod.sz (((0 + 1) + 1) + 1) (r11.2.v.log_).length (getOf Event.cod r11.2.v.log_))), (300003, some (.map (mapOf Key.cells Event.cod r11.2.v.wait)))]) (fun r11 hr => pe (gq (ks := W20) (ARGS := [qp 300000 0]) (F29_ok _ _ _ hr))) (fun r11 => ?_))))
      refine SimI.rn 1 [(71, qb r11.1)] [] (.sp 71 _ ?_ ?_)
      ·refine SimI.rn 5 (rp [76, 75, 74] (qb (r4.1.From == 103)) ++ [(73, qj r4.1.From), (72, qp 9 0)]) [] (.sp 76 _ ?_ ?_)
       ·refine SimI.rn 6 (rp [82, 81, 80] (qb (r4.1.To == a1)) ++ [(79, qj a1), (78, qj r4.1.To), (77, qp 9 1)]) [] (.sp 82 _ ?_ ?_)
        ·refine SimI.rn 5 (rp [87, 86, 85] (qb (r4.1.Seq == 1)) ++ [(84, qj r4.1.Seq), (83, qp 9 3)]) [] (.sp 87 _ ?_ ?_)
         ·refine SimI.rn 6 (rp [93, 92, 91] (qb (r4.1.C.Client == 3)) ++ [(90, qj r4.1.C.Client), (89, qp 9 20), (88, qp 9 4)]) [] (.sp 93 _ ?_ ?_)
          ·refine SimI.rn 6 (rp [99, 98, 97] (qb (r4.1.C.Session == 1)) ++ [(96, qj r4.1.C.Session), (95, qp 9 21), (94, qp 9 4)]) [] (.sp 99 _ ?_ ?_)
           ·refine SimI.rn 8 (rp [107, 106, 105] (qb (r4.1.C.Kind == a2.Kind)) ++ [(104, qj a2.Kind), (103, qp 5 0), (102, qj r4.1.C.Kind), (101, qp 9 4), (100, qp 9 4)]) [] (.sp 107 _ ?_ ?_)
            ·refine SimI.rn 8 (rp [115, 114, 113] (qb (r4.1.C.ID == a2.ID)) ++ [(112, qj a2.ID), (111, qp 5 1), (110, qj r4.1.C.ID), (109, qp 9 5), (108, qp 9 4)]) [] (.sp 115 _ ?_ ?_)
             ·refine SimI.rn 5 [(120, .agg [lj a2.At.X, lj a2.At.Y]), (119, qp 5 4), (118, .agg [lj r4.1.C.At.X, lj r4.1.C.At.Y]), (117, qp 9 8), (116, qp 9 4)] [] (.se ⟨some 121, .prim (.bin .eql 49 false false) [118, 120], some (115, true), [(118, .imm), (120, .imm)]⟩ [(121, qb (Point.eqb r4.1.C.At a2.At))] [] (pe (ep (Point_eql r4.1.C.At a2.At _ _))) (.rn 2 (rp [123, 122] (qb (Point.eqb r4.1.C.At a2.At))) [] (.sp 123 _ ?_ ?_)))
              ·refine SimI.rn 5 (rp [128, 127, 126] (qb (((r10.1).length : Int) == 1)) ++ [(125, qj ((r10.1).length : Int)), (124, .one (vw Packet.cod r10.1))]) [] (.sp 128 _ ?_ ?_)
               ·refine SimI.rn 1 [(129, .one (vw Packet.cod r10.1))] [] (.bn ⟨some 130, .iaddrS 42 129 (kk 0), some (128, true), [(129, .imm)]⟩ (fun x12 => [(130, .one (.eptr (Packet.cod.enc x12) 0))]) (fun x12 => []) (fun x12 hr => pe (ei (c := Packet.cod) (k := .i64) hr)) (fun x12 => ?_))
                exact SimI.rn 4 [(134, .agg (Command.cells r4.1.C)), (133, qp 9 4), (132, .agg (Command.cells x12.C)), (131, .one (.eptr (Packet.cod.enc x12) 4))] [] (.se ⟨some 135, .prim (.bin .eql 63 false false) [132, 134], some (128, true), [(132, .imm), (134, .imm)]⟩ [(135, qb (Command.eqb x12.C r4.1.C))] [] (pe (ep (Command_eql x12.C r4.1.C _ _))) (.rd 2 (rp [6, 136] (qb (Command.eqb x12.C r4.1.C))) [] (.thenN (.ret .fn))))
               ·exact SimI.rd 9 (W28 ++ rp W27 tz) [] (.thenN (.ret .fn))
              ·exact SimI.rd 14 (W28 ++ rp W27 tz ++ [(128, qb false), (127, qb false), (126, tz), (125, tz), (124, tz)]) [] (.thenN (.ret .fn))
             ·exact SimI.rd 22 (W28 ++ rp W27 tz ++ W14 ++ rp W35 tz) [] (.thenN (.ret .fn))
            ·exact SimI.rd 30 (W28 ++ rp W27 tz ++ W14 ++ rp W35 tz ++ W36 ++ rp W40 tz) [] (.thenN (.ret .fn))
           ·exact SimI.rd 38 (W28 ++ rp W27 tz ++ W14 ++ rp W35 tz ++ W36 ++ rp W40 tz ++ W42 ++ rp W45 tz) [] (.thenN (.ret .fn))
          ·exact SimI.rd 44 (W28 ++ rp W27 tz ++ W14 ++ rp W35 tz ++ W36 ++ rp W40 tz ++ W42 ++ rp W45 tz ++ [(99, qb false), (98, qb false), (97, tz), (96, tz), (95, tz), (94, tz)]) [] (.thenN (.ret .fn))
         ·exact SimI.rd 50 (W28 ++ rp W27 tz ++ W14 ++ rp W35 tz ++ W36 ++ rp W40 tz ++ W42 ++ rp W45 tz ++ [(99, qb false), (98, qb false), (97, tz), (96, tz), (95, tz), (94, tz), (93, qb false), (92, qb false), (91, tz), (90, tz), (89, tz), (88, tz)]) [] (.thenN (.ret .fn))
        ·exact SimI.rd 55 (W28 ++ rp W27 tz ++ W14 ++ rp W35 tz ++ W36 ++ rp W40 tz ++ W42 ++ rp W45 tz ++ [(99, qb false), (98, qb false), (97, tz), (96, tz), (95, tz), (94, tz), (93, qb false), (92, qb false), (91, tz), (90, tz), (89, tz), (88, tz), (87, qb false), (86, qb false), (85, tz), (84, tz), (83, tz)]) [] (.thenN (.ret .fn))
       ·exact SimI.rd 61 (W28 ++ rp W27 tz ++ W14 ++ rp W35 tz ++ W36 ++ rp W40 tz ++ W42 ++ rp W45 tz ++ [(99, qb false), (98, qb false), (97, tz), (96, tz), (95, tz), (94, tz), (93, qb false), (92, qb false), (91, tz), (90, tz), (89, tz), (88, tz), (87, qb false), (86, qb false), (85, tz), (84, tz), (83, tz), (82, qb false), (81, qb false), (80, tz), (79, tz), (78, tz), (77, tz)]) [] (.thenN (.ret .fn))
      ·exact SimI.rd 66 (W28 ++ rp W27 tz ++ W14 ++ rp W35 tz ++ W36 ++ rp W40 tz ++ W42 ++ rp W45 tz ++ [(99, qb false), (98, qb false), (97, tz), (96, tz), (95, tz), (94, tz), (93, qb false), (92, qb false), (91, tz), (90, tz), (89, tz), (88, tz), (87, qb false), (86, qb false), (85, tz), (84, tz), (83, tz), (82, qb false), (81, qb false), (80, tz), (79, tz), (78, tz), (77, tz), (76, qb false), (75, qb false), (74, tz), (73, tz), (72, tz)]) [] (.thenN (.ret .fn))
end Go.Proofs.Ythdabpmcojmhhaa
