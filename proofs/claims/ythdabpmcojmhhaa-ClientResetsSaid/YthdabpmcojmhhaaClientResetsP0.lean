/- No condition. -/
import Derived.Test.YthdabpmcojmhhaaClientResetsE
namespace Go.Proofs.Ythdabpmcojmhhaa
open Go Go.Rx
set_option maxRecDepth 100000
set_option linter.unusedVariables false
set_option linter.unusedSimpArgs false
set_option linter.unnecessarySimpa false
set_option linter.unnecessarySimpa false
def F17_e : (Int × View) → PV × List Ob := fun r => (.one (li .i64 r.1), [.cells [li .i64 r.2.client, li .i64 r.2.session, li .i64 r.2.n, li .i64 r.2.beat, li .i64 r.2.start, vw Thing.cod r.2.things, .osl 1000001 1 0 (r.2.log_).length, .mp 1000002], .arr 58 Event.cod.sz 1 (r.2.log_).length (getOf Event.cod r.2.log_), .map (mapOf Key.cells Event.cod r.2.wait)])
def F17 (n : Nat) (a0 : View) : Option (Int × View) :=
 some (a0.beat, a0)
theorem F17_ok (n : Nat) (a0 : View) : ∀ r, F17 n a0 = some r → D 17 [.one (.ptr 1000000 0)] [.cells [li .i64 a0.client, li .i64 a0.session, li .i64 a0.n, li .i64 a0.beat, li .i64 a0.start, vw Thing.cod a0.things, .osl 1000001 0 0 (a0.log_).length, .mp 1000002], .arr 58 Event.cod.sz 0 (a0.log_).length (getOf Event.cod a0.log_), .map (mapOf Key.cells Event.cod a0.wait)] = some (F17_e r) := by
 refine fn_to (D := D) (n := n + 8) (nt := 7) (rs := pc17_r) (c := p17c5) (L := [(0, qp 1000000 0)]) (M := (W11 a0)) (k := 3) rfl rfl rfl rfl rfl rfl rfl ?_
 unfold F17
 exact Sim.sr 1 [(2, qj 0)] [] (.sr 5 [(2, qj a0.beat), (6, qj a0.beat), (5, qp 1000000 3), (4, qp 1000000 0), (3, qp 1000000 0)] [] (.ret .fn))
def F20_e : ((List Thing) × View) → PV × List Ob := fun r => (.one (vw Thing.cod r.1), [.cells [li .i64 r.2.client, li .i64 r.2.session, li .i64 r.2.n, li .i64 r.2.beat, li .i64 r.2.start, vw Thing.cod r.2.things, .osl 1000001 1 0 (r.2.log_).length, .mp 1000002], .arr 58 Event.cod.sz 1 (r.2.log_).length (getOf Event.cod r.2.log_), .map (mapOf Key.cells Event.cod r.2.wait)])
def F20 (n : Nat) (a0 : View) : Option ((List Thing) × View) :=
 (cloneL a0.things).bind fun (l1 : (List Thing)) =>
 some (l1, a0)
theorem F20_ok (n : Nat) (a0 : View) : ∀ r, F20 n a0 = some r → D 20 [.one (.ptr 1000000 0)] [.cells [li .i64 a0.client, li .i64 a0.session, li .i64 a0.n, li .i64 a0.beat, li .i64 a0.start, vw Thing.cod a0.things, .osl 1000001 0 0 (a0.log_).length, .mp 1000002], .arr 58 Event.cod.sz 0 (a0.log_).length (getOf Event.cod a0.log_), .map (mapOf Key.cells Event.cod a0.wait)] = some (F20_e r) := by
 refine fn_to (D := D) (n := n + 8) (nt := 8) (rs := pc20_r) (c := p20c5) (L := [(0, qp 1000000 0)]) (M := (W11 a0)) (k := 3) rfl rfl rfl rfl rfl rfl rfl ?_
 unfold F20
 refine Sim.sr 1 [(2, .one (lnil))] [] (.st 4 [(6, .one (vw Thing.cod a0.things)), (5, qp 1000000 5), (4, qp 1000000 0), (3, qp 1000000 0)] [] (.bn ⟨some 7, .gcall false true [399990, 399991] [[(0, 11)]] 50 [6], none, []⟩ (fun l1 => [(7, .one (vw Thing.cod l1))]) (fun l1 => []) (fun l1 hr => pe (eff_gcall (ks := []) (rks := []) (new := [399990]) (ARGS := [.one (vw Thing.cod a0.things)]) (args1 := [.one (vw Thing.cod a0.things)]) (args2 := [.one (vw Thing.cod a0.things)]) (os := []) (os' := [.arr 54 Thing.cod.sz 0 (l1).length (getOf Thing.cod l1)]) (os1 := [.arr 54 Thing.cod.sz 0 (l1).length (getOf Thing.cod l1)]) (res := .one (.osl 1000000 0 0 (l1).length)) (res1 := .one (vw Thing.cod l1)) (r := .one (vw Thing.cod l1)) (N := []) (by kernel_rfl) (readA_ow (readA_keep (by kernel_rfl) (readA_nil))) (by kernel_rfl) (by kernel_rfl) (by kernel_rfl) (by kernel_rfl) (D_b50 (l := a0.things) (r := l1) hr) (by kernel_rfl) (by kernel_rfl) (by kernel_rfl) (frz_new (c := Thing.cod) 54 l1) (by kernel_rfl) (by kernel_rfl) (by kernel_rfl))) (fun l1 => ?_)))
 exact SimI.rd 1 [(2, .one (vw Thing.cod l1))] [] (.thenN (.ret .fn))
def F13_e : View → PV × List Ob := fun r => (.one (.ptr 1000000 0), [.cells [li .i64 r.client, li .i64 r.session, li .i64 r.n, li .i64 r.beat, li .i64 r.start, vw Thing.cod r.things, .osl 1000001 0 0 (r.log_).length, .mp 1000002], .arr 58 Event.cod.sz 0 (r.log_).length (getOf Event.cod r.log_), .map (mapOf Key.cells Event.cod r.wait)])
def F13 (n : Nat) (a0 a1 a2 : Int) : Option View :=
 some (View.mk a0 a1 (imin (imax a2 1) 4) (-1) (-1) ([] : List Thing) ([] : List Event) ([] : (List (Key × (List Event)))))
theorem F13_ok (n : Nat) (a0 a1 a2 : Int) : ∀ r, F13 n a0 a1 a2 = some r → D 13 [.one (li .i64 a0), .one (li .i64 a1), .one (li .i64 a2)] [] = some (F13_e r) := by
 refine fn_to (D := D) (n := n + 8) (nt := 15) (rs := pc13_r) (c := p13c5) (L := [(0, qj a0), (1, qj a1), (2, qj a2)]) (M := []) (k := 0) rfl rfl rfl rfl rfl rfl rfl ?_
 unfold F13
 exact Sim.sr 1 [(6, .one (.val (.pointer none)))] [] (.sr 9 [(6, qp 14 0), (14, qp 14 0), (13, .agg [lj a0, lj a1, lj (imin (imax a2 1) 4), lj (-1), lj (-1), vw Thing.cod ([] : List Thing), lnil, .mp 12]), (12, .one (.mp 12)), (11, qj (imin (imax a2 1) 4)), (10, qj (imax a2 1)), (9, qj a2), (8, qj a1), (7, qj a0)] [(14, some (.cells [lj a0, lj a1, lj (imin (imax a2 1) 4), lj (-1), lj (-1), vw Thing.cod ([] : List Thing), .osl 400113 0 0 (([] : List Event)).length, .mp 12])), (400113, some (.arr 58 Event.cod.sz 0 (([] : List Event)).length (getOf Event.cod ([] : List Event)))), (12, some (.map (mapOf Key.cells Event.cod ([] : (List (Key × (List Event)))))))] (.ret .fn))
def F38s0_e (a0 a1 a2 a3 a4 a5 a6 a7 a8 a9 a10 a11 a12 a13 : Int) (a14 : ByteArray) (a15 : Int) (a16 : ByteArray) (a17 : Int) (a18 : ByteArray) (a19 : Int) (a20 : ByteArray) (a21 : Int) (a22 : ByteArray) (a23 a24 a25 a26 a27 a28 a29 a30 a31 a32 : Int) (a33 : (List Thing)) (a34 : (List Hand)) (a35 : (List Thing)) (a36 : (List Command)) (a37 a38 a39 a40 a41 : Int) (a42 : (List Event)) (a43 a44 : Int) (a45 : Bool) (a46 a47 a48 : Int) : (Int × (List Thing) × (List Hand) × (List Thing) × (List Command) × (List Event) × Int × Int × Int × Int × Int × (List Thing) × (List Event) × (List (Key × (List Event)))) → PV × List Ob := fun r => (.tup [], [.cells [li .i64 a0, li .i64 a1, li .i64 r.1, .ptr 1000001 0, li .i64 0, li .i64 0, li .i64 0, li .i64 0, li .i64 0, li .i64 0, li .i64 0, li .i64 0, li .i64 0, li .i64 0, li .i64 0, ls ByteArray.empty, li .i64 0, ls ByteArray.empty, li .i64 0, ls ByteArray.empty, li .i64 0, ls ByteArray.empty, li .i64 0, ls ByteArray.empty, li .i64 0, li .i64 0, li .i64 0, li .i64 0, li .i64 0, li .i64 0, li .i64 0, li .i64 0, li .i64 0, li .i64 0, vw Thing.cod r.2.1, vw Hand.cod r.2.2.1, vw Thing.cod r.2.2.2.1, vw Command.cod r.2.2.2.2.1, li .i64 0, li .i64 0, li .i64 0, li .i64 0, li .i64 0, vw Event.cod r.2.2.2.2.2.1, li .i64 0, li .i64 0, lb false, li .i64 0, li .i64 0, li .i64 0], .cells [li .i64 r.2.2.2.2.2.2.1, li .i64 r.2.2.2.2.2.2.2.1, li .i64 r.2.2.2.2.2.2.2.2.1, li .i64 r.2.2.2.2.2.2.2.2.2.1, li .i64 r.2.2.2.2.2.2.2.2.2.2.1, vw Thing.cod r.2.2.2.2.2.2.2.2.2.2.2.1, .osl 1000002 0 0 (r.2.2.2.2.2.2.2.2.2.2.2.2.1).length, .mp 1000003], .arr 58 Event.cod.sz 0 (r.2.2.2.2.2.2.2.2.2.2.2.2.1).length (getOf Event.cod r.2.2.2.2.2.2.2.2.2.2.2.2.1), .map (mapOf Key.cells Event.cod r.2.2.2.2.2.2.2.2.2.2.2.2.2)])
def F38s0 (n : Nat) (a0 a1 a2 a3 a4 a5 a6 a7 a8 a9 a10 a11 a12 a13 : Int) (a14 : ByteArray) (a15 : Int) (a16 : ByteArray) (a17 : Int) (a18 : ByteArray) (a19 : Int) (a20 : ByteArray) (a21 : Int) (a22 : ByteArray) (a23 a24 a25 a26 a27 a28 a29 a30 a31 a32 : Int) (a33 : (List Thing)) (a34 : (List Hand)) (a35 : (List Thing)) (a36 : (List Command)) (a37 a38 a39 a40 a41 : Int) (a42 : (List Event)) (a43 a44 : Int) (a45 : Bool) (a46 a47 a48 : Int) : Option (Int × (List Thing) × (List Hand) × (List Thing) × (List Command) × (List Event) × Int × Int × Int × Int × Int × (List Thing) × (List Event) × (List (Key × (List Event)))) :=
 (F13 n a0 (IntKind.wrap .i64 (a2 + 1)) a1).bind fun (r1 : View) =>
 some ((IntKind.wrap .i64 (a2 + 1)), ([] : List Thing), ([] : List Hand), ([] : List Thing), ([] : List Command), ([] : List Event), r1.client, r1.session, r1.n, r1.beat, r1.start, r1.things, r1.log_, r1.wait)
theorem F38s0_ok (n : Nat) (a0 a1 a2 a3 a4 a5 a6 a7 a8 a9 a10 a11 a12 a13 : Int) (a14 : ByteArray) (a15 : Int) (a16 : ByteArray) (a17 : Int) (a18 : ByteArray) (a19 : Int) (a20 : ByteArray) (a21 : Int) (a22 : ByteArray) (a23 a24 a25 a26 a27 a28 a29 a30 a31 a32 : Int) (a33 : (List Thing)) (a34 : (List Hand)) (a35 : (List Thing)) (a36 : (List Command)) (a37 a38 a39 a40 a41 : Int) (a42 : (List Event)) (a43 a44 : Int) (a45 : Bool) (a46 a47 a48 : Int) : ∀ r, F38s0 n a0 a1 a2 a3 a4 a5 a6 a7 a8 a9 a10 a11 a12 a13 a14 a15 a16 a17 a18 a19 a20 a21 a22 a23 a24 a25 a26 a27 a28 a29 a30 a31 a32 a33 a34 a35 a36 a37 a38 a39 a40 a41 a42 a43 a44 a45 a46 a47 a48 = some r → D 38 [.one (.ptr 1000000 0)] [.cells [li .i64 a0, li .i64 a1, li .i64 a2, .val (.pointer none), li .i64 a3, li .i64 a4, li .i64 a5, li .i64 a6, li .i64 a7, li .i64 a8, li .i64 a9, li .i64 a10, li .i64 a11, li .i64 a12, li .i64 a13, ls a14, li .i64 a15, ls a16, li .i64 a17, ls a18, li .i64 a19, ls a20, li .i64 a21, ls a22, li .i64 a23, li .i64 a24, li .i64 a25, li .i64 a26, li .i64 a27, li .i64 a28, li .i64 a29, li .i64 a30, li .i64 a31, li .i64 a32, vw Thing.cod a33, vw Hand.cod a34, vw Thing.cod a35, vw Command.cod a36, li .i64 a37, li .i64 a38, li .i64 a39, li .i64 a40, li .i64 a41, vw Event.cod a42, li .i64 a43, li .i64 a44, lb a45, li .i64 a46, li .i64 a47, li .i64 a48]] = some ((F38s0_e a0 a1 a2 a3 a4 a5 a6 a7 a8 a9 a10 a11 a12 a13 a14 a15 a16 a17 a18 a19 a20 a21 a22 a23 a24 a25 a26 a27 a28 a29 a30 a31 a32 a33 a34 a35 a36 a37 a38 a39 a40 a41 a42 a43 a44 a45 a46 a47 a48) r) := by
 refine fn_to (D := D) (n := n + 8) (nt := 41) (rs := pc38_r) (c := p38c5) (L := [(0, qp 1000000 0)]) (M := [(1000000, some (.cells [lj a0, lj a1, lj a2, .val (.pointer none), lj a3, lj a4, lj a5, lj a6, lj a7, lj a8, lj a9, lj a10, lj a11, lj a12, lj a13, ls a14, lj a15, ls a16, lj a17, ls a18, lj a19, ls a20, lj a21, ls a22, lj a23, lj a24, lj a25, lj a26, lj a27, lj a28, lj a29, lj a30, lj a31, lj a32, vw Thing.cod a33, vw Hand.cod a34, vw Thing.cod a35, vw Command.cod a36, lj a37, lj a38, lj a39, lj a40, lj a41, vw Event.cod a42, lj a43, lj a44, lb a45, lj a46, lj a47, lj a48]))]) (k := 1) rfl rfl rfl rfl rfl rfl rfl ?_
 unfold F38s0
 refine Sim.sr 8 (W65 a2) [(1000000, some (.cells [lj a0, lj a1, lj (iw .i64 (a2 + 1)), .val (.pointer none), lj a3, lj a4, lj a5, lj a6, lj a7, lj a8, lj a9, lj a10, lj a11, lj a12, lj a13, ls a14, lj a15, ls a16, lj a17, ls a18, lj a19, ls a20, lj a21, ls a22, lj a23, lj a24, lj a25, lj a26, lj a27, lj a28, lj a29, lj a30, lj a31, lj a32, vw Thing.cod a33, vw Hand.cod a34, vw Thing.cod a35, vw Command.cod a36, lj a37, lj a38, lj a39, lj a40, lj a41, vw Event.cod a42, lj a43, lj a44, lb a45, lj a46, lj a47, lj a48]))] (.st 13 ([(21, qj a1), (20, qp 1000000 1), (19, qp 1000000 0), (18, qp 1000000 0), (17, qj (iw .i64 (a2 + 1))), (16, qp 1000000 2), (15, qp 1000000 0), (14, qp 1000000 0), (13, qj a0)] ++ rp [12, 11, 10, 9] (qp 1000000 0)) [] (.bn ⟨some 22, .gcall false false W23 [[], [], []] 13 [13, 17, 21], none, [(13, .imm), (17, .imm), (21, .imm)]⟩ (fun r1 => [(22, qp 300000 0)]) (fun r1 => (W16 r1)) (fun r1 hr => pe (eff_gcall (ks := []) (rks := []) (new := [300000, 300001, 300002]) (ARGS := [qj a0, qj (iw .i64 (a2 + 1)), qj a1]) (args1 := [qj a0, qj (iw .i64 (a2 + 1)), qj a1]) (args2 := [qj a0, qj (iw .i64 (a2 + 1)), qj a1]) (os := []) (os' := [.cells (W32 r1), .arr 58 Event.cod.sz 0 (r1.log_).length (getOf Event.cod r1.log_), .map (mapOf Key.cells Event.cod r1.wait)]) (os1 := [.cells (W32 r1), .arr 58 Event.cod.sz 0 (r1.log_).length (getOf Event.cod r1.log_), .map (mapOf Key.cells Event.cod r1.wait)]) (res := qp 1000000 0) (res1 := qp 1000000 0) (r := qp 300000 0) (N := (W16 r1)) (by kernel_rfl) (readA_ow (readA_keep (by kernel_rfl) (readA_keep (by kernel_rfl) (readA_keep (by kernel_rfl) (readA_nil))))) (by kernel_rfl) (by kernel_rfl) (by kernel_rfl) (by kernel_rfl) (F13_ok _ _ _ _ _ hr) (by kernel_rfl) (by kernel_rfl) (by kernel_rfl) rfl (by kernel_rfl) (by kernel_rfl) (by kernel_rfl))) (fun r1 => ?_)))
 exact SimI.rd 3 [(24, qp 1000000 3), (23, qp 1000000 0)] [(1000000, some (.cells [lj a0, lj a1, lj (iw .i64 (a2 + 1)), .ptr 300000 0, lj a3, lj a4, lj a5, lj a6, lj a7, lj a8, lj a9, lj a10, lj a11, lj a12, lj a13, ls a14, lj a15, ls a16, lj a17, ls a18, lj a19, ls a20, lj a21, ls a22, lj a23, lj a24, lj a25, lj a26, lj a27, lj a28, lj a29, lj a30, lj a31, lj a32, vw Thing.cod a33, vw Hand.cod a34, vw Thing.cod a35, vw Command.cod a36, lj a37, lj a38, lj a39, lj a40, lj a41, vw Event.cod a42, lj a43, lj a44, lb a45, lj a46, lj a47, lj a48]))] (.thenN (.region0 (.rd 21 (W40 ++ rp [29, 28, 27, 26, 25] (qp 1000000 0)) [(1000000, some (.cells [lj a0, lj a1, lj (iw .i64 (a2 + 1)), .ptr 300000 0, lj 0, lj 0, lj 0, lj 0, lj 0, lj 0, lj 0, lj 0, lj 0, lj 0, lj 0, ls be, lj 0, ls be, lj 0, ls be, lj 0, ls be, lj 0, ls be, lj 0, lj 0, lj 0, lj 0, lj 0, lj 0, lj 0, lj 0, lj 0, lj 0, vw Thing.cod ([] : List Thing), vw Hand.cod ([] : List Hand), vw Thing.cod ([] : List Thing), vw Command.cod ([] : List Command), lj 0, lj 0, lj 0, lj 0, lj 0, vw Event.cod ([] : List Event), lj 0, lj 0, lb false, lj 0, lj 0, lj 0])), (1000000, some (.cells [lj a0, lj a1, lj (iw .i64 (a2 + 1)), .ptr 300000 0, lj 0, lj 0, lj 0, lj 0, lj 0, lj 0, lj 0, lj 0, lj 0, lj 0, lj 0, ls be, lj 0, ls be, lj 0, ls be, lj 0, ls be, lj 0, ls be, lj 0, lj 0, lj 0, lj 0, lj 0, lj 0, lj 0, lj 0, lj 0, lj 0, vw Thing.cod ([] : List Thing), vw Hand.cod ([] : List Hand), vw Thing.cod ([] : List Thing), vw Command.cod ([] : List Command), lj 0, lj 0, lj 0, lj 0, lj 0, vw Event.cod ([] : List Event), lj 0, lj 0, lb false, lj 0, lj 0, lj a48])), (1000000, some (.cells [lj a0, lj a1, lj (iw .i64 (a2 + 1)), .ptr 300000 0, lj 0, lj 0, lj 0, lj 0, lj 0, lj 0, lj 0, lj 0, lj 0, lj 0, lj 0, ls be, lj 0, ls be, lj 0, ls be, lj 0, ls be, lj 0, ls be, lj 0, lj 0, lj 0, lj 0, lj 0, lj 0, lj 0, lj 0, lj 0, lj 0, vw Thing.cod ([] : List Thing), vw Hand.cod ([] : List Hand), vw Thing.cod ([] : List Thing), vw Command.cod ([] : List Command), lj 0, lj 0, lj 0, lj 0, lj 0, vw Event.cod ([] : List Event), lj 0, lj 0, lb false, lj 0, lj a47, lj a48])), (1000000, some (.cells [lj a0, lj a1, lj (iw .i64 (a2 + 1)), .ptr 300000 0, lj 0, lj 0, lj 0, lj 0, lj 0, lj 0, lj 0, lj 0, lj 0, lj 0, lj 0, ls be, lj 0, ls be, lj 0, ls be, lj 0, ls be, lj 0, ls be, lj 0, lj 0, lj 0, lj 0, lj 0, lj 0, lj 0, lj 0, lj 0, lj 0, vw Thing.cod ([] : List Thing), vw Hand.cod ([] : List Hand), vw Thing.cod ([] : List Thing), vw Command.cod ([] : List Command), lj 0, lj 0, lj 0, lj 0, lj 0, vw Event.cod ([] : List Event), lj 0, lj 0, lb false, lj a46, lj a47, lj a48])), (1000000, some (.cells [lj a0, lj a1, lj (iw .i64 (a2 + 1)), .ptr 300000 0, lj 0, lj 0, lj 0, lj 0, lj 0, lj 0, lj 0, lj 0, lj 0, lj 0, lj 0, ls be, lj 0, ls be, lj 0, ls be, lj 0, ls be, lj 0, ls be, lj 0, lj 0, lj 0, lj 0, lj 0, lj 0, lj 0, lj 0, lj 0, lj 0, vw Thing.cod ([] : List Thing), vw Hand.cod ([] : List Hand), vw Thing.cod ([] : List Thing), vw Command.cod ([] : List Command), lj 0, lj 0, lj 0, lj 0, lj 0, vw Event.cod ([] : List Event), lj 0, lj 0, lb a45, lj a46, lj a47, lj a48]))] (.finN (by kernel_rfl)))))
def F38s1_e (a0 : (List Event)) (a1 a2 a3 a4 a5 a6 a7 a8 a9 a10 a11 a12 a13 a14 : Int) (a15 : ByteArray) (a16 : Int) (a17 : ByteArray) (a18 : Int) (a19 : ByteArray) (a20 : Int) (a21 : ByteArray) (a22 : Int) (a23 : ByteArray) (a24 a25 a26 a27 a28 a29 a30 a31 a32 a33 : Int) (a34 : (List Thing)) (a35 : (List Hand)) (a36 : (List Thing)) (a37 : (List Command)) (a38 a39 a40 a41 a42 : Int) (a43 : (List Event)) (a44 a45 : Int) (a46 : Bool) (a47 a48 a49 a50 a51 a52 a53 a54 : Int) (a55 : (List Thing)) (a56 : (List (Key × (List Event)))) : (Int × (List Thing) × (List Hand) × (List Thing) × (List Command) × (List Event) × Int × Int × Int × Int × Int × (List Thing) × (List Event) × (List (Key × (List Event)))) → PV × List Ob := fun r => (.tup [], [.cells [li .i64 a1, li .i64 a2, li .i64 r.1, .ptr 1000004 0, li .i64 0, li .i64 0, li .i64 0, li .i64 0, li .i64 0, li .i64 0, li .i64 0, li .i64 0, li .i64 0, li .i64 0, li .i64 0, ls ByteArray.empty, li .i64 0, ls ByteArray.empty, li .i64 0, ls ByteArray.empty, li .i64 0, ls ByteArray.empty, li .i64 0, ls ByteArray.empty, li .i64 0, li .i64 0, li .i64 0, li .i64 0, li .i64 0, li .i64 0, li .i64 0, li .i64 0, li .i64 0, li .i64 0, vw Thing.cod r.2.1, vw Hand.cod r.2.2.1, vw Thing.cod r.2.2.2.1, vw Command.cod r.2.2.2.2.1, li .i64 0, li .i64 0, li .i64 0, li .i64 0, li .i64 0, vw Event.cod r.2.2.2.2.2.1, li .i64 0, li .i64 0, lb false, li .i64 0, li .i64 0, li .i64 0], .cells [li .i64 a50, li .i64 a51, li .i64 a52, li .i64 a53, li .i64 a54, vw Thing.cod a55, .osl 1000002 1 0 (a0).length, .mp 1000003], .arr 58 Event.cod.sz 1 (a0).length (getOf Event.cod a0), .map (mapOf Key.cells Event.cod a56), .cells [li .i64 r.2.2.2.2.2.2.1, li .i64 r.2.2.2.2.2.2.2.1, li .i64 r.2.2.2.2.2.2.2.2.1, li .i64 r.2.2.2.2.2.2.2.2.2.1, li .i64 r.2.2.2.2.2.2.2.2.2.2.1, vw Thing.cod r.2.2.2.2.2.2.2.2.2.2.2.1, .osl 1000005 0 0 (r.2.2.2.2.2.2.2.2.2.2.2.2.1).length, .mp 1000006], .arr 58 Event.cod.sz 0 (r.2.2.2.2.2.2.2.2.2.2.2.2.1).length (getOf Event.cod r.2.2.2.2.2.2.2.2.2.2.2.2.1), .map (mapOf Key.cells Event.cod r.2.2.2.2.2.2.2.2.2.2.2.2.2)])
def F38s1 (n : Nat) (a0 : (List Event)) (a1 a2 a3 a4 a5 a6 a7 a8 a9 a10 a11 a12 a13 a14 : Int) (a15 : ByteArray) (a16 : Int) (a17 : ByteArray) (a18 : Int) (a19 : ByteArray) (a20 : Int) (a21 : ByteArray) (a22 : Int) (a23 : ByteArray) (a24 a25 a26 a27 a28 a29 a30 a31 a32 a33 : Int) (a34 : (List Thing)) (a35 : (List Hand)) (a36 : (List Thing)) (a37 : (List Command)) (a38 a39 a40 a41 a42 : Int) (a43 : (List Event)) (a44 a45 : Int) (a46 : Bool) (a47 a48 a49 a50 a51 a52 a53 a54 : Int) (a55 : (List Thing)) (a56 : (List (Key × (List Event)))) : Option (Int × (List Thing) × (List Hand) × (List Thing) × (List Command) × (List Event) × Int × Int × Int × Int × Int × (List Thing) × (List Event) × (List (Key × (List Event)))) :=
 (F13 n a1 (IntKind.wrap .i64 (a3 + 1)) a2).bind fun (r1 : View) =>
 some ((IntKind.wrap .i64 (a3 + 1)), ([] : List Thing), ([] : List Hand), ([] : List Thing), ([] : List Command), ([] : List Event), r1.client, r1.session, r1.n, r1.beat, r1.start, r1.things, r1.log_, r1.wait)
theorem F38s1_ok (n : Nat) (a0 : (List Event)) (a1 a2 a3 a4 a5 a6 a7 a8 a9 a10 a11 a12 a13 a14 : Int) (a15 : ByteArray) (a16 : Int) (a17 : ByteArray) (a18 : Int) (a19 : ByteArray) (a20 : Int) (a21 : ByteArray) (a22 : Int) (a23 : ByteArray) (a24 a25 a26 a27 a28 a29 a30 a31 a32 a33 : Int) (a34 : (List Thing)) (a35 : (List Hand)) (a36 : (List Thing)) (a37 : (List Command)) (a38 a39 a40 a41 a42 : Int) (a43 : (List Event)) (a44 a45 : Int) (a46 : Bool) (a47 a48 a49 a50 a51 a52 a53 a54 : Int) (a55 : (List Thing)) (a56 : (List (Key × (List Event)))) : ∀ r, F38s1 n a0 a1 a2 a3 a4 a5 a6 a7 a8 a9 a10 a11 a12 a13 a14 a15 a16 a17 a18 a19 a20 a21 a22 a23 a24 a25 a26 a27 a28 a29 a30 a31 a32 a33 a34 a35 a36 a37 a38 a39 a40 a41 a42 a43 a44 a45 a46 a47 a48 a49 a50 a51 a52 a53 a54 a55 a56 = some r → D 38 [.one (.ptr 1000000 0)] [.cells [li .i64 a1, li .i64 a2, li .i64 a3, .ptr 1000001 0, li .i64 a4, li .i64 a5, li .i64 a6, li .i64 a7, li .i64 a8, li .i64 a9, li .i64 a10, li .i64 a11, li .i64 a12, li .i64 a13, li .i64 a14, ls a15, li .i64 a16, ls a17, li .i64 a18, ls a19, li .i64 a20, ls a21, li .i64 a22, ls a23, li .i64 a24, li .i64 a25, li .i64 a26, li .i64 a27, li .i64 a28, li .i64 a29, li .i64 a30, li .i64 a31, li .i64 a32, li .i64 a33, vw Thing.cod a34, vw Hand.cod a35, vw Thing.cod a36, vw Command.cod a37, li .i64 a38, li .i64 a39, li .i64 a40, li .i64 a41, li .i64 a42, vw Event.cod a43, li .i64 a44, li .i64 a45, lb a46, li .i64 a47, li .i64 a48, li .i64 a49], .cells [li .i64 a50, li .i64 a51, li .i64 a52, li .i64 a53, li .i64 a54, vw Thing.cod a55, .osl 1000002 0 0 (a0).length, .mp 1000003], .arr 58 Event.cod.sz 0 (a0).length (getOf Event.cod a0), .map (mapOf Key.cells Event.cod a56)] = some ((F38s1_e a0 a1 a2 a3 a4 a5 a6 a7 a8 a9 a10 a11 a12 a13 a14 a15 a16 a17 a18 a19 a20 a21 a22 a23 a24 a25 a26 a27 a28 a29 a30 a31 a32 a33 a34 a35 a36 a37 a38 a39 a40 a41 a42 a43 a44 a45 a46 a47 a48 a49 a50 a51 a52 a53 a54 a55 a56) r) := by
 refine fn_to (D := D) (n := n + 8) (nt := 41) (rs := pc38_r) (c := p38c5) (L := [(0, qp 1000000 0)]) (M := [(1000000, some (.cells [lj a1, lj a2, lj a3, .ptr 1000001 0, lj a4, lj a5, lj a6, lj a7, lj a8, lj a9, lj a10, lj a11, lj a12, lj a13, lj a14, ls a15, lj a16, ls a17, lj a18, ls a19, lj a20, ls a21, lj a22, ls a23, lj a24, lj a25, lj a26, lj a27, lj a28, lj a29, lj a30, lj a31, lj a32, lj a33, vw Thing.cod a34, vw Hand.cod a35, vw Thing.cod a36, vw Command.cod a37, lj a38, lj a39, lj a40, lj a41, lj a42, vw Event.cod a43, lj a44, lj a45, lb a46, lj a47, lj a48, lj a49])), (1000001, some (.cells [lj a50, lj a51, lj a52, lj a53, lj a54, vw Thing.cod a55, .osl 1000002 0 0 (a0).length, .mp 1000003])), (1000002, some (.arr 58 Event.cod.sz 0 (a0).length (getOf Event.cod a0))), (1000003, some (.map (mapOf Key.cells Event.cod a56)))]) (k := 4) rfl rfl rfl rfl rfl rfl rfl ?_
 unfold F38s1
 refine Sim.sr 8 (W65 a3) [(1000000, some (.cells [lj a1, lj a2, lj (iw .i64 (a3 + 1)), .ptr 1000001 0, lj a4, lj a5, lj a6, lj a7, lj a8, lj a9, lj a10, lj a11, lj a12, lj a13, lj a14, ls a15, lj a16, ls a17, lj a18, ls a19, lj a20, ls a21, lj a22, ls a23, lj a24, lj a25, lj a26, lj a27, lj a28, lj a29, lj a30, lj a31, lj a32, lj a33, vw Thing.cod a34, vw Hand.cod a35, vw Thing.cod a36, vw Command.cod a37, lj a38, lj a39, lj a40, lj a41, lj a42, vw Event.cod a43, lj a44, lj a45, lb a46, lj a47, lj a48, lj a49]))] (.st 13 ([(21, qj a2), (20, qp 1000000 1), (19, qp 1000000 0), (18, qp 1000000 0), (17, qj (iw .i64 (a3 + 1))), (16, qp 1000000 2), (15, qp 1000000 0), (14, qp 1000000 0), (13, qj a1)] ++ rp [12, 11, 10, 9] (qp 1000000 0)) [] (.bn ⟨some 22, .gcall false false W23 [[], [], []] 13 [13, 17, 21], none, [(13, .imm), (17, .imm), (21, .imm)]⟩ (fun r1 => [(22, qp 300000 0)]) (fun r1 => (W16 r1)) (fun r1 hr => pe (eff_gcall (ks := []) (rks := []) (new := [300000, 300001, 300002]) (ARGS := [qj a1, qj (iw .i64 (a3 + 1)), qj a2]) (args1 := [qj a1, qj (iw .i64 (a3 + 1)), qj a2]) (args2 := [qj a1, qj (iw .i64 (a3 + 1)), qj a2]) (os := []) (os' := [.cells (W32 r1), .arr 58 Event.cod.sz 0 (r1.log_).length (getOf Event.cod r1.log_), .map (mapOf Key.cells Event.cod r1.wait)]) (os1 := [.cells (W32 r1), .arr 58 Event.cod.sz 0 (r1.log_).length (getOf Event.cod r1.log_), .map (mapOf Key.cells Event.cod r1.wait)]) (res := qp 1000000 0) (res1 := qp 1000000 0) (r := qp 300000 0) (N := (W16 r1)) (by kernel_rfl) (readA_ow (readA_keep (by kernel_rfl) (readA_keep (by kernel_rfl) (readA_keep (by kernel_rfl) (readA_nil))))) (by kernel_rfl) (by kernel_rfl) (by kernel_rfl) (by kernel_rfl) (F13_ok _ _ _ _ _ hr) (by kernel_rfl) (by kernel_rfl) (by kernel_rfl) rfl (by kernel_rfl) (by kernel_rfl) (by kernel_rfl))) (fun r1 => ?_)))
 exact SimI.rd 3 [(24, qp 1000000 3), (23, qp 1000000 0)] [(1000000, some (.cells [lj a1, lj a2, lj (iw .i64 (a3 + 1)), .ptr 300000 0, lj a4, lj a5, lj a6, lj a7, lj a8, lj a9, lj a10, lj a11, lj a12, lj a13, lj a14, ls a15, lj a16, ls a17, lj a18, ls a19, lj a20, ls a21, lj a22, ls a23, lj a24, lj a25, lj a26, lj a27, lj a28, lj a29, lj a30, lj a31, lj a32, lj a33, vw Thing.cod a34, vw Hand.cod a35, vw Thing.cod a36, vw Command.cod a37, lj a38, lj a39, lj a40, lj a41, lj a42, vw Event.cod a43, lj a44, lj a45, lb a46, lj a47, lj a48, lj a49]))] (.thenN (.region0 (.rd 21 (W40 ++ rp [29, 28, 27, 26, 25] (qp 1000000 0)) [(1000000, some (.cells [lj a1, lj a2, lj (iw .i64 (a3 + 1)), .ptr 300000 0, lj 0, lj 0, lj 0, lj 0, lj 0, lj 0, lj 0, lj 0, lj 0, lj 0, lj 0, ls be, lj 0, ls be, lj 0, ls be, lj 0, ls be, lj 0, ls be, lj 0, lj 0, lj 0, lj 0, lj 0, lj 0, lj 0, lj 0, lj 0, lj 0, vw Thing.cod ([] : List Thing), vw Hand.cod ([] : List Hand), vw Thing.cod ([] : List Thing), vw Command.cod ([] : List Command), lj 0, lj 0, lj 0, lj 0, lj 0, vw Event.cod ([] : List Event), lj 0, lj 0, lb false, lj 0, lj 0, lj 0])), (1000000, some (.cells [lj a1, lj a2, lj (iw .i64 (a3 + 1)), .ptr 300000 0, lj 0, lj 0, lj 0, lj 0, lj 0, lj 0, lj 0, lj 0, lj 0, lj 0, lj 0, ls be, lj 0, ls be, lj 0, ls be, lj 0, ls be, lj 0, ls be, lj 0, lj 0, lj 0, lj 0, lj 0, lj 0, lj 0, lj 0, lj 0, lj 0, vw Thing.cod ([] : List Thing), vw Hand.cod ([] : List Hand), vw Thing.cod ([] : List Thing), vw Command.cod ([] : List Command), lj 0, lj 0, lj 0, lj 0, lj 0, vw Event.cod ([] : List Event), lj 0, lj 0, lb false, lj 0, lj 0, lj a49])), (1000000, some (.cells [lj a1, lj a2, lj (iw .i64 (a3 + 1)), .ptr 300000 0, lj 0, lj 0, lj 0, lj 0, lj 0, lj 0, lj 0, lj 0, lj 0, lj 0, lj 0, ls be, lj 0, ls be, lj 0, ls be, lj 0, ls be, lj 0, ls be, lj 0, lj 0, lj 0, lj 0, lj 0, lj 0, lj 0, lj 0, lj 0, lj 0, vw Thing.cod ([] : List Thing), vw Hand.cod ([] : List Hand), vw Thing.cod ([] : List Thing), vw Command.cod ([] : List Command), lj 0, lj 0, lj 0, lj 0, lj 0, vw Event.cod ([] : List Event), lj 0, lj 0, lb false, lj 0, lj a48, lj a49])), (1000000, some (.cells [lj a1, lj a2, lj (iw .i64 (a3 + 1)), .ptr 300000 0, lj 0, lj 0, lj 0, lj 0, lj 0, lj 0, lj 0, lj 0, lj 0, lj 0, lj 0, ls be, lj 0, ls be, lj 0, ls be, lj 0, ls be, lj 0, ls be, lj 0, lj 0, lj 0, lj 0, lj 0, lj 0, lj 0, lj 0, lj 0, lj 0, vw Thing.cod ([] : List Thing), vw Hand.cod ([] : List Hand), vw Thing.cod ([] : List Thing), vw Command.cod ([] : List Command), lj 0, lj 0, lj 0, lj 0, lj 0, vw Event.cod ([] : List Event), lj 0, lj 0, lb false, lj a47, lj a48, lj a49])), (1000000, some (.cells [lj a1, lj a2, lj (iw .i64 (a3 + 1)), .ptr 300000 0, lj 0, lj 0, lj 0, lj 0, lj 0, lj 0, lj 0, lj 0, lj 0, lj 0, lj 0, ls be, lj 0, ls be, lj 0, ls be, lj 0, ls be, lj 0, ls be, lj 0, lj 0, lj 0, lj 0, lj 0, lj 0, lj 0, lj 0, lj 0, lj 0, vw Thing.cod ([] : List Thing), vw Hand.cod ([] : List Hand), vw Thing.cod ([] : List Thing), vw Command.cod ([] : List Command), lj 0, lj 0, lj 0, lj 0, lj 0, vw Event.cod ([] : List Event), lj 0, lj 0, lb a46, lj a47, lj a48, lj a49]))] (.finN (by kernel_rfl)))))
def F27_e : Client → PV × List Ob := fun r => (.one (.ptr 1000000 0), [.cells [li .i64 r.id_, li .i64 r.n, li .i64 r.session, .ptr 1000001 0, li .i64 r.asked.From, li .i64 r.asked.To, li .i64 r.asked.Kind, li .i64 r.asked.Seq, li .i64 r.asked.C.Kind, li .i64 r.asked.C.ID, li .i64 r.asked.C.Which, li .i64 r.asked.C.To, li .i64 r.asked.C.At.X, li .i64 r.asked.C.At.Y, li .i64 r.asked.C.F.a0.N, ls r.asked.C.F.a0.Text, li .i64 r.asked.C.F.a1.N, ls r.asked.C.F.a1.Text, li .i64 r.asked.C.F.a2.N, ls r.asked.C.F.a2.Text, li .i64 r.asked.C.F.a3.N, ls r.asked.C.F.a3.Text, li .i64 r.asked.C.Value.N, ls r.asked.C.Value.Text, li .i64 r.asked.C.Client, li .i64 r.asked.C.Session, li .i64 r.asked.C.Rect.X0, li .i64 r.asked.C.Rect.Y0, li .i64 r.asked.C.Rect.X1, li .i64 r.asked.C.Rect.Y1, li .i64 r.asked.E, li .i64 r.asked.ID, li .i64 r.asked.N.From, li .i64 r.asked.N.Beat, vw Thing.cod r.asked.N.Moved, vw Hand.cod r.asked.N.Hands, vw Thing.cod r.asked.N.Given, vw Command.cod r.asked.N.Watch, li .i64 r.asked.F.From, li .i64 r.asked.F.Client, li .i64 r.asked.F.Session, li .i64 r.asked.F.Start, li .i64 r.asked.F.Beat, vw Event.cod r.asked.F.Events, li .i64 r.asked.Session, li .i64 r.asked.Beat, lb r.busy, li .i64 r.seq, li .i64 r.thing, li .i64 r.e], .cells [li .i64 r.v.client, li .i64 r.v.session, li .i64 r.v.n, li .i64 r.v.beat, li .i64 r.v.start, vw Thing.cod r.v.things, .osl 1000002 0 0 (r.v.log_).length, .mp 1000003], .arr 58 Event.cod.sz 0 (r.v.log_).length (getOf Event.cod r.v.log_), .map (mapOf Key.cells Event.cod r.v.wait)])
def F27 (n : Nat) (a0 a1 : Int) : Option Client :=
 (F38s0 n (imin (imax a0 0) 3) (imin (imax a1 1) 4) 0 0 0 0 0 0 0 0 0 0 0 0 ByteArray.empty 0 ByteArray.empty 0 ByteArray.empty 0 ByteArray.empty 0 ByteArray.empty 0 0 0 0 0 0 0 0 0 0 ([] : List Thing) ([] : List Hand) ([] : List Thing) ([] : List Command) 0 0 0 0 0 ([] : List Event) 0 0 false 0 0 0).bind fun (r1 : (Int × (List Thing) × (List Hand) × (List Thing) × (List Command) × (List Event) × Int × Int × Int × Int × Int × (List Thing) × (List Event) × (List (Key × (List Event))))) =>
 some (Client.mk (imin (imax a0 0) 3) (imin (imax a1 1) 4) r1.1 (View.mk r1.2.2.2.2.2.2.1 r1.2.2.2.2.2.2.2.1 r1.2.2.2.2.2.2.2.2.1 r1.2.2.2.2.2.2.2.2.2.1 r1.2.2.2.2.2.2.2.2.2.2.1 r1.2.2.2.2.2.2.2.2.2.2.2.1 r1.2.2.2.2.2.2.2.2.2.2.2.2.1 r1.2.2.2.2.2.2.2.2.2.2.2.2.2) (Packet.mk 0 0 0 0 (Command.mk 0 0 0 0 (Point.mk 0 0) (A4.mk (Field.mk 0 ByteArray.empty) (Field.mk 0 ByteArray.empty) (Field.mk 0 ByteArray.empty) (Field.mk 0 ByteArray.empty)) (Field.mk 0 ByteArray.empty) 0 0 (Rect.mk 0 0 0 0)) 0 0 (Note.mk 0 0 r1.2.1 r1.2.2.1 r1.2.2.2.1 r1.2.2.2.2.1) (Frame.mk 0 0 0 0 0 r1.2.2.2.2.2.1) 0 0) false 0 0 0)
theorem F27_ok (n : Nat) (a0 a1 : Int) : ∀ r, F27 n a0 a1 = some r → D 27 [.one (li .i64 a0), .one (li .i64 a1)] [] = some (F27_e r) := by
 refine fn_to (D := D) (n := n + 8) (nt := 17) (rs := pc27_r) (c := p27c9) (L := [(0, qj a0), (1, qj a1)]) (M := []) (k := 0) rfl rfl rfl rfl rfl rfl rfl ?_
 unfold F27
 refine Sim.sr 1 [(4, .one (.val (.pointer none)))] [] (.sr 9 [(5, qp 13 0), (13, qp 13 0), (12, .agg (W14 a0 a1)), (11, qj (imin (imax a1 1) 4)), (10, qj (imax a1 1)), (9, qj a1), (8, qj (imin (imax a0 0) 3)), (7, qj (imax a0 0)), (6, qj a0)] [(13, some (.cells (W14 a0 a1)))] (.st 1 [(14, qp 13 0)] [] (.bn ⟨some 15, .gcall false false [13, 300000, 300001, 300002, 300003, 300004, 300005, 300006, 300007, 300008, 300009, 300010, 300011, 300012, 300013, 300014, 300015, 300016, 300017, 300018, 300019, 300020, 300021, 300022, 300023] [[]] 38 [14], none, []⟩ (fun r1 => [(15, tz)]) (fun r1 => [(13, some (.cells [lj (imin (imax a0 0) 3), lj (imin (imax a1 1) 4), lj r1.1, .ptr 300000 0, lj 0, lj 0, lj 0, lj 0, lj 0, lj 0, lj 0, lj 0, lj 0, lj 0, lj 0, ls be, lj 0, ls be, lj 0, ls be, lj 0, ls be, lj 0, ls be, lj 0, lj 0, lj 0, lj 0, lj 0, lj 0, lj 0, lj 0, lj 0, lj 0, vw Thing.cod r1.2.1, vw Hand.cod r1.2.2.1, vw Thing.cod r1.2.2.2.1, vw Command.cod r1.2.2.2.2.1, lj 0, lj 0, lj 0, lj 0, lj 0, vw Event.cod r1.2.2.2.2.2.1, lj 0, lj 0, lb false, lj 0, lj 0, lj 0])), (300000, some (.cells [lj r1.2.2.2.2.2.2.1, lj r1.2.2.2.2.2.2.2.1, lj r1.2.2.2.2.2.2.2.2.1, lj r1.2.2.2.2.2.2.2.2.2.1, lj r1.2.2.2.2.2.2.2.2.2.2.1, vw Thing.cod r1.2.2.2.2.2.2.2.2.2.2.2.1, .osl 300001 0 0 (r1.2.2.2.2.2.2.2.2.2.2.2.2.1).length, .mp 300002])), (300001, some (.arr 58 Event.cod.sz 0 (r1.2.2.2.2.2.2.2.2.2.2.2.2.1).length (getOf Event.cod r1.2.2.2.2.2.2.2.2.2.2.2.2.1))), (300002, some (.map (mapOf Key.cells Event.cod r1.2.2.2.2.2.2.2.2.2.2.2.2.2)))]) (fun r1 hr => pe (eff_gcall (ks := [13]) (rks := []) (new := [300000, 300001, 300002]) (ARGS := [qp 13 0]) (args1 := [qp 13 0]) (args2 := [qp 1000000 0]) (os := [.cells (W14 a0 a1)]) (os' := [.cells [lj (imin (imax a0 0) 3), lj (imin (imax a1 1) 4), lj r1.1, .ptr 1000001 0, lj 0, lj 0, lj 0, lj 0, lj 0, lj 0, lj 0, lj 0, lj 0, lj 0, lj 0, ls be, lj 0, ls be, lj 0, ls be, lj 0, ls be, lj 0, ls be, lj 0, lj 0, lj 0, lj 0, lj 0, lj 0, lj 0, lj 0, lj 0, lj 0, vw Thing.cod r1.2.1, vw Hand.cod r1.2.2.1, vw Thing.cod r1.2.2.2.1, vw Command.cod r1.2.2.2.2.1, lj 0, lj 0, lj 0, lj 0, lj 0, vw Event.cod r1.2.2.2.2.2.1, lj 0, lj 0, lb false, lj 0, lj 0, lj 0], .cells [lj r1.2.2.2.2.2.2.1, lj r1.2.2.2.2.2.2.2.1, lj r1.2.2.2.2.2.2.2.2.1, lj r1.2.2.2.2.2.2.2.2.2.1, lj r1.2.2.2.2.2.2.2.2.2.2.1, vw Thing.cod r1.2.2.2.2.2.2.2.2.2.2.2.1, .osl 1000002 0 0 (r1.2.2.2.2.2.2.2.2.2.2.2.2.1).length, .mp 1000003], .arr 58 Event.cod.sz 0 (r1.2.2.2.2.2.2.2.2.2.2.2.2.1).length (getOf Event.cod r1.2.2.2.2.2.2.2.2.2.2.2.2.1), .map (mapOf Key.cells Event.cod r1.2.2.2.2.2.2.2.2.2.2.2.2.2)]) (os1 := [.cells [lj (imin (imax a0 0) 3), lj (imin (imax a1 1) 4), lj r1.1, .ptr 1000001 0, lj 0, lj 0, lj 0, lj 0, lj 0, lj 0, lj 0, lj 0, lj 0, lj 0, lj 0, ls be, lj 0, ls be, lj 0, ls be, lj 0, ls be, lj 0, ls be, lj 0, lj 0, lj 0, lj 0, lj 0, lj 0, lj 0, lj 0, lj 0, lj 0, vw Thing.cod r1.2.1, vw Hand.cod r1.2.2.1, vw Thing.cod r1.2.2.2.1, vw Command.cod r1.2.2.2.2.1, lj 0, lj 0, lj 0, lj 0, lj 0, vw Event.cod r1.2.2.2.2.2.1, lj 0, lj 0, lb false, lj 0, lj 0, lj 0], .cells [lj r1.2.2.2.2.2.2.1, lj r1.2.2.2.2.2.2.2.1, lj r1.2.2.2.2.2.2.2.2.1, lj r1.2.2.2.2.2.2.2.2.2.1, lj r1.2.2.2.2.2.2.2.2.2.2.1, vw Thing.cod r1.2.2.2.2.2.2.2.2.2.2.2.1, .osl 1000002 0 0 (r1.2.2.2.2.2.2.2.2.2.2.2.2.1).length, .mp 1000003], .arr 58 Event.cod.sz 0 (r1.2.2.2.2.2.2.2.2.2.2.2.2.1).length (getOf Event.cod r1.2.2.2.2.2.2.2.2.2.2.2.2.1), .map (mapOf Key.cells Event.cod r1.2.2.2.2.2.2.2.2.2.2.2.2.2)]) (res := tz) (res1 := tz) (r := tz) (N := [(13, some (.cells [lj (imin (imax a0 0) 3), lj (imin (imax a1 1) 4), lj r1.1, .ptr 300000 0, lj 0, lj 0, lj 0, lj 0, lj 0, lj 0, lj 0, lj 0, lj 0, lj 0, lj 0, ls be, lj 0, ls be, lj 0, ls be, lj 0, ls be, lj 0, ls be, lj 0, lj 0, lj 0, lj 0, lj 0, lj 0, lj 0, lj 0, lj 0, lj 0, vw Thing.cod r1.2.1, vw Hand.cod r1.2.2.1, vw Thing.cod r1.2.2.2.1, vw Command.cod r1.2.2.2.2.1, lj 0, lj 0, lj 0, lj 0, lj 0, vw Event.cod r1.2.2.2.2.2.1, lj 0, lj 0, lb false, lj 0, lj 0, lj 0])), (300000, some (.cells [lj r1.2.2.2.2.2.2.1, lj r1.2.2.2.2.2.2.2.1, lj r1.2.2.2.2.2.2.2.2.1, lj r1.2.2.2.2.2.2.2.2.2.1, lj r1.2.2.2.2.2.2.2.2.2.2.1, vw Thing.cod r1.2.2.2.2.2.2.2.2.2.2.2.1, .osl 300001 0 0 (r1.2.2.2.2.2.2.2.2.2.2.2.2.1).length, .mp 300002])), (300001, some (.arr 58 Event.cod.sz 0 (r1.2.2.2.2.2.2.2.2.2.2.2.2.1).length (getOf Event.cod r1.2.2.2.2.2.2.2.2.2.2.2.2.1))), (300002, some (.map (mapOf Key.cells Event.cod r1.2.2.2.2.2.2.2.2.2.2.2.2.2)))]) (by kernel_rfl) (readA_ow (readA_keep (by kernel_rfl) (readA_nil))) (by kernel_rfl) (by kernel_rfl) (by kernel_rfl) (by kernel_rfl) (F38s0_ok _ _ _ _ _ _ _ _ _ _ _ _ _ _ _ _ _ _ _ _ _ _ _ _ _ _ _ _ _ _ _ _ _ _ _ _ _ _ _ _ _ _ _ _ _ _ _ _ _ _ _ hr) (by kernel_rfl) (by kernel_rfl) (by kernel_rfl) rfl (by kernel_rfl) (by kernel_rfl) (by kernel_rfl))) (fun r1 => ?_))))
 exact SimI.dn (.thenN (.sr 2 [(4, qp 13 0), (16, qp 13 0)] [] (.ret .fn)))
def F62_e : Bool → PV × List Ob := fun r => (.one (lb r), [])
def F62 (n : Nat) (a0 : Field) : Option Bool :=
 if a0.N == 0 then
  some (decide ((a0.Text.size : Int) ≤ 12))
 else
  if a0.Text.toList == ByteArray.empty.toList then
   some (decide ((a0.Text.size : Int) ≤ 12))
  else
   some false
theorem F62_ok (n : Nat) (a0 : Field) : ∀ r, F62 n a0 = some r → D 62 [.agg [li .i64 a0.N, ls a0.Text]] [] = some (F62_e r) := by
 refine fn_to (D := D) (n := n + 8) (nt := 17) (rs := pc62_r) (c := p62c5) (L := [(0, .agg [lj a0.N, ls a0.Text])]) (M := []) (k := 0) rfl rfl rfl rfl rfl rfl rfl ?_
 unfold F62
 refine Sim.sr 2 W49 [(1, some (.cells [lj a0.N, ls a0.Text]))] (.st 4 [(6, qb (a0.N == 0)), (5, qb (a0.N == 0)), (4, qj a0.N), (3, qp 1 0)] [] (.sp 6 _ ?_ ?_))
 ·exact SimI.rd 11 (rp [2, 16, 15] (qb (decide ((a0.Text.size : Int) ≤ 12))) ++ [(14, qj (a0.Text.size : Int)), (13, qs a0.Text), (12, qp 1 1), (11, qb true), (10, qb true), (9, tz), (8, tz), (7, tz)]) [] (.thenN (.ret .fn))
 ·refine SimI.rn 5 (rp [11, 10, 9] (qb (a0.Text.toList == be.toList)) ++ [(8, qs a0.Text), (7, qp 1 1)]) [] (.sp 11 _ ?_ ?_)
  ·exact SimI.rd 6 (rp [2, 16, 15] (qb (decide ((a0.Text.size : Int) ≤ 12))) ++ [(14, qj (a0.Text.size : Int)), (13, qs a0.Text), (12, qp 1 1)]) [] (.thenN (.ret .fn))
  ·exact SimI.rd 6 [(2, qb false), (16, qb false), (15, tz), (14, tz), (13, tz), (12, tz)] [] (.thenN (.ret .fn))
def F63_e : Command → PV × List Ob := fun r => (.agg (Command.cells r), [])
def F63 (n : Nat) (a0 : Command) : Option Command :=
 if a0.Kind == 1 then
  some (Command.mk a0.Kind 0 0 0 a0.At a0.F (Field.mk 0 ByteArray.empty) a0.Client a0.Session (Rect.mk 0 0 0 0))
 else
  if a0.Kind == 2 then
   some (Command.mk a0.Kind a0.ID 0 0 a0.At (A4.mk (Field.mk 0 ByteArray.empty) (Field.mk 0 ByteArray.empty) (Field.mk 0 ByteArray.empty) (Field.mk 0 ByteArray.empty)) (Field.mk 0 ByteArray.empty) a0.Client a0.Session (Rect.mk 0 0 0 0))
  else
   if a0.Kind == 3 then
    some (Command.mk a0.Kind a0.ID a0.Which 0 (Point.mk 0 0) (A4.mk (Field.mk 0 ByteArray.empty) (Field.mk 0 ByteArray.empty) (Field.mk 0 ByteArray.empty) (Field.mk 0 ByteArray.empty)) a0.Value a0.Client a0.Session (Rect.mk 0 0 0 0))
   else
    if a0.Kind == 4 then
     some (Command.mk a0.Kind a0.ID 0 0 (Point.mk 0 0) (A4.mk (Field.mk 0 ByteArray.empty) (Field.mk 0 ByteArray.empty) (Field.mk 0 ByteArray.empty) (Field.mk 0 ByteArray.empty)) (Field.mk 0 ByteArray.empty) a0.Client a0.Session (Rect.mk 0 0 0 0))
    else
     if a0.Kind == 5 then
      some (Command.mk a0.Kind 0 a0.Which a0.To (Point.mk 0 0) (A4.mk (Field.mk 0 ByteArray.empty) (Field.mk 0 ByteArray.empty) (Field.mk 0 ByteArray.empty) (Field.mk 0 ByteArray.empty)) (Field.mk 0 ByteArray.empty) a0.Client a0.Session (Rect.mk 0 0 0 0))
     else
      if a0.Kind == 6 then
       if a0.Kind == 6 then
        some (Command.mk a0.Kind 0 0 0 (Point.mk 0 0) (A4.mk (Field.mk 0 ByteArray.empty) (Field.mk 0 ByteArray.empty) (Field.mk 0 ByteArray.empty) (Field.mk 0 ByteArray.empty)) (Field.mk 0 ByteArray.empty) a0.Client a0.Session a0.Rect)
       else
        some (Command.mk a0.Kind 0 0 0 (Point.mk 0 0) (A4.mk (Field.mk 0 ByteArray.empty) (Field.mk 0 ByteArray.empty) (Field.mk 0 ByteArray.empty) (Field.mk 0 ByteArray.empty)) (Field.mk 0 ByteArray.empty) a0.Client a0.Session (Rect.mk 0 0 0 0))
      else
       if a0.Kind == 7 then
        some (Command.mk a0.Kind 0 0 0 (Point.mk 0 0) (A4.mk (Field.mk 0 ByteArray.empty) (Field.mk 0 ByteArray.empty) (Field.mk 0 ByteArray.empty) (Field.mk 0 ByteArray.empty)) (Field.mk 0 ByteArray.empty) a0.Client a0.Session a0.Rect)
       else
        some (Command.mk a0.Kind 0 0 0 (Point.mk 0 0) (A4.mk (Field.mk 0 ByteArray.empty) (Field.mk 0 ByteArray.empty) (Field.mk 0 ByteArray.empty) (Field.mk 0 ByteArray.empty)) (Field.mk 0 ByteArray.empty) a0.Client a0.Session (Rect.mk 0 0 0 0))
theorem F63_ok (n : Nat) (a0 : Command) : ∀ r, F63 n a0 = some r → D 63 [.agg (Command.cells a0)] [] = some (F63_e r) := by
 refine fn_to (D := D) (n := n + 8) (nt := 60) (rs := pc63_r) (c := p63c40) (L := [(0, .agg (Command.cells a0))]) (M := []) (k := 0) rfl rfl rfl rfl rfl rfl rfl ?_
 unfold F63
 refine Sim.sr 2 [(2, qp 2 0), (1, qp 1 0)] [(2, some (.cells W51)), (1, some (.cells (Command.cells a0)))] (.sr 9 [(3, qp 3 0), (10, .agg (w1 a0)), (9, qj a0.Session), (8, qp 1 17), (7, qj a0.Client), (6, qp 1 16), (5, qj a0.Kind), (4, qp 1 0)] [(3, some (.cells (w1 a0))), (3, some (.cells W51))] (.seq (.sr 2 [(12, qj a0.Kind), (11, qp 1 0)] [] (.block (.sr 2 (rp [13, 14] (qb (a0.Kind == 1))) [] (.cd _ ?_ ?_))))))
 ·exact Sim.region0 (.rd 8 [(20, qp 3 6), (19, qp 3 4), (18, .agg (A4_Field.cells a0.F)), (17, qp 1 6), (16, .agg [lj a0.At.X, lj a0.At.Y]), (15, qp 1 4)] [(3, some (.cells (W26 a0))), (3, some (.cells [lj a0.Kind, lj 0, lj 0, lj 0, lj a0.At.X, lj a0.At.Y, lj 0, ls be, lj 0, ls be, lj 0, ls be, lj 0, ls be, lj 0, ls be, lj a0.Client, lj a0.Session, lj 0, lj 0, lj 0, lj 0]))] (.blockN (.thenN (.sr 2 [(59, .agg (W26 a0))] [(2, some (.cells (W26 a0)))] (.ret .fn)))))
 ·refine Sim.sr 2 (rp [21, 22] (qb (a0.Kind == 2))) [] (.cd _ ?_ ?_)
  ·exact Sim.region0 (.rd 8 [(28, qp 3 4), (27, qp 3 1), (26, .agg [lj a0.At.X, lj a0.At.Y]), (25, qp 1 4), (24, qj a0.ID), (23, qp 1 1)] [(3, some (.cells (w5 a0))), (3, some (.cells (w3 a0)))] (.blockN (.thenN (.sr 2 [(59, .agg (w5 a0))] [(2, some (.cells (w5 a0)))] (.ret .fn)))))
  ·refine Sim.sr 2 (rp [29, 30] (qb (a0.Kind == 3))) [] (.cd _ ?_ ?_)
   ·exact Sim.region0 (.rd 12 [(39, qp 3 14), (38, qp 3 2), (37, qp 3 1), (36, .agg [lj a0.Value.N, ls a0.Value.Text]), (35, qp 1 14), (34, qj a0.Which), (33, qp 1 2), (32, qj a0.ID), (31, qp 1 1)] [(3, some (.cells (w6 a0))), (3, some (.cells [lj a0.Kind, lj a0.ID, lj a0.Which, lj 0, lj 0, lj 0, lj 0, ls be, lj 0, ls be, lj 0, ls be, lj 0, ls be, lj 0, ls be, lj a0.Client, lj a0.Session, lj 0, lj 0, lj 0, lj 0])), (3, some (.cells (w3 a0)))] (.blockN (.thenN (.sr 2 [(59, .agg (w6 a0))] [(2, some (.cells (w6 a0)))] (.ret .fn)))))
   ·refine Sim.sr 2 (rp [40, 41] (qb (a0.Kind == 4))) [] (.cd _ ?_ ?_)
    ·exact Sim.region0 (.rd 4 [(44, qp 3 1), (43, qj a0.ID), (42, qp 1 1)] [(3, some (.cells (w3 a0)))] (.blockN (.thenN (.sr 2 [(59, .agg (w3 a0))] [(2, some (.cells (w3 a0)))] (.ret .fn)))))
    ·refine Sim.sr 2 (rp [45, 46] (qb (a0.Kind == 5))) [] (.cd _ ?_ ?_)
     ·exact Sim.region0 (.rd 8 [(52, qp 3 3), (51, qp 3 2), (50, qj a0.To), (49, qp 1 3), (48, qj a0.Which), (47, qp 1 2)] [(3, some (.cells (w7 a0))), (3, some (.cells [lj a0.Kind, lj 0, lj a0.Which, lj 0, lj 0, lj 0, lj 0, ls be, lj 0, ls be, lj 0, ls be, lj 0, ls be, lj 0, ls be, lj a0.Client, lj a0.Session, lj 0, lj 0, lj 0, lj 0]))] (.blockN (.thenN (.sr 2 [(59, .agg (w7 a0))] [(2, some (.cells (w7 a0)))] (.ret .fn)))))
     ·refine Sim.seq (.sr 2 (rp [53, 54] (qb (a0.Kind == 6))) [] (.cd _ ?_ ?_))
      ·refine Sim.skip (.thenN (.cd _ ?_ ?_))
       ·exact Sim.region0 (.rd 4 [(58, qp 3 18), (57, .agg (Rect.cells a0.Rect)), (56, qp 1 18)] [(3, some (.cells (w2 a0)))] (.blockN (.thenN (.sr 2 [(59, .agg (w2 a0))] [(2, some (.cells (w2 a0)))] (.ret .fn)))))
       ·exact Sim.skip (.blockN (.thenN (.sr 2 [(59, .agg (w1 a0))] [(2, some (.cells (w1 a0)))] (.ret .fn))))
      ·refine Sim.region0 (.rd 2 (rp [53, 55] (qb (a0.Kind == 7))) [] (.thenN (.cd _ ?_ ?_)))
       ·exact Sim.region0 (.rd 4 [(58, qp 3 18), (57, .agg (Rect.cells a0.Rect)), (56, qp 1 18)] [(3, some (.cells (w2 a0)))] (.blockN (.thenN (.sr 2 [(59, .agg (w2 a0))] [(2, some (.cells (w2 a0)))] (.ret .fn)))))
       ·exact Sim.skip (.blockN (.thenN (.sr 2 [(59, .agg (w1 a0))] [(2, some (.cells (w1 a0)))] (.ret .fn))))
def F64_e : Bool → PV × List Ob := fun r => (.one (lb r), [])
def F64_l4 (n : Nat) (a0 : (List Int)) : Nat → Int → Option Bool
 | 0, _ => none
 | m + 1, i3 =>
  if decide (i3 < ((a0).length : Int)) then
   (ix a0 i3).bind fun (x5 : Int) =>
   if decide (((-1000) : Int) ≤ x5) then
    if decide (x5 ≤ 1000) then
     (F64_l4 n a0 m) (IntKind.wrap .i64 (i3 + 1))
    else
     some false
   else
    some false
  else
   some true
theorem F64_l4_ok (n : Nat) (a0 : (List Int)) : ∀ (m : Nat) (i3 : Int), SimL Try.prog D (n + 8) m p64c23 [(5, .one (vw (codI .i64) a0)), (6, qj ((a0).length : Int)), (7, qj i3)] [] (F64_l4 n a0 m i3) (QB 0 (QT Try.prog D (n + 8) p64c29 (QF false pc64_r 0 F64_e))) := by
 intro m_l4
 induction m_l4 with
 | zero => intro i3; exact SimL.zero'  rfl
 | succ m_l4 ih_l4 =>
  intro i3
  refine SimL.succ ?_
  unfold F64_l4
  refine Sim.seq (.rg [(5, .one (vw (codI .i64) a0)), (6, qj ((a0).length : Int)), (7, qj i3)] [] (.rd 1 [(8, qb (decide (i3 < ((a0).length : Int))))] [] (.thenN (.seq (.cd _ ?_ ?_)))))
  ·refine Sim.skip (.thenN (.seq (.block (.seq (.region0 (.bn ⟨some 9, .iaddrS 1 5 7, none, []⟩ (fun x5 => [(9, .one (.eptr ((codI .i64).enc x5) 0))]) (fun x5 => []) (fun x5 hr => pe (ei (c := (codI .i64)) (k := .i64) hr)) (fun x5 => ?_)))))))
   refine SimI.rd 2 [(4, qj x5), (10, qj x5)] [] (.thenN (.seq (.st 3 (rp [13, 12] (qb (decide (((-1000) : Int) ≤ x5))) ++ [(11, qj x5)]) [] (.sp 13 _ ?_ ?_))))
   ·refine SimI.rd 3 (rp [16, 15] (qb (decide (x5 ≤ 1000))) ++ [(14, qj x5)]) [] (.thenN (.cd _ ?_ ?_))
    ·refine Sim.exit (.thenX (.blockX (.thenN (.region0 (.rd 2 (rp [7, 17] (qj (iw .i64 (i3 + 1)))) [] (.loopN (.pr [5, 6, 7] [] [] [(5, .one (vw (codI .i64) a0)), (6, qj ((a0).length : Int)), (7, qj (iw .i64 (i3 + 1)))] [] ?_)))))))
     exact ih_l4 (iw .i64 (i3 + 1))
    ·exact Sim.skip (.thenN (.sr 1 [(2, qb false)] [] (.ret (.blockR (.thenR (.loopR (.blockR (.thenR .fn))))))))
   ·exact SimI.rd 3 [(16, qb false), (15, tz), (14, tz)] [] (.thenN (.cf (.skip (.thenN (.sr 1 [(2, qb false)] [] (.ret (.blockR (.thenR (.loopR (.blockR (.thenR .fn)))))))))))
  ·exact Sim.exit (.thenX (.loopX (.blockX (.thenN (.sr 1 [(2, qb true)] [] (.ret .fn))))))
def F64 (n : Nat) (a0 : (List Int)) : Option Bool :=
 F64_l4 n a0 (n + 8) 0
theorem F64_ok (n : Nat) (a0 : (List Int)) : ∀ r, F64 n a0 = some r → D 64 [.one (vw (codI .i64) a0)] [] = some (F64_e r) := by
 refine fn_to (D := D) (n := n + 8) (nt := 18) (rs := pc64_r) (c := p64c33) (L := [(0, .one (vw (codI .i64) a0))]) (M := []) (k := 0) rfl rfl rfl rfl rfl rfl rfl ?_
 unfold F64
 refine Sim.sr 1 [(2, qb false)] [] (.scope (.seq (.label (.thenN (.seq (.sr 3 [(7, qj 0), (6, qj ((a0).length : Int)), (5, .one (vw (codI .i64) a0))] [] (.block (.loop (.pr [5, 6, 7] [] [] [(5, .one (vw (codI .i64) a0)), (6, qj ((a0).length : Int)), (7, qj 0)] [] ?_)))))))))
 exact F64_l4_ok n a0 (n + 8) 0
def F51_e : Bool → PV × List Ob := fun r => (.one (lb r), [])
def F51_j12 (n : Nat) (a0 : Command) (b6 b8 b11 : Bool) : Option Bool :=
  if b6 then
   if b8 then
    if b11 then
     (F64 n [a0.At.X, a0.At.Y, a0.Rect.X0, a0.Rect.Y0, a0.Rect.X1, a0.Rect.Y1]).bind fun (r13 : Bool) =>
     some r13
    else
     some false
   else
    some false
  else
   some false
theorem F51_j12_ok (n : Nat) (a0 : Command) (b6 b8 b11 : Bool) : Sim Try.prog D (n + 8) p51c29 [(1, qp 1 0), (5, qb b6), (6, qb b8), (7, qb b11)] (W22 a0) (F51_j12 n a0 b6 b8 b11) (QF false pc51_r 0 F51_e) := by
  unfold F51_j12
  refine Sim.seq (.rs (.rn 2 [(83, qb b6), (82, qb b6)] [] (.sp 83 _ ?_ ?_)))
  ·refine SimI.rn 3 [(86, qb b8), (85, qb b8), (84, qb b8)] [] (.sp 86 _ ?_ ?_)
   ·refine SimI.rn 3 (rp [89, 88, 87] (qb b11)) [] (.sp 89 _ ?_ ?_)
    ·refine SimI.rn 19 [(108, .one (vw (codI .i64) [a0.At.X, a0.At.Y, a0.Rect.X0, a0.Rect.Y0, a0.Rect.X1, a0.Rect.Y1])), (107, qj a0.Rect.Y1), (106, qp 1 21), (105, qp 1 18), (104, qj a0.Rect.X1), (103, qp 1 20), (102, qp 1 18), (101, qj a0.Rect.Y0), (100, qp 1 19), (99, qp 1 18), (98, qj a0.Rect.X0), (97, qp 1 18), (96, qp 1 18), (95, qj a0.At.Y), (94, qp 1 5), (93, qp 1 4), (92, qj a0.At.X), (91, qp 1 4), (90, qp 1 4)] [] (.cl 109 true [[(0, 1)]] 64 [108] (some (89, true)) (fun r13 => qb r13) [.one (vw (codI .i64) [a0.At.X, a0.At.Y, a0.Rect.X0, a0.Rect.Y0, a0.Rect.X1, a0.Rect.Y1])] (F64_ok _ _) (fun r13 => ?_))
     exact SimI.rd 2 [(2, qb r13), (110, qb r13)] [] (.thenN (.ret .fn))
    ·exact SimI.rd 22 ([(2, qb false), (110, qb false)] ++ rp W44 tz) [] (.thenN (.ret .fn))
   ·exact SimI.rd 25 ([(2, qb false), (110, qb false)] ++ rp W44 tz ++ [(89, qb false), (88, qb false), (87, tz)]) [] (.thenN (.ret .fn))
  ·exact SimI.rd 28 ([(2, qb false), (110, qb false)] ++ rp W44 tz ++ [(89, qb false), (88, qb false), (87, tz), (86, qb false), (85, qb false), (84, tz)]) [] (.thenN (.ret .fn))
def F51_j9 (n : Nat) (a0 : Command) (b6 b8 : Bool) : Option Bool :=
  if decide ((0 : Int) ≤ a0.ID) then
   if decide (a0.ID ≤ 1000000) then
    if decide (((-1) : Int) ≤ a0.Which) then
     if decide (a0.Which ≤ 100) then
      if decide (((-1) : Int) ≤ a0.To) then
       if decide (a0.To ≤ 100) then
        (F62 n a0.Value).bind fun (r10 : Bool) =>
        F51_j12 n a0 b6 b8 r10
       else
        F51_j12 n a0 b6 b8 false
      else
       F51_j12 n a0 b6 b8 false
     else
      F51_j12 n a0 b6 b8 false
    else
     F51_j12 n a0 b6 b8 false
   else
    F51_j12 n a0 b6 b8 false
  else
   F51_j12 n a0 b6 b8 false
theorem F51_j9_ok (n : Nat) (a0 : Command) (b6 b8 : Bool) : Sim Try.prog D (n + 8) p51c30 [(1, qp 1 0), (5, qb b6), (6, qb b8)] (W22 a0) (F51_j9 n a0 b6 b8) (QF false pc51_r 0 F51_e) := by
  unfold F51_j9
  refine Sim.seq (.rs (.rn 4 (rp [52, 51] (qb (decide ((0 : Int) ≤ a0.ID))) ++ [(50, qj a0.ID), (49, qp 1 1)]) [] (.sp 52 _ ?_ ?_)))
  ·refine SimI.rn 5 (rp [57, 56, 55] (qb (decide (a0.ID ≤ 1000000))) ++ [(54, qj a0.ID), (53, qp 1 1)]) [] (.sp 57 _ ?_ ?_)
   ·refine SimI.rn 5 (rp [62, 61, 60] (qb (decide (((-1) : Int) ≤ a0.Which))) ++ [(59, qj a0.Which), (58, qp 1 2)]) [] (.sp 62 _ ?_ ?_)
    ·refine SimI.rn 5 (rp [67, 66, 65] (qb (decide (a0.Which ≤ 100))) ++ [(64, qj a0.Which), (63, qp 1 2)]) [] (.sp 67 _ ?_ ?_)
     ·refine SimI.rn 5 (rp [72, 71, 70] (qb (decide (((-1) : Int) ≤ a0.To))) ++ [(69, qj a0.To), (68, qp 1 3)]) [] (.sp 72 _ ?_ ?_)
      ·refine SimI.rn 5 (rp [77, 76, 75] (qb (decide (a0.To ≤ 100))) ++ [(74, qj a0.To), (73, qp 1 3)]) [] (.sp 77 _ ?_ ?_)
       ·refine SimI.rn 2 [(79, .agg [lj a0.Value.N, ls a0.Value.Text]), (78, qp 1 14)] [] (.cl 80 true [[]] 62 [79] (some (77, true)) (fun r10 => qb r10) [.agg [lj a0.Value.N, ls a0.Value.Text]] (F62_ok _ _) (fun r10 => ?_))
        refine SimI.rd 2 [(7, qb r10), (81, qb r10)] [] (.thenN (.pr [1, 5, 6, 7] [1] [] [(1, qp 1 0), (5, qb b6), (6, qb b8), (7, qb r10)] (W22 a0) ?_))
        exact F51_j12_ok n a0 b6 b8 r10
       ·refine SimI.rd 5 [(7, qb false), (81, qb false), (80, tz), (79, tz), (78, tz)] [] (.thenN (.pr [1, 5, 6, 7] [1] [] (W47 b6 b8) (W22 a0) ?_))
        exact F51_j12_ok n a0 b6 b8 false
      ·refine SimI.rd 10 [(7, qb false), (81, qb false), (80, tz), (79, tz), (78, tz), (77, qb false), (76, qb false), (75, tz), (74, tz), (73, tz)] [] (.thenN (.pr [1, 5, 6, 7] [1] [] (W47 b6 b8) (W22 a0) ?_))
       exact F51_j12_ok n a0 b6 b8 false
     ·refine SimI.rd 15 [(7, qb false), (81, qb false), (80, tz), (79, tz), (78, tz), (77, qb false), (76, qb false), (75, tz), (74, tz), (73, tz), (72, qb false), (71, qb false), (70, tz), (69, tz), (68, tz)] [] (.thenN (.pr [1, 5, 6, 7] [1] [] (W47 b6 b8) (W22 a0) ?_))
      exact F51_j12_ok n a0 b6 b8 false
    ·refine SimI.rd 20 [(7, qb false), (81, qb false), (80, tz), (79, tz), (78, tz), (77, qb false), (76, qb false), (75, tz), (74, tz), (73, tz), (72, qb false), (71, qb false), (70, tz), (69, tz), (68, tz), (67, qb false), (66, qb false), (65, tz), (64, tz), (63, tz)] [] (.thenN (.pr [1, 5, 6, 7] [1] [] (W47 b6 b8) (W22 a0) ?_))
     exact F51_j12_ok n a0 b6 b8 false
   ·refine SimI.rd 25 [(7, qb false), (81, qb false), (80, tz), (79, tz), (78, tz), (77, qb false), (76, qb false), (75, tz), (74, tz), (73, tz), (72, qb false), (71, qb false), (70, tz), (69, tz), (68, tz), (67, qb false), (66, qb false), (65, tz), (64, tz), (63, tz), (62, qb false), (61, qb false), (60, tz), (59, tz), (58, tz)] [] (.thenN (.pr [1, 5, 6, 7] [1] [] (W47 b6 b8) (W22 a0) ?_))
    exact F51_j12_ok n a0 b6 b8 false
  ·refine SimI.rd 30 [(7, qb false), (81, qb false), (80, tz), (79, tz), (78, tz), (77, qb false), (76, qb false), (75, tz), (74, tz), (73, tz), (72, qb false), (71, qb false), (70, tz), (69, tz), (68, tz), (67, qb false), (66, qb false), (65, tz), (64, tz), (63, tz), (62, qb false), (61, qb false), (60, tz), (59, tz), (58, tz), (57, qb false), (56, qb false), (55, tz), (54, tz), (53, tz)] [] (.thenN (.pr [1, 5, 6, 7] [1] [] (W47 b6 b8) (W22 a0) ?_))
   exact F51_j12_ok n a0 b6 b8 false
def F51_j7 (n : Nat) (a0 : Command) (b6 : Bool) : Option Bool :=
  if decide ((0 : Int) ≤ a0.Client) then
   if decide (a0.Client < 4) then
    if decide ((0 : Int) ≤ a0.Session) then
     F51_j9 n a0 b6 (decide (a0.Session ≤ 1000000))
    else
     F51_j9 n a0 b6 false
   else
    F51_j9 n a0 b6 false
  else
   F51_j9 n a0 b6 false
theorem F51_j7_ok (n : Nat) (a0 : Command) (b6 : Bool) : Sim Try.prog D (n + 8) p51c31 [(1, qp 1 0), (5, qb b6)] (W22 a0) (F51_j7 n a0 b6) (QF false pc51_r 0 F51_e) := by
  unfold F51_j7
  refine Sim.seq (.rs (.rn 4 (rp [34, 33] (qb (decide ((0 : Int) ≤ a0.Client))) ++ [(32, qj a0.Client), (31, qp 1 16)]) [] (.sp 34 _ ?_ ?_)))
  ·refine SimI.rn 5 (rp [39, 38, 37] (qb (decide (a0.Client < 4))) ++ [(36, qj a0.Client), (35, qp 1 16)]) [] (.sp 39 _ ?_ ?_)
   ·refine SimI.rn 5 (rp [44, 43, 42] (qb (decide ((0 : Int) ≤ a0.Session))) ++ [(41, qj a0.Session), (40, qp 1 17)]) [] (.sp 44 _ ?_ ?_)
    ·refine SimI.rd 5 (rp [6, 48, 47] (qb (decide (a0.Session ≤ 1000000))) ++ [(46, qj a0.Session), (45, qp 1 17)]) [] (.thenN (.pr [1, 5, 6] [1] [] [(1, qp 1 0), (5, qb b6), (6, qb (decide (a0.Session ≤ 1000000)))] (W22 a0) ?_))
     exact F51_j9_ok n a0 b6 (decide (a0.Session ≤ 1000000))
    ·refine SimI.rd 5 [(6, qb false), (48, qb false), (47, tz), (46, tz), (45, tz)] [] (.thenN (.pr [1, 5, 6] [1] [] [(1, qp 1 0), (5, qb b6), (6, qb false)] (W22 a0) ?_))
     exact F51_j9_ok n a0 b6 false
   ·refine SimI.rd 10 [(6, qb false), (48, qb false), (47, tz), (46, tz), (45, tz), (44, qb false), (43, qb false), (42, tz), (41, tz), (40, tz)] [] (.thenN (.pr [1, 5, 6] [1] [] [(1, qp 1 0), (5, qb b6), (6, qb false)] (W22 a0) ?_))
    exact F51_j9_ok n a0 b6 false
  ·refine SimI.rd 15 [(6, qb false), (48, qb false), (47, tz), (46, tz), (45, tz), (44, qb false), (43, qb false), (42, tz), (41, tz), (40, tz), (39, qb false), (38, qb false), (37, tz), (36, tz), (35, tz)] [] (.thenN (.pr [1, 5, 6] [1] [] [(1, qp 1 0), (5, qb b6), (6, qb false)] (W22 a0) ?_))
   exact F51_j9_ok n a0 b6 false
def F51 (n : Nat) (a0 : Command) : Option Bool :=
 (F62 n a0.F.a0).bind fun (r1 : Bool) =>
 if !(r1) then
  some false
 else
  (F62 n a0.F.a1).bind fun (r2 : Bool) =>
  if !(r2) then
   some false
  else
   (F62 n a0.F.a2).bind fun (r3 : Bool) =>
   if !(r3) then
    some false
   else
    (F62 n a0.F.a3).bind fun (r4 : Bool) =>
    if !(r4) then
     some false
    else
     if decide ((1 : Int) ≤ a0.Kind) then
      if decide (a0.Kind ≤ 8) then
       (F63 n a0).bind fun (r5 : Command) =>
       F51_j7 n a0 (Command.eqb a0 r5)
      else
       F51_j7 n a0 false
     else
      F51_j7 n a0 false
theorem F51_ok (n : Nat) (a0 : Command) : ∀ r, F51 n a0 = some r → D 51 [.agg (Command.cells a0)] [] = some (F51_e r) := by
 refine fn_to (D := D) (n := n + 8) (nt := 111) (rs := pc51_r) (c := p51c34) (L := [(0, .agg (Command.cells a0))]) (M := []) (k := 0) rfl rfl rfl rfl rfl rfl rfl ?_
 unfold F51
 refine Sim.sr 2 W49 (W22 a0) (.seq (.sr 3 [(10, qj 0), (9, .agg (A4_Field.cells a0.F)), (8, qp 1 6)] [] (.block (.loop (.succ (.seq (.rg [(1, qp 1 0), (9, .agg (A4_Field.cells a0.F)), (10, qj 0)] (W22 a0) (.rd 1 [(11, qb true)] [] (.thenN (.seq (.ct (.skip (.thenN (.seq (.block (.sr 3 [(4, qp 4 0), (12, .agg [lj a0.F.a0.N, ls a0.F.a0.Text])] [(4, some (.cells [lj a0.F.a0.N, ls a0.F.a0.Text])), (4, some (.cells [lj 0, ls be]))] (.st 1 [(13, .agg [lj a0.F.a0.N, ls a0.F.a0.Text])] [] (.cl 14 true [[]] 62 [13] none (fun r1 => qb r1) [.agg [lj a0.F.a0.N, ls a0.F.a0.Text]] (F62_ok _ _) (fun r1 => ?_)))))))))))))))))))
 refine SimI.rd 1 [(15, qb (!(r1)))] [] (.thenN (.cd _ ?_ ?_))
 ·exact Sim.sr 1 [(2, qb false)] [] (.ret (.blockR (.thenR (.loopR (.blockR (.thenR .fn))))))
 ·refine Sim.skip (.blockN (.thenN (.region0 (.rd 2 [(10, qj 1), (16, qj 1)] [] (.loopN (.succ (.seq (.rg [(1, qp 1 0), (9, .agg (A4_Field.cells a0.F)), (10, qj 1)] (W22 a0) (.rd 1 [(11, qb true)] [] (.thenN (.seq (.ct (.skip (.thenN (.seq (.block (.sr 3 [(4, qp 4 0), (12, .agg [lj a0.F.a1.N, ls a0.F.a1.Text])] [(4, some (.cells [lj a0.F.a1.N, ls a0.F.a1.Text])), (4, some (.cells [lj 0, ls be]))] (.st 1 [(13, .agg [lj a0.F.a1.N, ls a0.F.a1.Text])] [] (.cl 14 true [[]] 62 [13] none (fun r2 => qb r2) [.agg [lj a0.F.a1.N, ls a0.F.a1.Text]] (F62_ok _ _) (fun r2 => ?_))))))))))))))))))))
  refine SimI.rd 1 [(15, qb (!(r2)))] [] (.thenN (.cd _ ?_ ?_))
  ·exact Sim.sr 1 [(2, qb false)] [] (.ret (.blockR (.thenR (.loopR (.blockR (.thenR .fn))))))
  ·refine Sim.skip (.blockN (.thenN (.region0 (.rd 2 [(10, qj 2), (16, qj 2)] [] (.loopN (.succ (.seq (.rg [(1, qp 1 0), (9, .agg (A4_Field.cells a0.F)), (10, qj 2)] (W22 a0) (.rd 1 [(11, qb true)] [] (.thenN (.seq (.ct (.skip (.thenN (.seq (.block (.sr 3 [(4, qp 4 0), (12, .agg [lj a0.F.a2.N, ls a0.F.a2.Text])] [(4, some (.cells [lj a0.F.a2.N, ls a0.F.a2.Text])), (4, some (.cells [lj 0, ls be]))] (.st 1 [(13, .agg [lj a0.F.a2.N, ls a0.F.a2.Text])] [] (.cl 14 true [[]] 62 [13] none (fun r3 => qb r3) [.agg [lj a0.F.a2.N, ls a0.F.a2.Text]] (F62_ok _ _) (fun r3 => ?_))))))))))))))))))))
   refine SimI.rd 1 [(15, qb (!(r3)))] [] (.thenN (.cd _ ?_ ?_))
   ·exact Sim.sr 1 [(2, qb false)] [] (.ret (.blockR (.thenR (.loopR (.blockR (.thenR .fn))))))
   ·refine Sim.skip (.blockN (.thenN (.region0 (.rd 2 [(10, qj 3), (16, qj 3)] [] (.loopN (.succ (.seq (.rg [(1, qp 1 0), (9, .agg (A4_Field.cells a0.F)), (10, qj 3)] (W22 a0) (.rd 1 [(11, qb true)] [] (.thenN (.seq (.ct (.skip (.thenN (.seq (.block (.sr 3 [(4, qp 4 0), (12, .agg [lj a0.F.a3.N, ls a0.F.a3.Text])] [(4, some (.cells [lj a0.F.a3.N, ls a0.F.a3.Text])), (4, some (.cells [lj 0, ls be]))] (.st 1 [(13, .agg [lj a0.F.a3.N, ls a0.F.a3.Text])] [] (.cl 14 true [[]] 62 [13] none (fun r4 => qb r4) [.agg [lj a0.F.a3.N, ls a0.F.a3.Text]] (F62_ok _ _) (fun r4 => ?_))))))))))))))))))))
    refine SimI.rd 1 [(15, qb (!(r4)))] [] (.thenN (.cd _ ?_ ?_))
    ·exact Sim.sr 1 [(2, qb false)] [] (.ret (.blockR (.thenR (.loopR (.blockR (.thenR .fn))))))
    ·refine Sim.skip (.blockN (.thenN (.region0 (.rd 2 [(10, qj 4), (16, qj 4)] [] (.loopN (.succ (.seq (.rg [(1, qp 1 0), (9, .agg (A4_Field.cells a0.F)), (10, qj 4)] (W22 a0) (.rd 1 [(11, qb false)] [] (.thenN (.seq (.cf (.exit (.thenX (.loopX (.blockX (.thenN (.st 4 (rp [20, 19] (qb (decide ((1 : Int) ≤ a0.Kind))) ++ [(18, qj a0.Kind), (17, qp 1 0)]) [] (.sp 20 _ ?_ ?_)))))))))))))))))))
     ·refine SimI.rn 5 (rp [25, 24, 23] (qb (decide (a0.Kind ≤ 8))) ++ [(22, qj a0.Kind), (21, qp 1 0)]) [] (.sp 25 _ ?_ ?_)
      ·refine SimI.rn 2 (rp [27, 26] (.agg (Command.cells a0))) [] (.cm 28 false [[]] 63 [27] (some (25, true)) [(27, .imm)] (F63_ok _ _) (fun r5 => ?_))
       refine SimI.se ⟨some 29, .prim (.bin .eql 63 false false) [26, 28], some (25, true), [(26, .imm), (28, .imm)]⟩ [(29, qb (Command.eqb a0 r5))] [] (pe (ep (Command_eql a0 r5 _ _))) (.rd 2 (rp [5, 30] (qb (Command.eqb a0 r5))) [] (.thenN (.pr [1, 5] [1] [] [(1, qp 1 0), (5, qb (Command.eqb a0 r5))] (W22 a0) ?_)))
       exact F51_j7_ok n a0 (Command.eqb a0 r5)
      ·refine SimI.rd 6 [(5, qb false), (30, qb false), (29, tz), (28, tz), (27, tz), (26, tz)] [] (.thenN (.pr [1, 5] [1] [] [(1, qp 1 0), (5, qb false)] (W22 a0) ?_))
       exact F51_j7_ok n a0 false
     ·refine SimI.rd 11 [(5, qb false), (30, qb false), (29, tz), (28, tz), (27, tz), (26, tz), (25, qb false), (24, qb false), (23, tz), (22, tz), (21, tz)] [] (.thenN (.pr [1, 5] [1] [] [(1, qp 1 0), (5, qb false)] (W22 a0) ?_))
      exact F51_j7_ok n a0 false
def F28_e : (Packet × Int × Client) → PV × List Ob := fun r => (.tup [.agg [li .i64 r.1.From, li .i64 r.1.To, li .i64 r.1.Kind, li .i64 r.1.Seq, li .i64 r.1.C.Kind, li .i64 r.1.C.ID, li .i64 r.1.C.Which, li .i64 r.1.C.To, li .i64 r.1.C.At.X, li .i64 r.1.C.At.Y, li .i64 r.1.C.F.a0.N, ls r.1.C.F.a0.Text, li .i64 r.1.C.F.a1.N, ls r.1.C.F.a1.Text, li .i64 r.1.C.F.a2.N, ls r.1.C.F.a2.Text, li .i64 r.1.C.F.a3.N, ls r.1.C.F.a3.Text, li .i64 r.1.C.Value.N, ls r.1.C.Value.Text, li .i64 r.1.C.Client, li .i64 r.1.C.Session, li .i64 r.1.C.Rect.X0, li .i64 r.1.C.Rect.Y0, li .i64 r.1.C.Rect.X1, li .i64 r.1.C.Rect.Y1, li .i64 r.1.E, li .i64 r.1.ID, li .i64 r.1.N.From, li .i64 r.1.N.Beat, vw Thing.cod r.1.N.Moved, vw Hand.cod r.1.N.Hands, vw Thing.cod r.1.N.Given, vw Command.cod r.1.N.Watch, li .i64 r.1.F.From, li .i64 r.1.F.Client, li .i64 r.1.F.Session, li .i64 r.1.F.Start, li .i64 r.1.F.Beat, vw Event.cod r.1.F.Events, li .i64 r.1.Session, li .i64 r.1.Beat], .one (li .i64 r.2.1)], [.cells [li .i64 r.2.2.id_, li .i64 r.2.2.n, li .i64 r.2.2.session, .ptr 1000001 0, li .i64 r.2.2.asked.From, li .i64 r.2.2.asked.To, li .i64 r.2.2.asked.Kind, li .i64 r.2.2.asked.Seq, li .i64 r.2.2.asked.C.Kind, li .i64 r.2.2.asked.C.ID, li .i64 r.2.2.asked.C.Which, li .i64 r.2.2.asked.C.To, li .i64 r.2.2.asked.C.At.X, li .i64 r.2.2.asked.C.At.Y, li .i64 r.2.2.asked.C.F.a0.N, ls r.2.2.asked.C.F.a0.Text, li .i64 r.2.2.asked.C.F.a1.N, ls r.2.2.asked.C.F.a1.Text, li .i64 r.2.2.asked.C.F.a2.N, ls r.2.2.asked.C.F.a2.Text, li .i64 r.2.2.asked.C.F.a3.N, ls r.2.2.asked.C.F.a3.Text, li .i64 r.2.2.asked.C.Value.N, ls r.2.2.asked.C.Value.Text, li .i64 r.2.2.asked.C.Client, li .i64 r.2.2.asked.C.Session, li .i64 r.2.2.asked.C.Rect.X0, li .i64 r.2.2.asked.C.Rect.Y0, li .i64 r.2.2.asked.C.Rect.X1, li .i64 r.2.2.asked.C.Rect.Y1, li .i64 r.2.2.asked.E, li .i64 r.2.2.asked.ID, li .i64 r.2.2.asked.N.From, li .i64 r.2.2.asked.N.Beat, vw Thing.cod r.2.2.asked.N.Moved, vw Hand.cod r.2.2.asked.N.Hands, vw Thing.cod r.2.2.asked.N.Given, vw Command.cod r.2.2.asked.N.Watch, li .i64 r.2.2.asked.F.From, li .i64 r.2.2.asked.F.Client, li .i64 r.2.2.asked.F.Session, li .i64 r.2.2.asked.F.Start, li .i64 r.2.2.asked.F.Beat, vw Event.cod r.2.2.asked.F.Events, li .i64 r.2.2.asked.Session, li .i64 r.2.2.asked.Beat, lb r.2.2.busy, li .i64 r.2.2.seq, li .i64 r.2.2.thing, li .i64 r.2.2.e], .cells [li .i64 r.2.2.v.client, li .i64 r.2.2.v.session, li .i64 r.2.2.v.n, li .i64 r.2.2.v.beat, li .i64 r.2.2.v.start, vw Thing.cod r.2.2.v.things, .osl 1000002 1 0 (r.2.2.v.log_).length, .mp 1000003], .arr 58 Event.cod.sz 1 (r.2.2.v.log_).length (getOf Event.cod r.2.2.v.log_), .map (mapOf Key.cells Event.cod r.2.2.v.wait)])
def F28 (n : Nat) (a0 : Client) (a1 : Int) (a2 : Command) : Option (Packet × Int × Client) :=
 if a0.busy then
  some ((Packet.mk 0 0 0 0 (Command.mk 0 0 0 0 (Point.mk 0 0) (A4.mk (Field.mk 0 ByteArray.empty) (Field.mk 0 ByteArray.empty) (Field.mk 0 ByteArray.empty) (Field.mk 0 ByteArray.empty)) (Field.mk 0 ByteArray.empty) 0 0 (Rect.mk 0 0 0 0)) 0 0 (Note.mk 0 0 ([] : List Thing) ([] : List Hand) ([] : List Thing) ([] : List Command)) (Frame.mk 0 0 0 0 0 ([] : List Event)) 0 0), 28, a0)
 else
  if decide (a1 < 0) then
   some ((Packet.mk 0 0 0 0 (Command.mk 0 0 0 0 (Point.mk 0 0) (A4.mk (Field.mk 0 ByteArray.empty) (Field.mk 0 ByteArray.empty) (Field.mk 0 ByteArray.empty) (Field.mk 0 ByteArray.empty)) (Field.mk 0 ByteArray.empty) 0 0 (Rect.mk 0 0 0 0)) 0 0 (Note.mk 0 0 ([] : List Thing) ([] : List Hand) ([] : List Thing) ([] : List Command)) (Frame.mk 0 0 0 0 0 ([] : List Event)) 0 0), 19, a0)
  else
   if decide (a0.n ≤ a1) then
    some ((Packet.mk 0 0 0 0 (Command.mk 0 0 0 0 (Point.mk 0 0) (A4.mk (Field.mk 0 ByteArray.empty) (Field.mk 0 ByteArray.empty) (Field.mk 0 ByteArray.empty) (Field.mk 0 ByteArray.empty)) (Field.mk 0 ByteArray.empty) 0 0 (Rect.mk 0 0 0 0)) 0 0 (Note.mk 0 0 ([] : List Thing) ([] : List Hand) ([] : List Thing) ([] : List Command)) (Frame.mk 0 0 0 0 0 ([] : List Event)) 0 0), 19, a0)
   else
    (F51 n (Command.mk a2.Kind a2.ID a2.Which a2.To a2.At a2.F a2.Value a0.id_ a0.session a2.Rect)).bind fun (r1 : Bool) =>
    if !(r1) then
     some ((Packet.mk 0 0 0 0 (Command.mk 0 0 0 0 (Point.mk 0 0) (A4.mk (Field.mk 0 ByteArray.empty) (Field.mk 0 ByteArray.empty) (Field.mk 0 ByteArray.empty) (Field.mk 0 ByteArray.empty)) (Field.mk 0 ByteArray.empty) 0 0 (Rect.mk 0 0 0 0)) 0 0 (Note.mk 0 0 ([] : List Thing) ([] : List Hand) ([] : List Thing) ([] : List Command)) (Frame.mk 0 0 0 0 0 ([] : List Event)) 0 0), 11, a0)
    else
     some ((Packet.mk (IntKind.wrap .i64 (100 + a0.id_)) a1 1 (IntKind.wrap .i64 (a0.seq + 1)) (Command.mk a2.Kind a2.ID a2.Which a2.To a2.At a2.F a2.Value a0.id_ a0.session a2.Rect) 0 0 (Note.mk 0 0 ([] : List Thing) ([] : List Hand) ([] : List Thing) ([] : List Command)) (Frame.mk 0 0 0 0 0 ([] : List Event)) a0.session 0), 0, (Client.mk a0.id_ a0.n a0.session a0.v (Packet.mk (IntKind.wrap .i64 (100 + a0.id_)) a1 1 (IntKind.wrap .i64 (a0.seq + 1)) (Command.mk a2.Kind a2.ID a2.Which a2.To a2.At a2.F a2.Value a0.id_ a0.session a2.Rect) 0 0 (Note.mk 0 0 ([] : List Thing) ([] : List Hand) ([] : List Thing) ([] : List Command)) (Frame.mk 0 0 0 0 0 ([] : List Event)) a0.session 0) true (IntKind.wrap .i64 (a0.seq + 1)) a0.thing a0.e))
theorem F28_ok (n : Nat) (a0 : Client) (a1 : Int) (a2 : Command) : ∀ r, F28 n a0 a1 a2 = some r → D 28 [.one (.ptr 1000000 0), .one (li .i64 a1), .agg (Command.cells a2)] [.cells [li .i64 a0.id_, li .i64 a0.n, li .i64 a0.session, .ptr 1000001 0, li .i64 a0.asked.From, li .i64 a0.asked.To, li .i64 a0.asked.Kind, li .i64 a0.asked.Seq, li .i64 a0.asked.C.Kind, li .i64 a0.asked.C.ID, li .i64 a0.asked.C.Which, li .i64 a0.asked.C.To, li .i64 a0.asked.C.At.X, li .i64 a0.asked.C.At.Y, li .i64 a0.asked.C.F.a0.N, ls a0.asked.C.F.a0.Text, li .i64 a0.asked.C.F.a1.N, ls a0.asked.C.F.a1.Text, li .i64 a0.asked.C.F.a2.N, ls a0.asked.C.F.a2.Text, li .i64 a0.asked.C.F.a3.N, ls a0.asked.C.F.a3.Text, li .i64 a0.asked.C.Value.N, ls a0.asked.C.Value.Text, li .i64 a0.asked.C.Client, li .i64 a0.asked.C.Session, li .i64 a0.asked.C.Rect.X0, li .i64 a0.asked.C.Rect.Y0, li .i64 a0.asked.C.Rect.X1, li .i64 a0.asked.C.Rect.Y1, li .i64 a0.asked.E, li .i64 a0.asked.ID, li .i64 a0.asked.N.From, li .i64 a0.asked.N.Beat, vw Thing.cod a0.asked.N.Moved, vw Hand.cod a0.asked.N.Hands, vw Thing.cod a0.asked.N.Given, vw Command.cod a0.asked.N.Watch, li .i64 a0.asked.F.From, li .i64 a0.asked.F.Client, li .i64 a0.asked.F.Session, li .i64 a0.asked.F.Start, li .i64 a0.asked.F.Beat, vw Event.cod a0.asked.F.Events, li .i64 a0.asked.Session, li .i64 a0.asked.Beat, lb a0.busy, li .i64 a0.seq, li .i64 a0.thing, li .i64 a0.e], .cells [li .i64 a0.v.client, li .i64 a0.v.session, li .i64 a0.v.n, li .i64 a0.v.beat, li .i64 a0.v.start, vw Thing.cod a0.v.things, .osl 1000002 0 0 (a0.v.log_).length, .mp 1000003], .arr 58 Event.cod.sz 0 (a0.v.log_).length (getOf Event.cod a0.v.log_), .map (mapOf Key.cells Event.cod a0.v.wait)] = some (F28_e r) := by
 refine fn_to (D := D) (n := n + 8) (nt := 74) (rs := pc28_r) (c := p28c34) (L := [(0, qp 1000000 0), (1, qj a1), (2, .agg (Command.cells a2))]) (M := (W30 a0)) (k := 4) rfl rfl rfl rfl rfl rfl rfl ?_
 unfold F28
 refine Sim.sr 3 [(7, qj 0), (6, qp 6 0), (5, qp 5 0)] [(6, some (.cells W2)), (5, some (.cells (Command.cells a2)))] (.sr 12 ([(17, qp 5 17), (16, qp 5 16), (15, qj a0.session), (14, qp 1000000 2), (13, qp 1000000 0), (12, qp 1000000 0), (11, qj a0.id_)] ++ rp [10, 9, 8] (qp 1000000 0)) [(5, some (.cells (W15 a2 a0))), (5, some (.cells [lj a2.Kind, lj a2.ID, lj a2.Which, lj a2.To, lj a2.At.X, lj a2.At.Y, lj a2.F.a0.N, ls a2.F.a0.Text, lj a2.F.a1.N, ls a2.F.a1.Text, lj a2.F.a2.N, ls a2.F.a2.Text, lj a2.F.a3.N, ls a2.F.a3.Text, lj a2.Value.N, ls a2.Value.Text, lj a0.id_, lj a2.Session, lj a2.Rect.X0, lj a2.Rect.Y0, lj a2.Rect.X1, lj a2.Rect.Y1]))] (.seq (.block (.sr 5 [(18, qb a0.busy), (22, qb a0.busy), (21, qp 1000000 46), (20, qp 1000000 0), (19, qp 1000000 0)] [] (.cd _ ?_ ?_)))))
 ·exact Sim.sr 3 [(7, qj 28), (23, .agg W2)] [(6, some (.cells W2))] (.ret (.blockR (.thenR .fn)))
 ·refine Sim.st 3 (rp [27, 26] (qb (decide (a1 < 0))) ++ [(25, qj a1)]) [] (.sp 27 _ ?_ ?_)
  ·exact SimI.rd 8 ([(24, qb true), (34, qb true)] ++ rp [33, 32, 31, 30, 29, 28] tz) [] (.thenN (.ct (.sr 3 [(7, qj 19), (35, .agg W2)] [(6, some (.cells W2))] (.ret (.blockR (.thenR .fn))))))
  ·refine SimI.rd 8 (rp [24, 34, 33] (qb (decide (a0.n ≤ a1))) ++ [(32, qj a0.n), (31, qp 1000000 1), (30, qp 1000000 0), (29, qp 1000000 0), (28, qj a1)]) [] (.thenN (.cd _ ?_ ?_))
   ·exact Sim.sr 3 [(7, qj 19), (35, .agg W2)] [(6, some (.cells W2))] (.ret (.blockR (.thenR .fn)))
   ·refine Sim.st 1 [(37, .agg (W15 a2 a0))] [] (.cl 38 true [[]] 51 [37] none (fun r1 => qb r1) [.agg (W15 a2 a0)] (F51_ok _ _) (fun r1 => ?_))
    refine SimI.rd 2 [(36, qb (!(r1))), (39, qb (!(r1)))] [] (.thenN (.cd _ ?_ ?_))
    ·exact Sim.sr 3 [(7, qj 11), (40, .agg W2)] [(6, some (.cells W2))] (.ret (.blockR (.thenR .fn)))
    ·exact Sim.skip (.blockN (.thenN (.sr 8 [(47, qp 1000000 47), (46, qp 1000000 0), (45, qj (iw .i64 (a0.seq + 1))), (44, qj a0.seq), (43, qp 1000000 47), (42, qp 1000000 0), (41, qp 1000000 0)] [(1000000, some (.cells [lj a0.id_, lj a0.n, lj a0.session, .ptr 1000001 0, lj a0.asked.From, lj a0.asked.To, lj a0.asked.Kind, lj a0.asked.Seq, lj a0.asked.C.Kind, lj a0.asked.C.ID, lj a0.asked.C.Which, lj a0.asked.C.To, lj a0.asked.C.At.X, lj a0.asked.C.At.Y, lj a0.asked.C.F.a0.N, ls a0.asked.C.F.a0.Text, lj a0.asked.C.F.a1.N, ls a0.asked.C.F.a1.Text, lj a0.asked.C.F.a2.N, ls a0.asked.C.F.a2.Text, lj a0.asked.C.F.a3.N, ls a0.asked.C.F.a3.Text, lj a0.asked.C.Value.N, ls a0.asked.C.Value.Text, lj a0.asked.C.Client, lj a0.asked.C.Session, lj a0.asked.C.Rect.X0, lj a0.asked.C.Rect.Y0, lj a0.asked.C.Rect.X1, lj a0.asked.C.Rect.Y1, lj a0.asked.E, lj a0.asked.ID, lj a0.asked.N.From, lj a0.asked.N.Beat, vw Thing.cod a0.asked.N.Moved, vw Hand.cod a0.asked.N.Hands, vw Thing.cod a0.asked.N.Given, vw Command.cod a0.asked.N.Watch, lj a0.asked.F.From, lj a0.asked.F.Client, lj a0.asked.F.Session, lj a0.asked.F.Start, lj a0.asked.F.Beat, vw Event.cod a0.asked.F.Events, lj a0.asked.Session, lj a0.asked.Beat, lb a0.busy, lj (iw .i64 (a0.seq + 1)), lj a0.thing, lj a0.e]))] (.sr 4 [(50, qp 1000000 46), (49, qp 1000000 0), (48, qp 1000000 0)] [(1000000, some (.cells [lj a0.id_, lj a0.n, lj a0.session, .ptr 1000001 0, lj a0.asked.From, lj a0.asked.To, lj a0.asked.Kind, lj a0.asked.Seq, lj a0.asked.C.Kind, lj a0.asked.C.ID, lj a0.asked.C.Which, lj a0.asked.C.To, lj a0.asked.C.At.X, lj a0.asked.C.At.Y, lj a0.asked.C.F.a0.N, ls a0.asked.C.F.a0.Text, lj a0.asked.C.F.a1.N, ls a0.asked.C.F.a1.Text, lj a0.asked.C.F.a2.N, ls a0.asked.C.F.a2.Text, lj a0.asked.C.F.a3.N, ls a0.asked.C.F.a3.Text, lj a0.asked.C.Value.N, ls a0.asked.C.Value.Text, lj a0.asked.C.Client, lj a0.asked.C.Session, lj a0.asked.C.Rect.X0, lj a0.asked.C.Rect.Y0, lj a0.asked.C.Rect.X1, lj a0.asked.C.Rect.Y1, lj a0.asked.E, lj a0.asked.ID, lj a0.asked.N.From, lj a0.asked.N.Beat, vw Thing.cod a0.asked.N.Moved, vw Hand.cod a0.asked.N.Hands, vw Thing.cod a0.asked.N.Given, vw Command.cod a0.asked.N.Watch, lj a0.asked.F.From, lj a0.asked.F.Client, lj a0.asked.F.Session, lj a0.asked.F.Start, lj a0.asked.F.Beat, vw Event.cod a0.asked.F.Events, lj a0.asked.Session, lj a0.asked.Beat, lb true, lj (iw .i64 (a0.seq + 1)), lj a0.thing, lj a0.e]))] (.sr 20 ([(69, qp 1000000 4), (68, qp 1000000 0), (67, .agg (W12 a0 a1 a2)), (66, qj a0.session), (65, qp 1000000 2), (64, qp 1000000 0), (63, qp 1000000 0), (62, .agg (W15 a2 a0)), (61, qj (iw .i64 (a0.seq + 1))), (60, qp 1000000 47), (59, qp 1000000 0), (58, qp 1000000 0), (57, qj a1), (56, qj (iw .i64 (100 + a0.id_))), (55, qj a0.id_)] ++ rp [54, 53, 52, 51] (qp 1000000 0)) [(1000000, some (.cells [lj a0.id_, lj a0.n, lj a0.session, .ptr 1000001 0, lj (iw .i64 (100 + a0.id_)), lj a1, lj 1, lj (iw .i64 (a0.seq + 1)), lj a2.Kind, lj a2.ID, lj a2.Which, lj a2.To, lj a2.At.X, lj a2.At.Y, lj a2.F.a0.N, ls a2.F.a0.Text, lj a2.F.a1.N, ls a2.F.a1.Text, lj a2.F.a2.N, ls a2.F.a2.Text, lj a2.F.a3.N, ls a2.F.a3.Text, lj a2.Value.N, ls a2.Value.Text, lj a0.id_, lj a0.session, lj a2.Rect.X0, lj a2.Rect.Y0, lj a2.Rect.X1, lj a2.Rect.Y1, lj 0, lj 0, lj 0, lj 0, vw Thing.cod ([] : List Thing), vw Hand.cod ([] : List Hand), vw Thing.cod ([] : List Thing), vw Command.cod ([] : List Command), lj 0, lj 0, lj 0, lj 0, lj 0, vw Event.cod ([] : List Event), lj a0.session, lj 0, lb true, lj (iw .i64 (a0.seq + 1)), lj a0.thing, lj a0.e]))] (.sr 6 [(7, qj 0), (73, .agg (W12 a0 a1 a2)), (72, qp 1000000 4), (71, qp 1000000 0), (70, qp 1000000 0)] [(6, some (.cells (W12 a0 a1 a2)))] (.ret .fn)))))))
def F29_e : (Bool × Client) → PV × List Ob := fun r => (.one (lb r.1), [.cells [li .i64 r.2.id_, li .i64 r.2.n, li .i64 r.2.session, .ptr 1000001 0, li .i64 r.2.asked.From, li .i64 r.2.asked.To, li .i64 r.2.asked.Kind, li .i64 r.2.asked.Seq, li .i64 r.2.asked.C.Kind, li .i64 r.2.asked.C.ID, li .i64 r.2.asked.C.Which, li .i64 r.2.asked.C.To, li .i64 r.2.asked.C.At.X, li .i64 r.2.asked.C.At.Y, li .i64 r.2.asked.C.F.a0.N, ls r.2.asked.C.F.a0.Text, li .i64 r.2.asked.C.F.a1.N, ls r.2.asked.C.F.a1.Text, li .i64 r.2.asked.C.F.a2.N, ls r.2.asked.C.F.a2.Text, li .i64 r.2.asked.C.F.a3.N, ls r.2.asked.C.F.a3.Text, li .i64 r.2.asked.C.Value.N, ls r.2.asked.C.Value.Text, li .i64 r.2.asked.C.Client, li .i64 r.2.asked.C.Session, li .i64 r.2.asked.C.Rect.X0, li .i64 r.2.asked.C.Rect.Y0, li .i64 r.2.asked.C.Rect.X1, li .i64 r.2.asked.C.Rect.Y1, li .i64 r.2.asked.E, li .i64 r.2.asked.ID, li .i64 r.2.asked.N.From, li .i64 r.2.asked.N.Beat, vw Thing.cod r.2.asked.N.Moved, vw Hand.cod r.2.asked.N.Hands, vw Thing.cod r.2.asked.N.Given, vw Command.cod r.2.asked.N.Watch, li .i64 r.2.asked.F.From, li .i64 r.2.asked.F.Client, li .i64 r.2.asked.F.Session, li .i64 r.2.asked.F.Start, li .i64 r.2.asked.F.Beat, vw Event.cod r.2.asked.F.Events, li .i64 r.2.asked.Session, li .i64 r.2.asked.Beat, lb r.2.busy, li .i64 r.2.seq, li .i64 r.2.thing, li .i64 r.2.e], .cells [li .i64 r.2.v.client, li .i64 r.2.v.session, li .i64 r.2.v.n, li .i64 r.2.v.beat, li .i64 r.2.v.start, vw Thing.cod r.2.v.things, .osl 1000002 1 0 (r.2.v.log_).length, .mp 1000003], .arr 58 Event.cod.sz 1 (r.2.v.log_).length (getOf Event.cod r.2.v.log_), .map (mapOf Key.cells Event.cod r.2.v.wait)])
def F29 (n : Nat) (a0 : Client) : Option (Bool × Client) :=
 some (a0.busy, a0)
theorem F29_ok (n : Nat) (a0 : Client) : ∀ r, F29 n a0 = some r → D 29 [.one (.ptr 1000000 0)] [.cells [li .i64 a0.id_, li .i64 a0.n, li .i64 a0.session, .ptr 1000001 0, li .i64 a0.asked.From, li .i64 a0.asked.To, li .i64 a0.asked.Kind, li .i64 a0.asked.Seq, li .i64 a0.asked.C.Kind, li .i64 a0.asked.C.ID, li .i64 a0.asked.C.Which, li .i64 a0.asked.C.To, li .i64 a0.asked.C.At.X, li .i64 a0.asked.C.At.Y, li .i64 a0.asked.C.F.a0.N, ls a0.asked.C.F.a0.Text, li .i64 a0.asked.C.F.a1.N, ls a0.asked.C.F.a1.Text, li .i64 a0.asked.C.F.a2.N, ls a0.asked.C.F.a2.Text, li .i64 a0.asked.C.F.a3.N, ls a0.asked.C.F.a3.Text, li .i64 a0.asked.C.Value.N, ls a0.asked.C.Value.Text, li .i64 a0.asked.C.Client, li .i64 a0.asked.C.Session, li .i64 a0.asked.C.Rect.X0, li .i64 a0.asked.C.Rect.Y0, li .i64 a0.asked.C.Rect.X1, li .i64 a0.asked.C.Rect.Y1, li .i64 a0.asked.E, li .i64 a0.asked.ID, li .i64 a0.asked.N.From, li .i64 a0.asked.N.Beat, vw Thing.cod a0.asked.N.Moved, vw Hand.cod a0.asked.N.Hands, vw Thing.cod a0.asked.N.Given, vw Command.cod a0.asked.N.Watch, li .i64 a0.asked.F.From, li .i64 a0.asked.F.Client, li .i64 a0.asked.F.Session, li .i64 a0.asked.F.Start, li .i64 a0.asked.F.Beat, vw Event.cod a0.asked.F.Events, li .i64 a0.asked.Session, li .i64 a0.asked.Beat, lb a0.busy, li .i64 a0.seq, li .i64 a0.thing, li .i64 a0.e], .cells [li .i64 a0.v.client, li .i64 a0.v.session, li .i64 a0.v.n, li .i64 a0.v.beat, li .i64 a0.v.start, vw Thing.cod a0.v.things, .osl 1000002 0 0 (a0.v.log_).length, .mp 1000003], .arr 58 Event.cod.sz 0 (a0.v.log_).length (getOf Event.cod a0.v.log_), .map (mapOf Key.cells Event.cod a0.v.wait)] = some (F29_e r) := by
 refine fn_to (D := D) (n := n + 8) (nt := 7) (rs := pc29_r) (c := p29c5) (L := [(0, qp 1000000 0)]) (M := (W30 a0)) (k := 4) rfl rfl rfl rfl rfl rfl rfl ?_
 unfold F29
 exact Sim.sr 1 [(2, qb false)] [] (.sr 5 [(2, qb a0.busy), (6, qb a0.busy), (5, qp 1000000 46), (4, qp 1000000 0), (3, qp 1000000 0)] [] (.ret .fn))
def F30_e : ((List Packet) × Client) → PV × List Ob := fun r => (.one (vw Packet.cod r.1), [.cells [li .i64 r.2.id_, li .i64 r.2.n, li .i64 r.2.session, .ptr 1000001 0, li .i64 r.2.asked.From, li .i64 r.2.asked.To, li .i64 r.2.asked.Kind, li .i64 r.2.asked.Seq, li .i64 r.2.asked.C.Kind, li .i64 r.2.asked.C.ID, li .i64 r.2.asked.C.Which, li .i64 r.2.asked.C.To, li .i64 r.2.asked.C.At.X, li .i64 r.2.asked.C.At.Y, li .i64 r.2.asked.C.F.a0.N, ls r.2.asked.C.F.a0.Text, li .i64 r.2.asked.C.F.a1.N, ls r.2.asked.C.F.a1.Text, li .i64 r.2.asked.C.F.a2.N, ls r.2.asked.C.F.a2.Text, li .i64 r.2.asked.C.F.a3.N, ls r.2.asked.C.F.a3.Text, li .i64 r.2.asked.C.Value.N, ls r.2.asked.C.Value.Text, li .i64 r.2.asked.C.Client, li .i64 r.2.asked.C.Session, li .i64 r.2.asked.C.Rect.X0, li .i64 r.2.asked.C.Rect.Y0, li .i64 r.2.asked.C.Rect.X1, li .i64 r.2.asked.C.Rect.Y1, li .i64 r.2.asked.E, li .i64 r.2.asked.ID, li .i64 r.2.asked.N.From, li .i64 r.2.asked.N.Beat, vw Thing.cod r.2.asked.N.Moved, vw Hand.cod r.2.asked.N.Hands, vw Thing.cod r.2.asked.N.Given, vw Command.cod r.2.asked.N.Watch, li .i64 r.2.asked.F.From, li .i64 r.2.asked.F.Client, li .i64 r.2.asked.F.Session, li .i64 r.2.asked.F.Start, li .i64 r.2.asked.F.Beat, vw Event.cod r.2.asked.F.Events, li .i64 r.2.asked.Session, li .i64 r.2.asked.Beat, lb r.2.busy, li .i64 r.2.seq, li .i64 r.2.thing, li .i64 r.2.e], .cells [li .i64 r.2.v.client, li .i64 r.2.v.session, li .i64 r.2.v.n, li .i64 r.2.v.beat, li .i64 r.2.v.start, vw Thing.cod r.2.v.things, .osl 1000002 1 0 (r.2.v.log_).length, .mp 1000003], .arr 58 Event.cod.sz 1 (r.2.v.log_).length (getOf Event.cod r.2.v.log_), .map (mapOf Key.cells Event.cod r.2.v.wait)])
def F30_l31 (n : Nat) (a0 : Client) : Nat → (List Packet) → Int → Int → Int → Int → Int → Int → (List Thing) → (List Event) → (List (Key × (List Event))) → Option ((List Packet) × Client)
 | 0, _, _, _, _, _, _, _, _, _, _ => none
 | m + 1, l21, i22, i23, i24, i25, i26, i27, l28, l29, l30 =>
  if decide (i22 < a0.n) then
   (F17 n (View.mk i23 i24 i25 i26 i27 l28 l29 l30)).bind fun (r32 : (Int × View)) =>
   if decide (r32.1 < 0) then
    some (l21, (Client.mk a0.id_ a0.n a0.session r32.2 a0.asked a0.busy a0.seq a0.thing a0.e))
   else
    (F17 n r32.2).bind fun (r33 : (Int × View)) =>
    if ((l21).length + 1) * 456 ≤ maxCells ∧ (l21).length + 1 ≤ maxCells then
     (F30_l31 n a0 m) (l21 ++ [(Packet.mk (IntKind.wrap .i64 (100 + a0.id_)) i22 5 0 (Command.mk 0 0 0 0 (Point.mk 0 0) (A4.mk (Field.mk 0 ByteArray.empty) (Field.mk 0 ByteArray.empty) (Field.mk 0 ByteArray.empty) (Field.mk 0 ByteArray.empty)) (Field.mk 0 ByteArray.empty) 0 0 (Rect.mk 0 0 0 0)) 0 0 (Note.mk 0 0 ([] : List Thing) ([] : List Hand) ([] : List Thing) ([] : List Command)) (Frame.mk 0 0 0 0 0 ([] : List Event)) a0.session r33.1)]) (IntKind.wrap .i64 (i22 + 1)) r33.2.client r33.2.session r33.2.n r33.2.beat r33.2.start r33.2.things r33.2.log_ r33.2.wait
    else none
  else
   some (l21, (Client.mk a0.id_ a0.n a0.session (View.mk i23 i24 i25 i26 i27 l28 l29 l30) a0.asked a0.busy a0.seq a0.thing a0.e))
theorem F30_l31_ok (n : Nat) (a0 : Client) : ∀ (m : Nat) (l21 : (List Packet)) (i22 i23 i24 i25 i26 i27 : Int) (l28 : (List Thing)) (l29 : (List Event)) (l30 : (List (Key × (List Event)))), SimL Try.prog D (n + 8) m p30c27 (W50 l21 a0 i22) (W3 l21 a0 i23 i24 i25 i26 i27 l28 l29 l30) (F30_l31 n a0 m l21 i22 i23 i24 i25 i26 i27 l28 l29 l30) (QB 0 (QT Try.prog D (n + 8) p30c33 (QF false pc30_r 4 F30_e))) := by
 intro m_l31
 induction m_l31 with
 | zero => intro l21 i22 i23 i24 i25 i26 i27 l28 l29 l30; exact SimL.zero'  rfl
 | succ m_l31 ih_l31 =>
  intro l21 i22 i23 i24 i25 i26 i27 l28 l29 l30
  refine SimL.succ ?_
  unfold F30_l31
  refine Sim.seq (.rg (W50 l21 a0 i22) (W3 l21 a0 i23 i24 i25 i26 i27 l28 l29 l30) (.rd 1 [(21, qb (decide (i22 < a0.n)))] [] (.thenN (.seq (.cd _ ?_ ?_)))))
  ·refine Sim.skip (.thenN (.seq (.block (.sr 2 [(4, qj i22), (22, qj i22)] [] (.seq (.st 4 W71 [] (.bn ⟨some 27, .gcall false false W41 [[]] 17 [26], none, []⟩ (fun r32 => [(27, qj r32.1)]) (fun r32 => (W35 r32)) (fun r32 hr => pe (gq (ks := W41) (ARGS := [qp 1000001 0]) (F17_ok _ _ _ hr))) (fun r32 => ?_))))))))
   refine SimI.rd 1 [(28, qb (decide (r32.1 < 0)))] [] (.thenN (.cd _ ?_ ?_))
   ·exact Sim.exit (.thenX (.blockY rfl (.thenX (.loopX (.blockX (.thenN (.sr 2 (rp [2, 49] (.one (.osl 100003 0 0 (l21).length))) [] (.ret (.fin (out_with (vs := [.one (vw Packet.cod l21)]) (ress_cons (resOf_own (c := Packet.cod) (k := 100003) (g := 0) (el := 73) (l := l21) (by kernel_rfl) (by kernel_rfl) (by kernel_rfl)) (ress_nil)) (by kernel_rfl)))))))))))
   ·refine Sim.skip (.thenN (.region0 (.rn 15 ((W43 a0 i22) ++ rp [32, 31, 30] (qp 1000000 0) ++ [(29, .one (.osl 100003 0 0 (l21).length))]) [] (.bn ⟨some 44, .gcall false false W41 [[]] 17 [43], none, [(43, .at_ 1000001 0)]⟩ (fun r33 => [(44, qj r33.1)]) (fun r33 => (W34 r33)) (fun r33 hr => pe (gq (ks := W41) (ARGS := [qp 1000001 0]) (F17_ok _ _ _ hr))) (fun r33 => ?_)))))
    refine SimI.rn 2 (W19 a0 i22 r33) [] (.gu ⟨some 47, .app 100003 73 42 456 29 46, none, [(29, Hint.obj 100003), (46, .imm)]⟩ (W38 l21 a0 i22 r33) (W21 l21 a0 i22 r33) (fun hc => pe (eff_appO (c := Packet.cod) (g := 0) (l := l21) (a := (Packet.mk (iw .i64 (100 + a0.id_)) i22 5 0 (Command.mk 0 0 0 0 (Point.mk 0 0) (A4.mk (Field.mk 0 be) (Field.mk 0 be) (Field.mk 0 be) (Field.mk 0 be)) (Field.mk 0 be) 0 0 (Rect.mk 0 0 0 0)) 0 0 (Note.mk 0 0 ([] : List Thing) ([] : List Hand) ([] : List Thing) ([] : List Command)) (Frame.mk 0 0 0 0 0 ([] : List Event)) a0.session r33.1)) (by kernel_rfl) (by kernel_rfl) (by kernel_rfl) (by kernel_rfl) hc)) (.rd 1 (W39 l21 a0 i22 r33) [] (.blockN (.thenN (.region0 (.rd 2 (rp [20, 48] (qj (iw .i64 (i22 + 1)))) [] (.loopN (.pr [0, 3, 19, 20] W59 [(false, 3, 0, 100003, 73, 42)] (W33 l21 a0 i22 r33) (W8 l21 a0 i22 r33) ?_))))))))
    exact ih_l31 (l21 ++ [(Packet.mk (iw .i64 (100 + a0.id_)) i22 5 0 (Command.mk 0 0 0 0 (Point.mk 0 0) (A4.mk (Field.mk 0 be) (Field.mk 0 be) (Field.mk 0 be) (Field.mk 0 be)) (Field.mk 0 be) 0 0 (Rect.mk 0 0 0 0)) 0 0 (Note.mk 0 0 ([] : List Thing) ([] : List Hand) ([] : List Thing) ([] : List Command)) (Frame.mk 0 0 0 0 0 ([] : List Event)) a0.session r33.1)]) (iw .i64 (i22 + 1)) r33.2.client r33.2.session r33.2.n r33.2.beat r33.2.start r33.2.things r33.2.log_ r33.2.wait
  ·exact Sim.exit (.thenX (.loopX (.blockX (.thenN (.sr 2 (rp [2, 49] (.one (.osl 100003 0 0 (l21).length))) [] (.ret (.fin (out_with (vs := [.one (vw Packet.cod l21)]) (ress_cons (resOf_own (c := Packet.cod) (k := 100003) (g := 0) (el := 73) (l := l21) (by kernel_rfl) (by kernel_rfl) (by kernel_rfl)) (ress_nil)) (by kernel_rfl)))))))))
def F30_l64 (n : Nat) (a0 : Client) : Nat → (List Packet) → Int → Int → Int → Int → Int → Int → (List Thing) → (List Event) → (List (Key × (List Event))) → Option ((List Packet) × Client)
 | 0, _, _, _, _, _, _, _, _, _, _ => none
 | m + 1, l54, i55, i56, i57, i58, i59, i60, l61, l62, l63 =>
  if decide (i55 < a0.n) then
   (F17 n (View.mk i56 i57 i58 i59 i60 l61 l62 l63)).bind fun (r65 : (Int × View)) =>
   if decide (r65.1 < 0) then
    some (l54, (Client.mk a0.id_ a0.n a0.session r65.2 a0.asked a0.busy a0.seq a0.thing a0.e))
   else
    (F17 n r65.2).bind fun (r66 : (Int × View)) =>
    if ((l54).length + 1) * 456 ≤ maxCells ∧ (l54).length + 1 ≤ maxCells then
     (F30_l64 n a0 m) (l54 ++ [(Packet.mk (IntKind.wrap .i64 (100 + a0.id_)) i55 5 0 (Command.mk 0 0 0 0 (Point.mk 0 0) (A4.mk (Field.mk 0 ByteArray.empty) (Field.mk 0 ByteArray.empty) (Field.mk 0 ByteArray.empty) (Field.mk 0 ByteArray.empty)) (Field.mk 0 ByteArray.empty) 0 0 (Rect.mk 0 0 0 0)) 0 0 (Note.mk 0 0 ([] : List Thing) ([] : List Hand) ([] : List Thing) ([] : List Command)) (Frame.mk 0 0 0 0 0 ([] : List Event)) a0.session r66.1)]) (IntKind.wrap .i64 (i55 + 1)) r66.2.client r66.2.session r66.2.n r66.2.beat r66.2.start r66.2.things r66.2.log_ r66.2.wait
    else none
  else
   some (l54, (Client.mk a0.id_ a0.n a0.session (View.mk i56 i57 i58 i59 i60 l61 l62 l63) a0.asked a0.busy a0.seq a0.thing a0.e))
theorem F30_l64_ok (n : Nat) (a0 : Client) : ∀ (m : Nat) (l54 : (List Packet)) (i55 i56 i57 i58 i59 i60 : Int) (l61 : (List Thing)) (l62 : (List Event)) (l63 : (List (Key × (List Event)))), SimL Try.prog D (n + 8) m p30c27 (W50 l54 a0 i55) (W3 l54 a0 i56 i57 i58 i59 i60 l61 l62 l63) (F30_l64 n a0 m l54 i55 i56 i57 i58 i59 i60 l61 l62 l63) (QB 0 (QT Try.prog D (n + 8) p30c33 (QF false pc30_r 4 F30_e))) := by
 intro m_l64
 induction m_l64 with
 | zero => intro l54 i55 i56 i57 i58 i59 i60 l61 l62 l63; exact SimL.zero'  rfl
 | succ m_l64 ih_l64 =>
  intro l54 i55 i56 i57 i58 i59 i60 l61 l62 l63
  refine SimL.succ ?_
  unfold F30_l64
  refine Sim.seq (.rg (W50 l54 a0 i55) (W3 l54 a0 i56 i57 i58 i59 i60 l61 l62 l63) (.rd 1 [(21, qb (decide (i55 < a0.n)))] [] (.thenN (.seq (.cd _ ?_ ?_)))))
  ·refine Sim.skip (.thenN (.seq (.block (.sr 2 [(4, qj i55), (22, qj i55)] [] (.seq (.st 4 W71 [] (.bn ⟨some 27, .gcall false false W41 [[]] 17 [26], none, []⟩ (fun r65 => [(27, qj r65.1)]) (fun r65 => (W35 r65)) (fun r65 hr => pe (gq (ks := W41) (ARGS := [qp 1000001 0]) (F17_ok _ _ _ hr))) (fun r65 => ?_))))))))
   refine SimI.rd 1 [(28, qb (decide (r65.1 < 0)))] [] (.thenN (.cd _ ?_ ?_))
   ·exact Sim.exit (.thenX (.blockY rfl (.thenX (.loopX (.blockX (.thenN (.sr 2 (rp [2, 49] (.one (.osl 100003 0 0 (l54).length))) [] (.ret (.fin (out_with (vs := [.one (vw Packet.cod l54)]) (ress_cons (resOf_own (c := Packet.cod) (k := 100003) (g := 0) (el := 73) (l := l54) (by kernel_rfl) (by kernel_rfl) (by kernel_rfl)) (ress_nil)) (by kernel_rfl)))))))))))
   ·refine Sim.skip (.thenN (.region0 (.rn 15 ((W43 a0 i55) ++ rp [32, 31, 30] (qp 1000000 0) ++ [(29, .one (.osl 100003 0 0 (l54).length))]) [] (.bn ⟨some 44, .gcall false false W41 [[]] 17 [43], none, [(43, .at_ 1000001 0)]⟩ (fun r66 => [(44, qj r66.1)]) (fun r66 => (W34 r66)) (fun r66 hr => pe (gq (ks := W41) (ARGS := [qp 1000001 0]) (F17_ok _ _ _ hr))) (fun r66 => ?_)))))
    refine SimI.rn 2 (W19 a0 i55 r66) [] (.gu ⟨some 47, .app 100003 73 42 456 29 46, none, [(29, Hint.obj 100003), (46, .imm)]⟩ (W38 l54 a0 i55 r66) (W21 l54 a0 i55 r66) (fun hc => pe (eff_appO (c := Packet.cod) (g := 0) (l := l54) (a := (Packet.mk (iw .i64 (100 + a0.id_)) i55 5 0 (Command.mk 0 0 0 0 (Point.mk 0 0) (A4.mk (Field.mk 0 be) (Field.mk 0 be) (Field.mk 0 be) (Field.mk 0 be)) (Field.mk 0 be) 0 0 (Rect.mk 0 0 0 0)) 0 0 (Note.mk 0 0 ([] : List Thing) ([] : List Hand) ([] : List Thing) ([] : List Command)) (Frame.mk 0 0 0 0 0 ([] : List Event)) a0.session r66.1)) (by kernel_rfl) (by kernel_rfl) (by kernel_rfl) (by kernel_rfl) hc)) (.rd 1 (W39 l54 a0 i55 r66) [] (.blockN (.thenN (.region0 (.rd 2 (rp [20, 48] (qj (iw .i64 (i55 + 1)))) [] (.loopN (.pr [0, 3, 19, 20] W59 [(false, 3, 0, 100003, 73, 42)] (W33 l54 a0 i55 r66) (W8 l54 a0 i55 r66) ?_))))))))
    exact ih_l64 (l54 ++ [(Packet.mk (iw .i64 (100 + a0.id_)) i55 5 0 (Command.mk 0 0 0 0 (Point.mk 0 0) (A4.mk (Field.mk 0 be) (Field.mk 0 be) (Field.mk 0 be) (Field.mk 0 be)) (Field.mk 0 be) 0 0 (Rect.mk 0 0 0 0)) 0 0 (Note.mk 0 0 ([] : List Thing) ([] : List Hand) ([] : List Thing) ([] : List Command)) (Frame.mk 0 0 0 0 0 ([] : List Event)) a0.session r66.1)]) (iw .i64 (i55 + 1)) r66.2.client r66.2.session r66.2.n r66.2.beat r66.2.start r66.2.things r66.2.log_ r66.2.wait
  ·exact Sim.exit (.thenX (.loopX (.blockX (.thenN (.sr 2 (rp [2, 49] (.one (.osl 100003 0 0 (l54).length))) [] (.ret (.fin (out_with (vs := [.one (vw Packet.cod l54)]) (ress_cons (resOf_own (c := Packet.cod) (k := 100003) (g := 0) (el := 73) (l := l54) (by kernel_rfl) (by kernel_rfl) (by kernel_rfl)) (ress_nil)) (by kernel_rfl)))))))))
def F30 (n : Nat) (a0 : Client) : Option ((List Packet) × Client) :=
 if a0.busy then
  if (([] : List Packet).length + 1) * 456 ≤ maxCells ∧ ([] : List Packet).length + 1 ≤ maxCells then
   F30_l31 n a0 (n + 8) [a0.asked] 0 a0.v.client a0.v.session a0.v.n a0.v.beat a0.v.start a0.v.things a0.v.log_ a0.v.wait
  else none
 else
  F30_l64 n a0 (n + 8) ([] : List Packet) 0 a0.v.client a0.v.session a0.v.n a0.v.beat a0.v.start a0.v.things a0.v.log_ a0.v.wait
theorem F30_ok (n : Nat) (a0 : Client) : ∀ r, F30 n a0 = some r → D 30 [.one (.ptr 1000000 0)] [.cells [li .i64 a0.id_, li .i64 a0.n, li .i64 a0.session, .ptr 1000001 0, li .i64 a0.asked.From, li .i64 a0.asked.To, li .i64 a0.asked.Kind, li .i64 a0.asked.Seq, li .i64 a0.asked.C.Kind, li .i64 a0.asked.C.ID, li .i64 a0.asked.C.Which, li .i64 a0.asked.C.To, li .i64 a0.asked.C.At.X, li .i64 a0.asked.C.At.Y, li .i64 a0.asked.C.F.a0.N, ls a0.asked.C.F.a0.Text, li .i64 a0.asked.C.F.a1.N, ls a0.asked.C.F.a1.Text, li .i64 a0.asked.C.F.a2.N, ls a0.asked.C.F.a2.Text, li .i64 a0.asked.C.F.a3.N, ls a0.asked.C.F.a3.Text, li .i64 a0.asked.C.Value.N, ls a0.asked.C.Value.Text, li .i64 a0.asked.C.Client, li .i64 a0.asked.C.Session, li .i64 a0.asked.C.Rect.X0, li .i64 a0.asked.C.Rect.Y0, li .i64 a0.asked.C.Rect.X1, li .i64 a0.asked.C.Rect.Y1, li .i64 a0.asked.E, li .i64 a0.asked.ID, li .i64 a0.asked.N.From, li .i64 a0.asked.N.Beat, vw Thing.cod a0.asked.N.Moved, vw Hand.cod a0.asked.N.Hands, vw Thing.cod a0.asked.N.Given, vw Command.cod a0.asked.N.Watch, li .i64 a0.asked.F.From, li .i64 a0.asked.F.Client, li .i64 a0.asked.F.Session, li .i64 a0.asked.F.Start, li .i64 a0.asked.F.Beat, vw Event.cod a0.asked.F.Events, li .i64 a0.asked.Session, li .i64 a0.asked.Beat, lb a0.busy, li .i64 a0.seq, li .i64 a0.thing, li .i64 a0.e], .cells [li .i64 a0.v.client, li .i64 a0.v.session, li .i64 a0.v.n, li .i64 a0.v.beat, li .i64 a0.v.start, vw Thing.cod a0.v.things, .osl 1000002 0 0 (a0.v.log_).length, .mp 1000003], .arr 58 Event.cod.sz 0 (a0.v.log_).length (getOf Event.cod a0.v.log_), .map (mapOf Key.cells Event.cod a0.v.wait)] = some (F30_e r) := by
 refine fn_to (D := D) (n := n + 8) (nt := 50) (rs := pc30_r) (c := p30c39) (L := [(0, qp 1000000 0)]) (M := (W30 a0)) (k := 4) rfl rfl rfl rfl rfl rfl rfl ?_
 unfold F30
 refine Sim.sr 1 [(2, .one (lnil))] [] (.scope (.sr 1 [(3, .one (lnil))] [] (.seq (.sr 4 [(8, qb a0.busy), (7, qp 1000000 46), (6, qp 1000000 0), (5, qp 1000000 0)] [] (.cd _ ?_ ?_)))))
 ·refine Sim.region0 (.rn 6 [(14, .one (vw Packet.cod [a0.asked])), (13, .agg [lj a0.asked.From, lj a0.asked.To, lj a0.asked.Kind, lj a0.asked.Seq, lj a0.asked.C.Kind, lj a0.asked.C.ID, lj a0.asked.C.Which, lj a0.asked.C.To, lj a0.asked.C.At.X, lj a0.asked.C.At.Y, lj a0.asked.C.F.a0.N, ls a0.asked.C.F.a0.Text, lj a0.asked.C.F.a1.N, ls a0.asked.C.F.a1.Text, lj a0.asked.C.F.a2.N, ls a0.asked.C.F.a2.Text, lj a0.asked.C.F.a3.N, ls a0.asked.C.F.a3.Text, lj a0.asked.C.Value.N, ls a0.asked.C.Value.Text, lj a0.asked.C.Client, lj a0.asked.C.Session, lj a0.asked.C.Rect.X0, lj a0.asked.C.Rect.Y0, lj a0.asked.C.Rect.X1, lj a0.asked.C.Rect.Y1, lj a0.asked.E, lj a0.asked.ID, lj a0.asked.N.From, lj a0.asked.N.Beat, vw Thing.cod a0.asked.N.Moved, vw Hand.cod a0.asked.N.Hands, vw Thing.cod a0.asked.N.Given, vw Command.cod a0.asked.N.Watch, lj a0.asked.F.From, lj a0.asked.F.Client, lj a0.asked.F.Session, lj a0.asked.F.Start, lj a0.asked.F.Beat, vw Event.cod a0.asked.F.Events, lj a0.asked.Session, lj a0.asked.Beat]), (12, qp 1000000 4), (11, qp 1000000 0), (10, qp 1000000 0), (9, .one (lnil))] [] (.gu ⟨some 15, .app 100003 73 42 456 9 14, none, []⟩ [(15, .one (.osl 100003 0 0 ([a0.asked]).length))] [(100003, some (.arr 73 Packet.cod.sz 0 ([a0.asked]).length (getOf Packet.cod [a0.asked])))] (fun hc => pe (eff_appN (c := Packet.cod) (a := a0.asked) (by kernel_rfl) (by kernel_rfl) (by kernel_rfl) (by kernel_rfl) (by kernel_rfl) (by kernel_rfl))) (.rd 1 [(3, .one (.osl 100003 0 0 ([a0.asked]).length))] [] (.thenN (.seq (.label (.thenN (.seq (.sr 5 [(20, qj 0), (19, qj a0.n), (18, qp 1000000 1), (17, qp 1000000 0), (16, qp 1000000 0)] [] (.block (.loop (.pr [0, 3, 19, 20] W59 [(false, 3, 0, 100003, 73, 42)] [(0, qp 1000000 0), (3, .one (.osl 100003 0 0 ([a0.asked]).length)), (19, qj a0.n), (20, qj 0)] [(100003, some (.arr 73 Packet.cod.sz 0 ([a0.asked]).length (getOf Packet.cod [a0.asked]))), (1000000, some (.cells (W0 a0))), (1000001, some (.cells (W57 a0))), (1000002, some (.arr 58 Event.cod.sz 1 (a0.v.log_).length (getOf Event.cod a0.v.log_))), (1000003, some (.map (mapOf Key.cells Event.cod a0.v.wait)))] ?_))))))))))))
  exact F30_l31_ok n a0 (n + 8) [a0.asked] 0 a0.v.client a0.v.session a0.v.n a0.v.beat a0.v.start a0.v.things a0.v.log_ a0.v.wait
 ·refine Sim.skip (.thenN (.seq (.label (.thenN (.seq (.sr 5 [(20, qj 0), (19, qj a0.n), (18, qp 1000000 1), (17, qp 1000000 0), (16, qp 1000000 0)] [] (.block (.loop (.pr [0, 3, 19, 20] W59 [(false, 3, 0, 100003, 73, 42)] [(0, qp 1000000 0), (3, .one (.osl 100003 0 0 (([] : List Packet)).length)), (19, qj a0.n), (20, qj 0)] [(100003, some (.arr 73 Packet.cod.sz 0 (([] : List Packet)).length (getOf Packet.cod ([] : List Packet)))), (1000000, some (.cells (W0 a0))), (1000001, some (.cells (W57 a0))), (1000002, some (.arr 58 Event.cod.sz 1 (a0.v.log_).length (getOf Event.cod a0.v.log_))), (1000003, some (.map (mapOf Key.cells Event.cod a0.v.wait)))] ?_)))))))))
  exact F30_l64_ok n a0 (n + 8) ([] : List Packet) 0 a0.v.client a0.v.session a0.v.n a0.v.beat a0.v.start a0.v.things a0.v.log_ a0.v.wait
def F77_e : Bool → PV × List Ob := fun r => (.one (lb r), [])
def F77 (n : Nat) (a0 : Point) : Option Bool :=
 if decide ((0 : Int) ≤ a0.X) then
  if decide (a0.X < 64) then
   if decide ((0 : Int) ≤ a0.Y) then
    some (decide (a0.Y < 64))
   else
    some false
  else
   some false
 else
  some false
theorem F77_ok (n : Nat) (a0 : Point) : ∀ r, F77 n a0 = some r → D 77 [.agg [li .i64 a0.X, li .i64 a0.Y]] [] = some (F77_e r) := by
 refine fn_to (D := D) (n := n + 8) (nt := 21) (rs := pc77_r) (c := p77c5) (L := [(0, .agg [lj a0.X, lj a0.Y])]) (M := []) (k := 0) rfl rfl rfl rfl rfl rfl rfl ?_
 unfold F77
 refine Sim.sr 2 W49 [(1, some (.cells [lj a0.X, lj a0.Y]))] (.st 4 (rp [6, 5] (qb (decide ((0 : Int) ≤ a0.X))) ++ [(4, qj a0.X), (3, qp 1 0)]) [] (.sp 6 _ ?_ ?_))
 ·refine SimI.rn 5 (rp [11, 10, 9] (qb (decide (a0.X < 64))) ++ [(8, qj a0.X), (7, qp 1 0)]) [] (.sp 11 _ ?_ ?_)
  ·refine SimI.rn 5 (rp [16, 15, 14] (qb (decide ((0 : Int) ≤ a0.Y))) ++ [(13, qj a0.Y), (12, qp 1 1)]) [] (.sp 16 _ ?_ ?_)
   ·exact SimI.rd 5 (rp [2, 20, 19] (qb (decide (a0.Y < 64))) ++ [(18, qj a0.Y), (17, qp 1 1)]) [] (.thenN (.ret .fn))
   ·exact SimI.rd 5 [(2, qb false), (20, qb false), (19, tz), (18, tz), (17, tz)] [] (.thenN (.ret .fn))
  ·exact SimI.rd 10 [(2, qb false), (20, qb false), (19, tz), (18, tz), (17, tz), (16, qb false), (15, qb false), (14, tz), (13, tz), (12, tz)] [] (.thenN (.ret .fn))
 ·exact SimI.rd 15 [(2, qb false), (20, qb false), (19, tz), (18, tz), (17, tz), (16, qb false), (15, qb false), (14, tz), (13, tz), (12, tz), (11, qb false), (10, qb false), (9, tz), (8, tz), (7, tz)] [] (.thenN (.ret .fn))
def F79_e : Bool → PV × List Ob := fun r => (.one (lb r), [])
def F79 (n : Nat) (a0 : Field) : Option Bool :=
 (F62 n a0).bind fun (r1 : Bool) =>
 some (!(r1))
theorem F79_ok (n : Nat) (a0 : Field) : ∀ r, F79 n a0 = some r → D 79 [.agg [li .i64 a0.N, ls a0.Text]] [] = some (F79_e r) := by
 refine fn_to (D := D) (n := n + 8) (nt := 6) (rs := pc79_r) (c := p79c5) (L := [(0, .agg [lj a0.N, ls a0.Text])]) (M := []) (k := 0) rfl rfl rfl rfl rfl rfl rfl ?_
 unfold F79
 refine Sim.sr 2 W49 [(1, some (.cells [lj a0.N, ls a0.Text]))] (.st 1 [(3, .agg [lj a0.N, ls a0.Text])] [] (.cl 4 true [[]] 62 [3] none (fun r1 => qb r1) [.agg [lj a0.N, ls a0.Text]] (F62_ok _ _) (fun r1 => ?_)))
 exact SimI.rd 2 [(2, qb (!(r1))), (5, qb (!(r1)))] [] (.thenN (.ret .fn))
def F91s0_e (a0 : (List Field)) : Int → PV × List Ob := fun r => (.one (li .i64 r), [])
def F91s0_l4 (n : Nat) (a0 : (List Field)) : Nat → Int → Option Int
 | 0, _ => none
 | m + 1, i3 =>
  if decide (i3 < ((a0).length : Int)) then
   (ix a0 i3).bind fun (x5 : Field) =>
   (F79 n x5).bind fun (r6 : Bool) =>
   if r6 then
    some i3
   else
    (F91s0_l4 n a0 m) (IntKind.wrap .i64 (i3 + 1))
  else
   some (-1)
theorem F91s0_l4_ok (n : Nat) (a0 : (List Field)) : ∀ (m : Nat) (i3 : Int), SimL Try.prog D (n + 8) m p91c20 [(0, .one (vw Field.cod a0)), (1, .one (.val (.func (.func 79) #[] #[]))), (7, qj ((a0).length : Int)), (8, qj i3)] [] (F91s0_l4 n a0 m i3) (QB 0 (QT Try.prog D (n + 8) p91c26 (QF false pc91_r 0 (F91s0_e a0)))) := by
 intro m_l4
 induction m_l4 with
 | zero => intro i3; exact SimL.zero'  rfl
 | succ m_l4 ih_l4 =>
  intro i3
  refine SimL.succ ?_
  unfold F91s0_l4
  refine Sim.seq (.rg [(0, .one (vw Field.cod a0)), (1, .one (.val (.func (.func 79) #[] #[]))), (7, qj ((a0).length : Int)), (8, qj i3)] [] (.rd 1 [(9, qb (decide (i3 < ((a0).length : Int))))] [] (.thenN (.seq (.cd _ ?_ ?_)))))
  ·refine Sim.skip (.thenN (.seq (.block (.sr 2 [(5, qj i3), (10, qj i3)] [] (.st 3 [(13, qj i3), (12, .one (vw Field.cod a0)), (11, .one (.val (.func (.func 79) #[] #[])))] [] (.bn ⟨some 14, .iaddrS 2 12 13, none, []⟩ (fun x5 => [(14, .one (.eptr (Field.cod.enc x5) 0))]) (fun x5 => []) (fun x5 hr => pe (ei (c := Field.cod) (k := .i64) hr)) (fun x5 => ?_)))))))
   refine SimI.rn 1 [(15, .agg [lj x5.N, ls x5.Text])] [] (.bn ⟨some 16, .callv true [[]] 11 [15], none, []⟩ (fun r6 => [(16, qb r6)]) (fun r6 => []) (fun r6 hr => pe (eff_callvv (by kernel_rfl) (ARGS := [.agg [lj x5.N, ls x5.Text]]) (by kernel_rfl) (args_clean (by kernel_rfl) args_nil) (F79_ok _ _ _ hr) (by kernel_rfl))) (fun r6 => ?_))
   refine SimI.dn (.thenN (.cd _ ?_ ?_))
   ·exact Sim.sr 2 [(4, qj i3), (17, qj i3)] [] (.ret (.blockR (.thenR (.loopR (.blockR (.thenR .fn))))))
   ·refine Sim.skip (.blockN (.thenN (.region0 (.rd 2 (rp [8, 18] (qj (iw .i64 (i3 + 1)))) [] (.loopN (.pr [0, 1, 7, 8] [] [] [(0, .one (vw Field.cod a0)), (1, .one (.val (.func (.func 79) #[] #[]))), (7, qj ((a0).length : Int)), (8, qj (iw .i64 (i3 + 1)))] [] ?_))))))
    exact ih_l4 (iw .i64 (i3 + 1))
  ·exact Sim.exit (.thenX (.loopX (.blockX (.thenN (.sr 1 [(4, qj (-1))] [] (.ret .fn))))))
def F91s0 (n : Nat) (a0 : (List Field)) : Option Int :=
 F91s0_l4 n a0 (n + 8) 0
theorem F91s0_ok (n : Nat) (a0 : (List Field)) : ∀ r, F91s0 n a0 = some r → D 91 [.one (vw Field.cod a0), .one (.val (.func (.func 79) #[] #[]))] [] = some ((F91s0_e a0) r) := by
 refine fn_to (D := D) (n := n + 8) (nt := 19) (rs := pc91_r) (c := p91c28) (L := [(0, .one (vw Field.cod a0)), (1, .one (.val (.func (.func 79) #[] #[])))]) (M := []) (k := 0) rfl rfl rfl rfl rfl rfl rfl ?_
 unfold F91s0
 refine Sim.sr 1 [(4, qj 0)] [] (.seq (.sr 3 [(8, qj 0), (7, qj ((a0).length : Int)), (6, .one (vw Field.cod a0))] [] (.block (.loop (.pr [0, 1, 7, 8] [] [] [(0, .one (vw Field.cod a0)), (1, .one (.val (.func (.func 79) #[] #[]))), (7, qj ((a0).length : Int)), (8, qj 0)] [] ?_)))))
 exact F91s0_l4_ok n a0 (n + 8) 0
def F78s0_e (a0 : (List Field)) : Bool → PV × List Ob := fun r => (.one (lb r), [])
def F78s0 (n : Nat) (a0 : (List Field)) : Option Bool :=
 (F91s0 n a0).bind fun (r1 : Int) =>
 some (decide ((0 : Int) ≤ r1))
theorem F78s0_ok (n : Nat) (a0 : (List Field)) : ∀ r, F78s0 n a0 = some r → D 78 [.one (vw Field.cod a0), .one (.val (.func (.func 79) #[] #[]))] [] = some ((F78s0_e a0) r) := by
 refine fn_to (D := D) (n := n + 8) (nt := 9) (rs := pc78_r) (c := p78c5) (L := [(0, .one (vw Field.cod a0)), (1, .one (.val (.func (.func 79) #[] #[])))]) (M := []) (k := 0) rfl rfl rfl rfl rfl rfl rfl ?_
 unfold F78s0
 refine Sim.sr 1 [(4, qb false)] [] (.st 2 [(6, .one (.val (.func (.func 79) #[] #[]))), (5, .one (vw Field.cod a0))] [] (.bn ⟨some 7, .gcall false false [] [[(0, 2)], []] 91 [5, 6], none, []⟩ (fun r1 => [(7, qj r1)]) (fun r1 => []) (fun r1 hr => pe (gq (ks := []) (ARGS := [.one (vw Field.cod a0), .one (.val (.func (.func 79) #[] #[]))]) (F91s0_ok _ _ _ hr))) (fun r1 => ?_)))
 exact SimI.rd 2 (rp [4, 8] (qb (decide ((0 : Int) ≤ r1)))) [] (.thenN (.ret .fn))
def F72_e : Bool → PV × List Ob := fun r => (.one (lb r), [])
def F72 (n : Nat) (a0 : Thing) : Option Bool :=
 if decide ((0 : Int) ≤ a0.ID) then
  if decide (a0.ID ≤ 1000000) then
   (F77 n a0.At).bind fun (r1 : Bool) =>
   if r1 then
    (F78s0 n [a0.F.a0, a0.F.a1, a0.F.a2, a0.F.a3]).bind fun (r2 : Bool) =>
    some (!(r2))
   else
    some false
  else
   some false
 else
  some false
theorem F72_ok (n : Nat) (a0 : Thing) : ∀ r, F72 n a0 = some r → D 72 [.agg (Thing.cells a0)] [] = some (F72_e r) := by
 refine fn_to (D := D) (n := n + 8) (nt := 22) (rs := pc72_r) (c := p72c5) (L := [(0, .agg (Thing.cells a0))]) (M := []) (k := 0) rfl rfl rfl rfl rfl rfl rfl ?_
 unfold F72
 refine Sim.sr 2 W49 [(1, some (.cells (Thing.cells a0)))] (.st 4 (rp [6, 5] (qb (decide ((0 : Int) ≤ a0.ID))) ++ [(4, qj a0.ID), (3, qp 1 0)]) [] (.sp 6 _ ?_ ?_))
 ·refine SimI.rn 5 (rp [11, 10, 9] (qb (decide (a0.ID ≤ 1000000))) ++ [(8, qj a0.ID), (7, qp 1 0)]) [] (.sp 11 _ ?_ ?_)
  ·refine SimI.rn 2 [(13, .agg [lj a0.At.X, lj a0.At.Y]), (12, qp 1 1)] [] (.cl 14 true [[]] 77 [13] (some (11, true)) (fun r1 => qb r1) [.agg [lj a0.At.X, lj a0.At.Y]] (F77_ok _ _) (fun r1 => ?_))
   refine SimI.rn 2 [(16, qb r1), (15, qb r1)] [] (.sp 16 _ ?_ ?_)
   ·refine SimI.rn 2 [(18, .one (.csl 1 2 3 4)), (17, qp 1 3)] [] (.bn ⟨some 19, .gcall false false [1] [[(0, 2)], []] 78 [18, Operand.func 79], some (16, true), []⟩ (fun r2 => [(19, qb r2)]) (fun r2 => []) (fun r2 hr => pe (eff_gcall (ks := []) (rks := [1]) (new := []) (ARGS := [.one (.csl 1 2 3 4), .one (.val (.func (.func 79) #[] #[]))]) (args1 := (W68 a0)) (args2 := (W68 a0)) (os := []) (os' := []) (os1 := []) (res := qb r2) (res1 := qb r2) (r := qb r2) (N := []) (by kernel_rfl) (readA_ow (readA_csl (c := Field.cod) (k := 1) (off := 3) (cs := (Thing.cells a0)) (l := [a0.F.a0, a0.F.a1, a0.F.a2, a0.F.a3]) (by kernel_rfl) (by kernel_rfl) (by kernel_rfl) (by kernel_rfl) (readA_keep (by kernel_rfl) (readA_nil)))) (by kernel_rfl) (by kernel_rfl) (by kernel_rfl) (by kernel_rfl) (F78s0_ok _ _ _ hr) (by kernel_rfl) (by kernel_rfl) (by kernel_rfl) rfl (by kernel_rfl) (by kernel_rfl) (by kernel_rfl))) (fun r2 => ?_))
    exact SimI.rd 3 (rp [2, 21, 20] (qb (!(r2)))) [] (.thenN (.ret .fn))
   ·exact SimI.rd 6 [(2, qb false), (21, qb false), (20, tz), (19, tz), (18, tz), (17, tz)] [] (.thenN (.ret .fn))
  ·exact SimI.rd 11 [(2, qb false), (21, qb false), (20, tz), (19, tz), (18, tz), (17, tz), (16, qb false), (15, qb false), (14, tz), (13, tz), (12, tz)] [] (.thenN (.ret .fn))
 ·exact SimI.rd 16 [(2, qb false), (21, qb false), (20, tz), (19, tz), (18, tz), (17, tz), (16, qb false), (15, qb false), (14, tz), (13, tz), (12, tz), (11, qb false), (10, qb false), (9, tz), (8, tz), (7, tz)] [] (.thenN (.ret .fn))
def F80_e : Bool → PV × List Ob := fun r => (.one (lb r), [])
def F80 (n : Nat) (a0 a1 : Int) : Option Bool :=
 if ¬ (IntKind.wrap .i64 (a1 + 1) < 0) then
  some ((bitsI .and .u8 (shrI .u8 a0 (IntKind.wrap .i64 (a1 + 1))) 1) == 1)
 else none
theorem F80_ok (n : Nat) (a0 a1 : Int) : ∀ r, F80 n a0 a1 = some r → D 80 [.one (li .u8 a0), .one (li .i64 a1)] [] = some (F80_e r) := by
 refine fn_to (D := D) (n := n + 8) (nt := 11) (rs := pc80_r) (c := p80c5) (L := [(0, .one (li .u8 a0)), (1, qj a1)]) (M := []) (k := 0) rfl rfl rfl rfl rfl rfl rfl ?_
 unfold F80
 exact Sim.sr 1 [(4, qb false)] [] (.st 3 [(7, qj (iw .i64 (a1 + 1))), (6, qj a1), (5, .one (li .u8 a0))] [] (.gp 8 (.bin .shr 5 false false) [5, 7] none [] (fun hc => pr_shr _ _ _ .u8 .i64 a0 (iw .i64 (a1 + 1)) hc) (.rd 3 (rp [4, 10] (qb ((bitsI .and .u8 (shrI .u8 a0 (iw .i64 (a1 + 1))) 1) == 1)) ++ [(9, .one (li .u8 (bitsI .and .u8 (shrI .u8 a0 (iw .i64 (a1 + 1))) 1)))]) [] (.thenN (.ret .fn)))))
def F73_e : Bool → PV × List Ob := fun r => (.one (lb r), [])
def F73_u15 (n : Nat) : Option Bool :=
  some true
theorem F73_u15_ok (n : Nat) (a0 : Delta) : SimL Try.prog D (n + 8) (n + 4) p73c34 [(1, qp 1 0), (40, .agg (A4_Field.cells a0.F)), (41, qj 4)] (W24 a0) (F73_u15 n) (QB 0 (QT Try.prog D (n + 8) p73c40 (QF false pc73_r 0 F73_e))) := by
  unfold F73_u15
  exact SimL.succ (.seq (.rg (w8 a0) (W24 a0) (.rd 1 [(42, qb false)] [] (.thenN (.seq (.cf (.exit (.thenX (.loopX (.blockX (.thenN (.sr 1 [(2, qb true)] [] (.ret .fn)))))))))))))
def F73_u12 (n : Nat) (a0 : Delta) : Option Bool :=
  (F62 n a0.F.a3).bind fun (r13 : Bool) =>
  if !(r13) then
   some false
  else
   (F80 n a0.Mask 3).bind fun (r14 : Bool) =>
   if !(r14) then
    if !(Field.eqb a0.F.a3 (Field.mk 0 ByteArray.empty)) then
     some false
    else
     F73_u15 n
   else
    F73_u15 n
theorem F73_u12_ok (n : Nat) (a0 : Delta) : SimL Try.prog D (n + 8) (n + 5) p73c34 [(1, qp 1 0), (40, .agg (A4_Field.cells a0.F)), (41, qj 3)] (W24 a0) (F73_u12 n a0) (QB 0 (QT Try.prog D (n + 8) p73c40 (QF false pc73_r 0 F73_e))) := by
  unfold F73_u12
  refine SimL.succ (.seq (.rg (w9 a0) (W24 a0) (.rd 1 [(42, qb true)] [] (.thenN (.seq (.ct (.skip (.thenN (.seq (.block (.sr 5 [(3, qj 3), (4, qp 4 0), (44, .agg (W53 a0)), (43, qj 3)] [(4, some (.cells (W53 a0))), (4, some (.cells [lj 0, ls be]))] (.st 1 [(45, .agg (W53 a0))] [] (.cl 46 true [[]] 62 [45] none (fun r13 => qb r13) [.agg (W53 a0)] (F62_ok _ _) (fun r13 => ?_))))))))))))))
  refine SimI.rn 2 [(48, qb (!(r13))), (47, qb (!(r13)))] [] (.sp 48 _ ?_ ?_)
  ·exact SimI.rd 11 ([(59, qb true)] ++ rp W66 tz) [] (.thenN (.ct (.sr 1 [(2, qb false)] [] (.ret (.blockR (.thenR (.loopR (.blockR (.thenR .fn)))))))))
  ·refine SimI.rn 3 [(51, qj 3), (50, .one (li .u8 a0.Mask)), (49, qp 1 1)] [] (.cl 52 true [[], []] 80 [50, 51] (some (48, false)) (fun r14 => qb r14) [.one (li .u8 a0.Mask), qj 3] (F80_ok _ _ _) (fun r14 => ?_))
   refine SimI.rn 2 [(54, qb (!(r14))), (53, qb (!(r14)))] [] (.sp 54 _ ?_ ?_)
   ·refine SimI.rn 2 [(56, .agg [lj 0, ls be]), (55, .agg (W53 a0))] [] (.se ⟨some 57, .prim (.bin .neq 51 false false) [55, 56], some (54, true), []⟩ [(57, qb (!(Field.eqb a0.F.a3 (Field.mk 0 be))))] [] (pe (ep (Field_eqn a0.F.a3 (Field.mk 0 be) _ _))) (.rd 2 (rp [59, 58] (qb (!(Field.eqb a0.F.a3 (Field.mk 0 be))))) [] (.thenN (.cd _ ?_ ?_))))
    ·exact Sim.sr 1 [(2, qb false)] [] (.ret (.blockR (.thenR (.loopR (.blockR (.thenR .fn))))))
    ·refine Sim.skip (.blockN (.thenN (.region0 (.rd 2 [(41, qj 4), (60, qj 4)] [] (.loopN (.pr [1, 40, 41] [1, 4] [] (w8 a0) (W24 a0) ?_))))))
     exact F73_u15_ok n a0
   ·refine SimI.rd 5 W46 [] (.thenN (.cf (.skip (.blockN (.thenN (.region0 (.rd 2 [(41, qj 4), (60, qj 4)] [] (.loopN (.pr [1, 40, 41] [1, 4] [] (w8 a0) (W24 a0) ?_)))))))))
    exact F73_u15_ok n a0
def F73_u9 (n : Nat) (a0 : Delta) : Option Bool :=
  (F62 n a0.F.a2).bind fun (r10 : Bool) =>
  if !(r10) then
   some false
  else
   (F80 n a0.Mask 2).bind fun (r11 : Bool) =>
   if !(r11) then
    if !(Field.eqb a0.F.a2 (Field.mk 0 ByteArray.empty)) then
     some false
    else
     F73_u12 n a0
   else
    F73_u12 n a0
theorem F73_u9_ok (n : Nat) (a0 : Delta) : SimL Try.prog D (n + 8) (n + 6) p73c34 [(1, qp 1 0), (40, .agg (A4_Field.cells a0.F)), (41, qj 2)] (W24 a0) (F73_u9 n a0) (QB 0 (QT Try.prog D (n + 8) p73c40 (QF false pc73_r 0 F73_e))) := by
  unfold F73_u9
  refine SimL.succ (.seq (.rg (w10 a0) (W24 a0) (.rd 1 [(42, qb true)] [] (.thenN (.seq (.ct (.skip (.thenN (.seq (.block (.sr 5 [(3, qj 2), (4, qp 4 0), (44, .agg (W54 a0)), (43, qj 2)] [(4, some (.cells (W54 a0))), (4, some (.cells [lj 0, ls be]))] (.st 1 [(45, .agg (W54 a0))] [] (.cl 46 true [[]] 62 [45] none (fun r10 => qb r10) [.agg (W54 a0)] (F62_ok _ _) (fun r10 => ?_))))))))))))))
  refine SimI.rn 2 [(48, qb (!(r10))), (47, qb (!(r10)))] [] (.sp 48 _ ?_ ?_)
  ·exact SimI.rd 11 ([(59, qb true)] ++ rp W66 tz) [] (.thenN (.ct (.sr 1 [(2, qb false)] [] (.ret (.blockR (.thenR (.loopR (.blockR (.thenR .fn)))))))))
  ·refine SimI.rn 3 [(51, qj 2), (50, .one (li .u8 a0.Mask)), (49, qp 1 1)] [] (.cl 52 true [[], []] 80 [50, 51] (some (48, false)) (fun r11 => qb r11) [.one (li .u8 a0.Mask), qj 2] (F80_ok _ _ _) (fun r11 => ?_))
   refine SimI.rn 2 [(54, qb (!(r11))), (53, qb (!(r11)))] [] (.sp 54 _ ?_ ?_)
   ·refine SimI.rn 2 [(56, .agg [lj 0, ls be]), (55, .agg (W54 a0))] [] (.se ⟨some 57, .prim (.bin .neq 51 false false) [55, 56], some (54, true), []⟩ [(57, qb (!(Field.eqb a0.F.a2 (Field.mk 0 be))))] [] (pe (ep (Field_eqn a0.F.a2 (Field.mk 0 be) _ _))) (.rd 2 (rp [59, 58] (qb (!(Field.eqb a0.F.a2 (Field.mk 0 be))))) [] (.thenN (.cd _ ?_ ?_))))
    ·exact Sim.sr 1 [(2, qb false)] [] (.ret (.blockR (.thenR (.loopR (.blockR (.thenR .fn))))))
    ·refine Sim.skip (.blockN (.thenN (.region0 (.rd 2 [(41, qj 3), (60, qj 3)] [] (.loopN (.pr [1, 40, 41] [1, 4] [] (w9 a0) (W24 a0) ?_))))))
     exact F73_u12_ok n a0
   ·refine SimI.rd 5 W46 [] (.thenN (.cf (.skip (.blockN (.thenN (.region0 (.rd 2 [(41, qj 3), (60, qj 3)] [] (.loopN (.pr [1, 40, 41] [1, 4] [] (w9 a0) (W24 a0) ?_)))))))))
    exact F73_u12_ok n a0
def F73_u6 (n : Nat) (a0 : Delta) : Option Bool :=
  (F62 n a0.F.a1).bind fun (r7 : Bool) =>
  if !(r7) then
   some false
  else
   (F80 n a0.Mask 1).bind fun (r8 : Bool) =>
   if !(r8) then
    if !(Field.eqb a0.F.a1 (Field.mk 0 ByteArray.empty)) then
     some false
    else
     F73_u9 n a0
   else
    F73_u9 n a0
theorem F73_u6_ok (n : Nat) (a0 : Delta) : SimL Try.prog D (n + 8) (n + 7) p73c34 [(1, qp 1 0), (40, .agg (A4_Field.cells a0.F)), (41, qj 1)] (W24 a0) (F73_u6 n a0) (QB 0 (QT Try.prog D (n + 8) p73c40 (QF false pc73_r 0 F73_e))) := by
  unfold F73_u6
  refine SimL.succ (.seq (.rg (w11 a0) (W24 a0) (.rd 1 [(42, qb true)] [] (.thenN (.seq (.ct (.skip (.thenN (.seq (.block (.sr 5 [(3, qj 1), (4, qp 4 0), (44, .agg (W55 a0)), (43, qj 1)] [(4, some (.cells (W55 a0))), (4, some (.cells [lj 0, ls be]))] (.st 1 [(45, .agg (W55 a0))] [] (.cl 46 true [[]] 62 [45] none (fun r7 => qb r7) [.agg (W55 a0)] (F62_ok _ _) (fun r7 => ?_))))))))))))))
  refine SimI.rn 2 [(48, qb (!(r7))), (47, qb (!(r7)))] [] (.sp 48 _ ?_ ?_)
  ·exact SimI.rd 11 ([(59, qb true)] ++ rp W66 tz) [] (.thenN (.ct (.sr 1 [(2, qb false)] [] (.ret (.blockR (.thenR (.loopR (.blockR (.thenR .fn)))))))))
  ·refine SimI.rn 3 [(51, qj 1), (50, .one (li .u8 a0.Mask)), (49, qp 1 1)] [] (.cl 52 true [[], []] 80 [50, 51] (some (48, false)) (fun r8 => qb r8) [.one (li .u8 a0.Mask), qj 1] (F80_ok _ _ _) (fun r8 => ?_))
   refine SimI.rn 2 [(54, qb (!(r8))), (53, qb (!(r8)))] [] (.sp 54 _ ?_ ?_)
   ·refine SimI.rn 2 [(56, .agg [lj 0, ls be]), (55, .agg (W55 a0))] [] (.se ⟨some 57, .prim (.bin .neq 51 false false) [55, 56], some (54, true), []⟩ [(57, qb (!(Field.eqb a0.F.a1 (Field.mk 0 be))))] [] (pe (ep (Field_eqn a0.F.a1 (Field.mk 0 be) _ _))) (.rd 2 (rp [59, 58] (qb (!(Field.eqb a0.F.a1 (Field.mk 0 be))))) [] (.thenN (.cd _ ?_ ?_))))
    ·exact Sim.sr 1 [(2, qb false)] [] (.ret (.blockR (.thenR (.loopR (.blockR (.thenR .fn))))))
    ·refine Sim.skip (.blockN (.thenN (.region0 (.rd 2 [(41, qj 2), (60, qj 2)] [] (.loopN (.pr [1, 40, 41] [1, 4] [] (w10 a0) (W24 a0) ?_))))))
     exact F73_u9_ok n a0
   ·refine SimI.rd 5 W46 [] (.thenN (.cf (.skip (.blockN (.thenN (.region0 (.rd 2 [(41, qj 2), (60, qj 2)] [] (.loopN (.pr [1, 40, 41] [1, 4] [] (w10 a0) (W24 a0) ?_)))))))))
    exact F73_u9_ok n a0
def F73_j3 (n : Nat) (a0 : Delta) : Option Bool :=
  (F62 n a0.F.a0).bind fun (r4 : Bool) =>
  if !(r4) then
   some false
  else
   (F80 n a0.Mask 0).bind fun (r5 : Bool) =>
   if !(r5) then
    if !(Field.eqb a0.F.a0 (Field.mk 0 ByteArray.empty)) then
     some false
    else
     F73_u6 n a0
   else
    F73_u6 n a0
theorem F73_j3_ok (n : Nat) (a0 : Delta) : Sim Try.prog D (n + 8) p73c41 [(1, qp 1 0)] (W24 a0) (F73_j3 n a0) (QF false pc73_r 0 F73_e) := by
  unfold F73_j3
  refine Sim.seq (.seq (.rs (.rd 3 [(41, qj 0), (40, .agg (A4_Field.cells a0.F)), (39, qp 1 4)] [] (.thenN (.block (.loop (.succ (.seq (.rg [(1, qp 1 0), (40, .agg (A4_Field.cells a0.F)), (41, qj 0)] (W24 a0) (.rd 1 [(42, qb true)] [] (.thenN (.seq (.ct (.skip (.thenN (.seq (.block (.sr 5 [(3, qj 0), (4, qp 4 0), (44, .agg (W56 a0)), (43, qj 0)] [(4, some (.cells (W56 a0))), (4, some (.cells [lj 0, ls be]))] (.st 1 [(45, .agg (W56 a0))] [] (.cl 46 true [[]] 62 [45] none (fun r4 => qb r4) [.agg (W56 a0)] (F62_ok _ _) (fun r4 => ?_)))))))))))))))))))))
  refine SimI.rn 2 [(48, qb (!(r4))), (47, qb (!(r4)))] [] (.sp 48 _ ?_ ?_)
  ·exact SimI.rd 11 ([(59, qb true)] ++ rp W66 tz) [] (.thenN (.ct (.sr 1 [(2, qb false)] [] (.ret (.blockR (.thenR (.loopR (.blockR (.thenR .fn)))))))))
  ·refine SimI.rn 3 [(51, qj 0), (50, .one (li .u8 a0.Mask)), (49, qp 1 1)] [] (.cl 52 true [[], []] 80 [50, 51] (some (48, false)) (fun r5 => qb r5) [.one (li .u8 a0.Mask), qj 0] (F80_ok _ _ _) (fun r5 => ?_))
   refine SimI.rn 2 [(54, qb (!(r5))), (53, qb (!(r5)))] [] (.sp 54 _ ?_ ?_)
   ·refine SimI.rn 2 [(56, .agg [lj 0, ls be]), (55, .agg (W56 a0))] [] (.se ⟨some 57, .prim (.bin .neq 51 false false) [55, 56], some (54, true), []⟩ [(57, qb (!(Field.eqb a0.F.a0 (Field.mk 0 be))))] [] (pe (ep (Field_eqn a0.F.a0 (Field.mk 0 be) _ _))) (.rd 2 (rp [59, 58] (qb (!(Field.eqb a0.F.a0 (Field.mk 0 be))))) [] (.thenN (.cd _ ?_ ?_))))
    ·exact Sim.sr 1 [(2, qb false)] [] (.ret (.blockR (.thenR (.loopR (.blockR (.thenR .fn))))))
    ·refine Sim.skip (.blockN (.thenN (.region0 (.rd 2 [(41, qj 1), (60, qj 1)] [] (.loopN (.pr [1, 40, 41] [1, 4] [] (w11 a0) (W24 a0) ?_))))))
     exact F73_u6_ok n a0
   ·refine SimI.rd 5 W46 [] (.thenN (.cf (.skip (.blockN (.thenN (.region0 (.rd 2 [(41, qj 1), (60, qj 1)] [] (.loopN (.pr [1, 40, 41] [1, 4] [] (w11 a0) (W24 a0) ?_)))))))))
    exact F73_u6_ok n a0
def F73 (n : Nat) (a0 : Delta) : Option Bool :=
 if decide (a0.ID < 0) then
  some false
 else
  if decide ((1000000 : Int) < a0.ID) then
   some false
  else
   if a0.Mask == 0 then
    some false
   else
    if decide ((31 : Int) < a0.Mask) then
     some false
    else
     if (bitsI .and .u8 a0.Mask 1) == 0 then
      if !(Point.eqb a0.At (Point.mk 0 0)) then
       some false
      else
       (F77 n a0.At).bind fun (r1 : Bool) =>
       if !(r1) then
        some false
       else
        F73_j3 n a0
     else
      (F77 n a0.At).bind fun (r2 : Bool) =>
      if !(r2) then
       some false
      else
       F73_j3 n a0
theorem F73_ok (n : Nat) (a0 : Delta) : ∀ r, F73 n a0 = some r → D 73 [.agg (Delta.cells a0)] [] = some (F73_e r) := by
 refine fn_to (D := D) (n := n + 8) (nt := 61) (rs := pc73_r) (c := p73c44) (L := [(0, .agg (Delta.cells a0))]) (M := []) (k := 0) rfl rfl rfl rfl rfl rfl rfl ?_
 unfold F73
 refine Sim.sr 2 W49 (W24 a0) (.seq (.st 4 (rp [8, 7] (qb (decide (a0.ID < 0))) ++ [(6, qj a0.ID), (5, qp 1 0)]) [] (.sp 8 _ ?_ ?_)))
 ·exact SimI.rd 14 [(22, qb true), (21, tz), (20, tz), (19, tz), (18, qb true), (17, qb true), (16, tz), (15, tz), (14, tz), (13, qb true), (12, qb true), (11, tz), (10, tz), (9, tz)] [] (.thenN (.ct (.sr 1 [(2, qb false)] [] (.ret (.thenR .fn)))))
 ·refine SimI.rn 5 (rp [13, 12, 11] (qb (decide ((1000000 : Int) < a0.ID))) ++ [(10, qj a0.ID), (9, qp 1 0)]) [] (.sp 13 _ ?_ ?_)
  ·exact SimI.rd 9 [(22, qb true), (21, tz), (20, tz), (19, tz), (18, qb true), (17, qb true), (16, tz), (15, tz), (14, tz)] [] (.thenN (.ct (.sr 1 [(2, qb false)] [] (.ret (.thenR .fn)))))
  ·refine SimI.rn 5 (rp [18, 17, 16] (qb (a0.Mask == 0)) ++ [(15, .one (li .u8 a0.Mask)), (14, qp 1 1)]) [] (.sp 18 _ ?_ ?_)
   ·exact SimI.rd 4 [(22, qb true), (21, tz), (20, tz), (19, tz)] [] (.thenN (.ct (.sr 1 [(2, qb false)] [] (.ret (.thenR .fn)))))
   ·refine SimI.rd 4 (rp [22, 21] (qb (decide ((31 : Int) < a0.Mask))) ++ [(20, .one (li .u8 a0.Mask)), (19, qp 1 1)]) [] (.thenN (.cd _ ?_ ?_))
    ·exact Sim.sr 1 [(2, qb false)] [] (.ret (.thenR .fn))
    ·refine Sim.skip (.thenN (.seq (.st 5 (rp [27, 26] (qb ((bitsI .and .u8 a0.Mask 1) == 0)) ++ [(25, .one (li .u8 (bitsI .and .u8 a0.Mask 1))), (24, .one (li .u8 a0.Mask)), (23, qp 1 1)]) [] (.sp 27 _ ?_ ?_))))
     ·refine SimI.rn 3 [(30, .agg [lj 0, lj 0]), (29, .agg [lj a0.At.X, lj a0.At.Y]), (28, qp 1 2)] [] (.se ⟨some 31, .prim (.bin .neq 49 false false) [29, 30], some (27, true), []⟩ [(31, qb (!(Point.eqb a0.At (Point.mk 0 0))))] [] (pe (ep (Point_eqn a0.At (Point.mk 0 0) _ _))) (.rn 2 (rp [33, 32] (qb (!(Point.eqb a0.At (Point.mk 0 0))))) [] (.sp 33 _ ?_ ?_)))
      ·exact SimI.rd 5 [(38, qb true), (37, tz), (36, tz), (35, tz), (34, tz)] [] (.thenN (.ct (.sr 1 [(2, qb false)] [] (.ret (.thenR .fn)))))
      ·refine SimI.rn 2 [(35, .agg [lj a0.At.X, lj a0.At.Y]), (34, qp 1 2)] [] (.cl 36 true [[]] 77 [35] (some (33, false)) (fun r1 => qb r1) [.agg [lj a0.At.X, lj a0.At.Y]] (F77_ok _ _) (fun r1 => ?_))
       refine SimI.rd 2 [(38, qb (!(r1))), (37, qb (!(r1)))] [] (.thenN (.cd _ ?_ ?_))
       ·exact Sim.sr 1 [(2, qb false)] [] (.ret (.thenR .fn))
       ·refine Sim.skip (.thenN (.pr [1] [1] [] [(1, qp 1 0)] (W24 a0) ?_))
        exact F73_j3_ok n a0
     ·refine SimI.rn 8 [(35, .agg [lj a0.At.X, lj a0.At.Y]), (34, qp 1 2), (33, qb false), (32, qb false), (31, tz), (30, tz), (29, tz), (28, tz)] [] (.cl 36 true [[]] 77 [35] (some (33, false)) (fun r2 => qb r2) [.agg [lj a0.At.X, lj a0.At.Y]] (F77_ok _ _) (fun r2 => ?_))
      refine SimI.rd 2 [(38, qb (!(r2))), (37, qb (!(r2)))] [] (.thenN (.cd _ ?_ ?_))
      ·exact Sim.sr 1 [(2, qb false)] [] (.ret (.thenR .fn))
      ·refine Sim.skip (.thenN (.pr [1] [1] [] [(1, qp 1 0)] (W24 a0) ?_))
       exact F73_j3_ok n a0
def F57_e : Bool → PV × List Ob := fun r => (.one (lb r), [])
def F57 (n : Nat) (a0 : Event) : Option Bool :=
 if a0.Kind == 1 then
  (F72 n a0.Thing).bind fun (r1 : Bool) =>
  if r1 then
   if a0.ID == a0.Thing.ID then
    some (Delta.eqb a0.Delta (Delta.mk 0 0 (Point.mk 0 0) (A4.mk (Field.mk 0 ByteArray.empty) (Field.mk 0 ByteArray.empty) (Field.mk 0 ByteArray.empty) (Field.mk 0 ByteArray.empty))))
   else
    some false
  else
   some false
 else
  if a0.Kind == 2 then
   (F73 n a0.Delta).bind fun (r2 : Bool) =>
   if r2 then
    if a0.ID == a0.Delta.ID then
     some (Thing.eqb a0.Thing (Thing.mk 0 (Point.mk 0 0) (A4.mk (Field.mk 0 ByteArray.empty) (Field.mk 0 ByteArray.empty) (Field.mk 0 ByteArray.empty) (Field.mk 0 ByteArray.empty))))
    else
     some false
   else
    some false
  else
   if a0.Kind == 3 then
    if decide ((0 : Int) ≤ a0.ID) then
     if decide (a0.ID ≤ 1000000) then
      if Thing.eqb a0.Thing (Thing.mk 0 (Point.mk 0 0) (A4.mk (Field.mk 0 ByteArray.empty) (Field.mk 0 ByteArray.empty) (Field.mk 0 ByteArray.empty) (Field.mk 0 ByteArray.empty))) then
       some (Delta.eqb a0.Delta (Delta.mk 0 0 (Point.mk 0 0) (A4.mk (Field.mk 0 ByteArray.empty) (Field.mk 0 ByteArray.empty) (Field.mk 0 ByteArray.empty) (Field.mk 0 ByteArray.empty))))
      else
       some false
     else
      some false
    else
     some false
   else
    some false
theorem F57_ok (n : Nat) (a0 : Event) : ∀ r, F57 n a0 = some r → D 57 [.agg (Event.cells a0)] [] = some (F57_e r) := by
 refine fn_to (D := D) (n := n + 8) (nt := 63) (rs := pc57_r) (c := p57c30) (L := [(0, .agg (Event.cells a0))]) (M := []) (k := 0) rfl rfl rfl rfl rfl rfl rfl ?_
 unfold F57
 refine Sim.sr 2 W49 [(1, some (.cells (Event.cells a0)))] (.st 3 [(7, .agg W31), (6, .agg (Thing.cells a0.Thing)), (5, qp 1 2)] [] (.se ⟨some 8, .prim (.bin .eql 54 false false) [6, 7], none, [(6, .imm), (7, .imm)]⟩ [(8, qb (Thing.eqb a0.Thing (Thing.mk 0 (Point.mk 0 0) (A4.mk (Field.mk 0 be) (Field.mk 0 be) (Field.mk 0 be) (Field.mk 0 be)))))] [] (pe (ep (Thing_eql a0.Thing (Thing.mk 0 (Point.mk 0 0) (A4.mk (Field.mk 0 be) (Field.mk 0 be) (Field.mk 0 be) (Field.mk 0 be))) _ _))) (.rn 3 [(11, .agg [lj 0, li .u8 0, lj 0, lj 0, lj 0, ls be, lj 0, ls be, lj 0, ls be, lj 0, ls be]), (10, .agg (Delta.cells a0.Delta)), (9, qp 1 13)] [] (.se ⟨some 12, .prim (.bin .eql 56 false false) [10, 11], none, [(10, .imm), (11, .imm)]⟩ [(12, qb (Delta.eqb a0.Delta (Delta.mk 0 0 (Point.mk 0 0) (A4.mk (Field.mk 0 be) (Field.mk 0 be) (Field.mk 0 be) (Field.mk 0 be)))))] [] (pe (ep (Delta_eql a0.Delta (Delta.mk 0 0 (Point.mk 0 0) (A4.mk (Field.mk 0 be) (Field.mk 0 be) (Field.mk 0 be) (Field.mk 0 be))) _ _))) (.rd 2 [(4, qb (Delta.eqb a0.Delta (Delta.mk 0 0 (Point.mk 0 0) (A4.mk (Field.mk 0 be) (Field.mk 0 be) (Field.mk 0 be) (Field.mk 0 be))))), (3, qb (Thing.eqb a0.Thing (Thing.mk 0 (Point.mk 0 0) (A4.mk (Field.mk 0 be) (Field.mk 0 be) (Field.mk 0 be) (Field.mk 0 be)))))] [] (.thenN (.seq (.sr 2 [(14, qj a0.Kind), (13, qp 1 0)] [] (.block (.sr 2 (rp [15, 16] (qb (a0.Kind == 1))) [] (.cd _ ?_ ?_)))))))))))
 ·refine Sim.st 2 [(18, .agg (Thing.cells a0.Thing)), (17, qp 1 2)] [] (.cl 19 true [[]] 72 [18] none (fun r1 => qb r1) [.agg (Thing.cells a0.Thing)] (F72_ok _ _) (fun r1 => ?_))
  refine SimI.rn 1 [(20, qb r1)] [] (.sp 20 _ ?_ ?_)
  ·refine SimI.rn 8 (rp [28, 27, 26] (qb (a0.ID == a0.Thing.ID)) ++ [(25, qj a0.Thing.ID), (24, qp 1 2), (23, qp 1 2), (22, qj a0.ID), (21, qp 1 1)]) [] (.sp 28 _ ?_ ?_)
   ·exact SimI.rd 3 (rp [2, 30, 29] (qb (Delta.eqb a0.Delta (Delta.mk 0 0 (Point.mk 0 0) (A4.mk (Field.mk 0 be) (Field.mk 0 be) (Field.mk 0 be) (Field.mk 0 be)))))) [] (.thenN (.ret (.blockR (.thenR .fn))))
   ·exact SimI.rd 3 [(2, qb false), (30, qb false), (29, tz)] [] (.thenN (.ret (.blockR (.thenR .fn))))
  ·exact SimI.rd 11 ([(2, qb false), (30, qb false), (29, tz), (28, qb false), (27, qb false)] ++ rp [26, 25, 24, 23, 22, 21] tz) [] (.thenN (.ret (.blockR (.thenR .fn))))
 ·refine Sim.sr 2 (rp [31, 32] (qb (a0.Kind == 2))) [] (.cd _ ?_ ?_)
  ·refine Sim.st 2 [(34, .agg (Delta.cells a0.Delta)), (33, qp 1 13)] [] (.cl 35 true [[]] 73 [34] none (fun r2 => qb r2) [.agg (Delta.cells a0.Delta)] (F73_ok _ _) (fun r2 => ?_))
   refine SimI.rn 1 [(36, qb r2)] [] (.sp 36 _ ?_ ?_)
   ·refine SimI.rn 8 (rp [44, 43, 42] (qb (a0.ID == a0.Delta.ID)) ++ [(41, qj a0.Delta.ID), (40, qp 1 13), (39, qp 1 13), (38, qj a0.ID), (37, qp 1 1)]) [] (.sp 44 _ ?_ ?_)
    ·exact SimI.rd 3 (rp [2, 46, 45] (qb (Thing.eqb a0.Thing (Thing.mk 0 (Point.mk 0 0) (A4.mk (Field.mk 0 be) (Field.mk 0 be) (Field.mk 0 be) (Field.mk 0 be)))))) [] (.thenN (.ret (.blockR (.thenR .fn))))
    ·exact SimI.rd 3 [(2, qb false), (46, qb false), (45, tz)] [] (.thenN (.ret (.blockR (.thenR .fn))))
   ·exact SimI.rd 11 ([(2, qb false), (46, qb false), (45, tz), (44, qb false), (43, qb false)] ++ rp [42, 41, 40, 39, 38, 37] tz) [] (.thenN (.ret (.blockR (.thenR .fn))))
  ·refine Sim.sr 2 (rp [47, 48] (qb (a0.Kind == 3))) [] (.cd _ ?_ ?_)
   ·refine Sim.st 4 (rp [52, 51] (qb (decide ((0 : Int) ≤ a0.ID))) ++ [(50, qj a0.ID), (49, qp 1 1)]) [] (.sp 52 _ ?_ ?_)
    ·refine SimI.rn 5 (rp [57, 56, 55] (qb (decide (a0.ID ≤ 1000000))) ++ [(54, qj a0.ID), (53, qp 1 1)]) [] (.sp 57 _ ?_ ?_)
     ·refine SimI.rn 3 (rp [60, 59, 58] (qb (Thing.eqb a0.Thing (Thing.mk 0 (Point.mk 0 0) (A4.mk (Field.mk 0 be) (Field.mk 0 be) (Field.mk 0 be) (Field.mk 0 be)))))) [] (.sp 60 _ ?_ ?_)
      ·exact SimI.rd 3 (rp [2, 62, 61] (qb (Delta.eqb a0.Delta (Delta.mk 0 0 (Point.mk 0 0) (A4.mk (Field.mk 0 be) (Field.mk 0 be) (Field.mk 0 be) (Field.mk 0 be)))))) [] (.thenN (.ret (.blockR (.thenR .fn))))
      ·exact SimI.rd 3 [(2, qb false), (62, qb false), (61, tz)] [] (.thenN (.ret (.blockR (.thenR .fn))))
     ·exact SimI.rd 6 [(2, qb false), (62, qb false), (61, tz), (60, qb false), (59, qb false), (58, tz)] [] (.thenN (.ret (.blockR (.thenR .fn))))
    ·exact SimI.rd 11 [(2, qb false), (62, qb false), (61, tz), (60, qb false), (59, qb false), (58, tz), (57, qb false), (56, qb false), (55, tz), (54, tz), (53, tz)] [] (.thenN (.ret (.blockR (.thenR .fn))))
   ·exact Sim.skip (.blockN (.thenN (.sr 1 [(2, qb false)] [] (.ret .fn))))
def F56_e : Bool → PV × List Ob := fun r => (.one (lb r), [])
def F56 (n : Nat) (a0 : Event) : Option Bool :=
 (F57 n a0).bind fun (r1 : Bool) =>
 some (!(r1))
theorem F56_ok (n : Nat) (a0 : Event) : ∀ r, F56 n a0 = some r → D 56 [.agg (Event.cells a0)] [] = some (F56_e r) := by
 refine fn_to (D := D) (n := n + 8) (nt := 6) (rs := pc56_r) (c := p56c5) (L := [(0, .agg (Event.cells a0))]) (M := []) (k := 0) rfl rfl rfl rfl rfl rfl rfl ?_
 unfold F56
 refine Sim.sr 2 W49 [(1, some (.cells (Event.cells a0)))] (.st 1 [(3, .agg (Event.cells a0))] [] (.cl 4 true [[]] 57 [3] none (fun r1 => qb r1) [.agg (Event.cells a0)] (F57_ok _ _) (fun r1 => ?_)))
 exact SimI.rd 2 [(2, qb (!(r1))), (5, qb (!(r1)))] [] (.thenN (.ret .fn))
def F71s0_e (a0 : (List Event)) : Int → PV × List Ob := fun r => (.one (li .i64 r), [])
def F71s0_l4 (n : Nat) (a0 : (List Event)) : Nat → Int → Option Int
 | 0, _ => none
 | m + 1, i3 =>
  if decide (i3 < ((a0).length : Int)) then
   (ix a0 i3).bind fun (x5 : Event) =>
   (F56 n x5).bind fun (r6 : Bool) =>
   if r6 then
    some i3
   else
    (F71s0_l4 n a0 m) (IntKind.wrap .i64 (i3 + 1))
  else
   some (-1)
theorem F71s0_l4_ok (n : Nat) (a0 : (List Event)) : ∀ (m : Nat) (i3 : Int), SimL Try.prog D (n + 8) m p71c20 [(0, .one (vw Event.cod a0)), (1, .one (.val (.func (.func 56) #[] #[]))), (7, qj ((a0).length : Int)), (8, qj i3)] [] (F71s0_l4 n a0 m i3) (QB 0 (QT Try.prog D (n + 8) p71c26 (QF false pc71_r 0 (F71s0_e a0)))) := by
 intro m_l4
 induction m_l4 with
 | zero => intro i3; exact SimL.zero'  rfl
 | succ m_l4 ih_l4 =>
  intro i3
  refine SimL.succ ?_
  unfold F71s0_l4
  refine Sim.seq (.rg [(0, .one (vw Event.cod a0)), (1, .one (.val (.func (.func 56) #[] #[]))), (7, qj ((a0).length : Int)), (8, qj i3)] [] (.rd 1 [(9, qb (decide (i3 < ((a0).length : Int))))] [] (.thenN (.seq (.cd _ ?_ ?_)))))
  ·refine Sim.skip (.thenN (.seq (.block (.sr 2 [(5, qj i3), (10, qj i3)] [] (.st 3 [(13, qj i3), (12, .one (vw Event.cod a0)), (11, .one (.val (.func (.func 56) #[] #[])))] [] (.bn ⟨some 14, .iaddrS 25 12 13, none, []⟩ (fun x5 => [(14, .one (.eptr (Event.cod.enc x5) 0))]) (fun x5 => []) (fun x5 hr => pe (ei (c := Event.cod) (k := .i64) hr)) (fun x5 => ?_)))))))
   refine SimI.rn 1 [(15, .agg (Event.cells x5))] [] (.bn ⟨some 16, .callv true [[]] 11 [15], none, []⟩ (fun r6 => [(16, qb r6)]) (fun r6 => []) (fun r6 hr => pe (eff_callvv (by kernel_rfl) (ARGS := [.agg (Event.cells x5)]) (by kernel_rfl) (args_clean (by kernel_rfl) args_nil) (F56_ok _ _ _ hr) (by kernel_rfl))) (fun r6 => ?_))
   refine SimI.dn (.thenN (.cd _ ?_ ?_))
   ·exact Sim.sr 2 [(4, qj i3), (17, qj i3)] [] (.ret (.blockR (.thenR (.loopR (.blockR (.thenR .fn))))))
   ·refine Sim.skip (.blockN (.thenN (.region0 (.rd 2 (rp [8, 18] (qj (iw .i64 (i3 + 1)))) [] (.loopN (.pr [0, 1, 7, 8] [] [] [(0, .one (vw Event.cod a0)), (1, .one (.val (.func (.func 56) #[] #[]))), (7, qj ((a0).length : Int)), (8, qj (iw .i64 (i3 + 1)))] [] ?_))))))
    exact ih_l4 (iw .i64 (i3 + 1))
  ·exact Sim.exit (.thenX (.loopX (.blockX (.thenN (.sr 1 [(4, qj (-1))] [] (.ret .fn))))))
def F71s0 (n : Nat) (a0 : (List Event)) : Option Int :=
 F71s0_l4 n a0 (n + 8) 0
theorem F71s0_ok (n : Nat) (a0 : (List Event)) : ∀ r, F71s0 n a0 = some r → D 71 [.one (vw Event.cod a0), .one (.val (.func (.func 56) #[] #[]))] [] = some ((F71s0_e a0) r) := by
 refine fn_to (D := D) (n := n + 8) (nt := 19) (rs := pc71_r) (c := p71c28) (L := [(0, .one (vw Event.cod a0)), (1, .one (.val (.func (.func 56) #[] #[])))]) (M := []) (k := 0) rfl rfl rfl rfl rfl rfl rfl ?_
 unfold F71s0
 refine Sim.sr 1 [(4, qj 0)] [] (.seq (.sr 3 [(8, qj 0), (7, qj ((a0).length : Int)), (6, .one (vw Event.cod a0))] [] (.block (.loop (.pr [0, 1, 7, 8] [] [] [(0, .one (vw Event.cod a0)), (1, .one (.val (.func (.func 56) #[] #[]))), (7, qj ((a0).length : Int)), (8, qj 0)] [] ?_)))))
 exact F71s0_l4_ok n a0 (n + 8) 0
def F55s0_e (a0 : (List Event)) : Bool → PV × List Ob := fun r => (.one (lb r), [])
def F55s0 (n : Nat) (a0 : (List Event)) : Option Bool :=
 (F71s0 n a0).bind fun (r1 : Int) =>
 some (decide ((0 : Int) ≤ r1))
theorem F55s0_ok (n : Nat) (a0 : (List Event)) : ∀ r, F55s0 n a0 = some r → D 55 [.one (vw Event.cod a0), .one (.val (.func (.func 56) #[] #[]))] [] = some ((F55s0_e a0) r) := by
 refine fn_to (D := D) (n := n + 8) (nt := 9) (rs := pc55_r) (c := p55c5) (L := [(0, .one (vw Event.cod a0)), (1, .one (.val (.func (.func 56) #[] #[])))]) (M := []) (k := 0) rfl rfl rfl rfl rfl rfl rfl ?_
 unfold F55s0
 refine Sim.sr 1 [(4, qb false)] [] (.st 2 [(6, .one (.val (.func (.func 56) #[] #[]))), (5, .one (vw Event.cod a0))] [] (.bn ⟨some 7, .gcall false false [] [[(0, 25)], []] 71 [5, 6], none, []⟩ (fun r1 => [(7, qj r1)]) (fun r1 => []) (fun r1 hr => pe (gq (ks := []) (ARGS := [.one (vw Event.cod a0), .one (.val (.func (.func 56) #[] #[]))]) (F71s0_ok _ _ _ hr))) (fun r1 => ?_)))
 exact SimI.rd 2 (rp [4, 8] (qb (decide ((0 : Int) ≤ r1)))) [] (.thenN (.ret .fn))
def F44_e : (Bool × View) → PV × List Ob := fun r => (.one (lb r.1), [.cells [li .i64 r.2.client, li .i64 r.2.session, li .i64 r.2.n, li .i64 r.2.beat, li .i64 r.2.start, vw Thing.cod r.2.things, .osl 1000001 1 0 (r.2.log_).length, .mp 1000002], .arr 58 Event.cod.sz 1 (r.2.log_).length (getOf Event.cod r.2.log_), .map (mapOf Key.cells Event.cod r.2.wait)])
def F44_j1 (n : Nat) (a0 : View) (a1 : Frame) : Option (Bool × View) :=
  if decide (a1.Beat ≤ a0.beat) then
   some (false, a0)
  else
   if decide ((36 : Int) < IntKind.wrap .i64 (a1.Beat - imax a1.Start a0.beat)) then
    some (false, a0)
   else
    if mhas (Key.mk a1.From a1.Beat) a0.wait then
     some (false, a0)
    else
     (F55s0 n a1.Events).bind fun (r2 : Bool) =>
     some (!(r2), a0)
theorem F44_j1_ok (n : Nat) (a0 : View) (a1 : Frame) : Sim Try.prog D (n + 8) p44c16 W70 [(3, some (.cells [lj a1.From, lj a1.Client, lj a1.Session, lj a1.Start, lj a1.Beat, vw Event.cod a1.Events])), (1000000, some (.cells (W25 a0))), (1000001, some (.arr 58 Event.cod.sz 1 (a0.log_).length (getOf Event.cod a0.log_))), (1000002, some (.map (mapOf Key.cells Event.cod a0.wait)))] (F44_j1 n a0 a1) (QB 0 (QT Try.prog D (n + 8) p44c34 (QF false pc44_r 3 F44_e))) := by
  unfold F44_j1
  refine Sim.seq (.rg W70 [(3, some (.cells (w0 a1))), (1000000, some (.cells (W25 a0))), (1000001, some (.arr 58 Event.cod.sz 1 (a0.log_).length (getOf Event.cod a0.log_))), (1000002, some (.map (mapOf Key.cells Event.cod a0.wait)))] (.rn 8 (rp [73, 72] (qb (decide (a1.Beat ≤ a0.beat))) ++ [(71, qj a0.beat), (70, qp 1000000 3), (69, qp 1000000 0), (68, qp 1000000 0), (67, qj a1.Beat), (66, qp 3 4)]) [] (.sp 73 _ ?_ ?_)))
  ·exact SimI.rd 13 ([(65, qb true), (85, qb true)] ++ rp [84, 83, 82, 81, 80, 79, 78, 77, 76, 75, 74] tz) [] (.thenN (.ct (.sr 1 [(4, qb false)] [] (.ret (.blockR (.thenR .fn))))))
  ·refine SimI.rd 13 (rp [65, 85, 84] (qb (decide ((36 : Int) < IntKind.wrap .i64 (a1.Beat - imax a1.Start a0.beat)))) ++ [(83, qj (iw .i64 (a1.Beat - imax a1.Start a0.beat))), (82, qj (imax a1.Start a0.beat)), (81, qj a0.beat), (80, qp 1000000 3), (79, qp 1000000 0), (78, qp 1000000 0), (77, qj a1.Start), (76, qp 3 3), (75, qj a1.Beat), (74, qp 3 4)]) [] (.thenN (.cd _ ?_ ?_))
   ·exact Sim.sr 1 [(4, qb false)] [] (.ret (.blockR (.thenR .fn)))
   ·refine Sim.skip (.blockN (.thenN (.seq (.st 9 [(95, .agg [lj a1.From, lj a1.Beat]), (94, qj a1.Beat), (93, qp 3 4), (92, qj a1.From), (91, qp 3 0), (90, .one (.mp 1000002)), (89, qp 1000000 7), (88, qp 1000000 0), (87, qp 1000000 0)] [] (.se ⟨some 96, .mlook true 97 [(0, 25)] 90 95, none, [(90, Hint.obj 1000002), (95, .imm)]⟩ [(96, .tup (W73 a1 a0))] [] (pe (eff_mlook (sz := 25) (c := Event.cod) Key_map (m := 1000002) (l := a0.wait) (key := (Key.mk a1.From a1.Beat)) (by kernel_rfl) (by kernel_rfl) (by kernel_rfl) (by kernel_rfl) true)) (.rd 5 [(6, qb (mhas (Key.mk a1.From a1.Beat) a0.wait)), (5, .one (vw Event.cod (mget (Key.mk a1.From a1.Beat) a0.wait))), (98, qb (mhas (Key.mk a1.From a1.Beat) a0.wait)), (97, .one (vw Event.cod (mget (Key.mk a1.From a1.Beat) a0.wait))), (86, .tup (W73 a1 a0))] [] (.thenN (.sr 1 [(99, qb (mhas (Key.mk a1.From a1.Beat) a0.wait))] [] (.cd _ ?_ ?_)))))))))
    ·exact Sim.sr 1 [(4, qb false)] [] (.ret (.thenR .fn))
    ·refine Sim.skip (.thenN (.st 2 [(101, .one (vw Event.cod a1.Events)), (100, qp 3 5)] [] (.bn ⟨some 102, .gcall false false [] [[(0, 25)], []] 55 [101, Operand.func 56], none, []⟩ (fun r2 => [(102, qb r2)]) (fun r2 => []) (fun r2 hr => pe (gq (ks := []) (ARGS := [.one (vw Event.cod a1.Events), .one (.val (.func (.func 56) #[] #[]))]) (F55s0_ok _ _ _ hr))) (fun r2 => ?_))))
     exact SimI.rd 2 [(4, qb (!(r2))), (103, qb (!(r2)))] [] (.thenN (.ret .fn))
def F44 (n : Nat) (a0 : View) (a1 : Frame) : Option (Bool × View) :=
 if a1.Client != a0.client then
  some (false, a0)
 else
  if a1.Session != a0.session then
   some (false, a0)
  else
   if decide (a1.From < 0) then
    some (false, a0)
   else
    if decide (a0.n ≤ a1.From) then
     some (false, a0)
    else
     if decide (a1.Start < 0) then
      some (false, a0)
     else
      if decide (a1.Beat < a1.Start) then
       some (false, a0)
      else
       if a0.start != (-1) then
        if a1.Start != a0.start then
         some (false, a0)
        else
         F44_j1 n a0 a1
       else
        F44_j1 n a0 a1
theorem F44_ok (n : Nat) (a0 : View) (a1 : Frame) : ∀ r, F44 n a0 a1 = some r → D 44 [.one (.ptr 1000000 0), .agg [li .i64 a1.From, li .i64 a1.Client, li .i64 a1.Session, li .i64 a1.Start, li .i64 a1.Beat, vw Event.cod a1.Events]] [.cells [li .i64 a0.client, li .i64 a0.session, li .i64 a0.n, li .i64 a0.beat, li .i64 a0.start, vw Thing.cod a0.things, .osl 1000001 0 0 (a0.log_).length, .mp 1000002], .arr 58 Event.cod.sz 0 (a0.log_).length (getOf Event.cod a0.log_), .map (mapOf Key.cells Event.cod a0.wait)] = some (F44_e r) := by
 refine fn_to (D := D) (n := n + 8) (nt := 104) (rs := pc44_r) (c := p44c36) (L := [(0, qp 1000000 0), (1, .agg (w0 a1))]) (M := (W11 a0)) (k := 3) rfl rfl rfl rfl rfl rfl rfl ?_
 unfold F44
 refine Sim.sr 2 [(4, qb false), (3, qp 3 0)] [(3, some (.cells (w0 a1)))] (.seq (.block (.st 8 (rp [15, 14] (qb (a1.Client != a0.client)) ++ [(13, qj a0.client)] ++ rp [12, 11, 10] (qp 1000000 0) ++ [(9, qj a1.Client), (8, qp 3 1)]) [] (.sp 15 _ ?_ ?_))))
 ·exact SimI.rd 23 ([(7, qb true), (37, qb true)] ++ rp [36, 35, 34, 33, 32, 31, 30] tz ++ [(29, qb true), (28, qb true), (27, tz), (26, tz), (25, tz), (24, qb true), (23, qb true)] ++ rp [22, 21, 20, 19, 18, 17, 16] tz) [] (.thenN (.ct (.sr 1 [(4, qb false)] [] (.ret (.blockR (.thenR .fn))))))
 ·refine SimI.rn 9 (rp [24, 23, 22] (qb (a1.Session != a0.session)) ++ [(21, qj a0.session), (20, qp 1000000 1), (19, qp 1000000 0), (18, qp 1000000 0), (17, qj a1.Session), (16, qp 3 2)]) [] (.sp 24 _ ?_ ?_)
  ·exact SimI.rd 14 ([(7, qb true), (37, qb true)] ++ rp [36, 35, 34, 33, 32, 31, 30] tz ++ [(29, qb true), (28, qb true), (27, tz), (26, tz), (25, tz)]) [] (.thenN (.ct (.sr 1 [(4, qb false)] [] (.ret (.blockR (.thenR .fn))))))
  ·refine SimI.rn 5 (rp [29, 28, 27] (qb (decide (a1.From < 0))) ++ [(26, qj a1.From), (25, qp 3 0)]) [] (.sp 29 _ ?_ ?_)
   ·exact SimI.rd 9 ([(7, qb true), (37, qb true)] ++ rp [36, 35, 34, 33, 32, 31, 30] tz) [] (.thenN (.ct (.sr 1 [(4, qb false)] [] (.ret (.blockR (.thenR .fn))))))
   ·refine SimI.rd 9 (rp [7, 37, 36] (qb (decide (a0.n ≤ a1.From))) ++ [(35, qj a0.n), (34, qp 1000000 2), (33, qp 1000000 0), (32, qp 1000000 0), (31, qj a1.From), (30, qp 3 0)]) [] (.thenN (.cd _ ?_ ?_))
    ·exact Sim.sr 1 [(4, qb false)] [] (.ret (.blockR (.thenR .fn)))
    ·refine Sim.st 4 (rp [42, 41] (qb (decide (a1.Start < 0))) ++ [(40, qj a1.Start), (39, qp 3 3)]) [] (.sp 42 _ ?_ ?_)
     ·exact SimI.rd 23 ([(38, qb true), (64, qb true)] ++ rp [63, 62, 61, 60, 59, 58, 57, 56, 55, 54, 53, 52, 51, 50] tz ++ [(49, qb true), (48, qb true)] ++ rp [47, 46, 45, 44, 43] tz) [] (.thenN (.ct (.sr 1 [(4, qb false)] [] (.ret (.blockR (.thenR .fn))))))
     ·refine SimI.rn 7 (rp [49, 48, 47] (qb (decide (a1.Beat < a1.Start))) ++ [(46, qj a1.Beat), (45, qp 3 4), (44, qj a1.Start), (43, qp 3 3)]) [] (.sp 49 _ ?_ ?_)
      ·exact SimI.rd 16 ([(38, qb true), (64, qb true)] ++ rp [63, 62, 61, 60, 59, 58, 57, 56, 55, 54, 53, 52, 51, 50] tz) [] (.thenN (.ct (.sr 1 [(4, qb false)] [] (.ret (.blockR (.thenR .fn))))))
      ·refine SimI.rn 6 (rp [55, 54] (qb (a0.start != (-1))) ++ [(53, qj a0.start), (52, qp 1000000 4), (51, qp 1000000 0), (50, qp 1000000 0)]) [] (.sp 55 _ ?_ ?_)
       ·refine SimI.rd 10 (rp [38, 64, 63, 62] (qb (a1.Start != a0.start)) ++ [(61, qj a0.start), (60, qp 1000000 4), (59, qp 1000000 0), (58, qp 1000000 0), (57, qj a1.Start), (56, qp 3 3)]) [] (.thenN (.cd _ ?_ ?_))
        ·exact Sim.sr 1 [(4, qb false)] [] (.ret (.blockR (.thenR .fn)))
        ·refine Sim.pr [0, 3] W69 [] W70 [(3, some (.cells (w0 a1))), (1000000, some (.cells (W25 a0))), (1000001, some (.arr 58 Event.cod.sz 1 (a0.log_).length (getOf Event.cod a0.log_))), (1000002, some (.map (mapOf Key.cells Event.cod a0.wait)))] ?_
         exact F44_j1_ok n a0 a1
       ·refine SimI.rd 10 (rp [38, 64, 63] (qb false) ++ rp [62, 61, 60, 59, 58, 57, 56] tz) [] (.thenN (.cf (.pr [0, 3] W69 [] W70 [(3, some (.cells (w0 a1))), (1000000, some (.cells (W25 a0))), (1000001, some (.arr 58 Event.cod.sz 1 (a0.log_).length (getOf Event.cod a0.log_))), (1000002, some (.map (mapOf Key.cells Event.cod a0.wait)))] ?_)))
        exact F44_j1_ok n a0 a1
def F92_e : Bool → PV × List Ob := fun r => (.one (lb r), [])
def F92 (n : Nat) (a0 : Int) : Option Bool :=
 some (a0 != a0)
theorem F92_ok (n : Nat) (a0 : Int) : ∀ r, F92 n a0 = some r → D 92 [.one (li .i64 a0)] [] = some (F92_e r) := by
 refine fn_to (D := D) (n := n + 8) (nt := 6) (rs := pc92_r) (c := p92c5) (L := [(0, qj a0)]) (M := []) (k := 0) rfl rfl rfl rfl rfl rfl rfl ?_
 unfold F92
 exact Sim.sr 1 [(2, qb false)] [] (.sr 4 [(2, qb (a0 != a0)), (5, qb (a0 != a0)), (4, qj a0), (3, qj a0)] [] (.ret .fn))
def F83_e : Int → PV × List Ob := fun r => (.one (li .i64 r), [])
def F83 (n : Nat) (a0 a1 : Int) : Option Int :=
 (F92 n a0).bind fun (r1 : Bool) =>
 (F92 n a1).bind fun (r2 : Bool) =>
 if r1 then
  if r2 then
   some 0
  else
   some (-1)
 else
  if r2 then
   some 1
  else
   if decide (a0 < a1) then
    some (-1)
   else
    if decide (a1 < a0) then
     some 1
    else
     some 0
theorem F83_ok (n : Nat) (a0 a1 : Int) : ∀ r, F83 n a0 a1 = some r → D 83 [.one (li .i64 a0), .one (li .i64 a1)] [] = some (F83_e r) := by
 refine fn_to (D := D) (n := n + 8) (nt := 20) (rs := pc83_r) (c := p83c49) (L := [(0, qj a0), (1, qj a1)]) (M := []) (k := 0) rfl rfl rfl rfl rfl rfl rfl ?_
 unfold F83
 refine Sim.sr 1 [(4, qj 0)] [] (.st 1 [(7, qj a0)] [] (.cl 8 true [[]] 92 [7] none (fun r1 => qb r1) [qj a0] (F92_ok _ _) (fun r1 => ?_)))
 refine SimI.rd 1 [(5, qb r1)] [] (.thenN (.st 1 [(9, qj a1)] [] (.cl 10 true [[]] 92 [9] none (fun r2 => qb r2) [qj a1] (F92_ok _ _) (fun r2 => ?_))))
 refine SimI.rd 1 [(6, qb r2)] [] (.thenN (.seq (.sr 1 [(11, qb r1)] [] (.cd _ ?_ ?_))))
 ·refine Sim.seq (.sr 1 [(12, qb r2)] [] (.cd _ ?_ ?_))
  ·exact Sim.sr 1 [(4, qj 0)] [] (.ret (.thenR (.thenR .fn)))
  ·exact Sim.skip (.thenN (.sr 1 [(4, qj (-1))] [] (.ret (.thenR .fn))))
 ·refine Sim.skip (.thenN (.seq (.sr 1 [(13, qb r2)] [] (.cd _ ?_ ?_))))
  ·exact Sim.sr 1 [(4, qj 1)] [] (.ret (.thenR .fn))
  ·refine Sim.skip (.thenN (.seq (.sr 3 [(16, qb (decide (a0 < a1))), (15, qj a1), (14, qj a0)] [] (.cd _ ?_ ?_))))
   ·exact Sim.sr 1 [(4, qj (-1))] [] (.ret (.thenR .fn))
   ·refine Sim.skip (.thenN (.seq (.sr 3 [(19, qb (decide (a1 < a0))), (18, qj a1), (17, qj a0)] [] (.cd _ ?_ ?_))))
    ·exact Sim.sr 1 [(4, qj 1)] [] (.ret (.thenR .fn))
    ·exact Sim.skip (.thenN (.sr 1 [(4, qj 0)] [] (.ret .fn)))
def F82_e : Int → PV × List Ob := fun r => (.one (li .i64 r), [])
def F82 (n : Nat) (a0 : Thing) (a1 : Int) : Option Int :=
 (F83 n a0.ID a1).bind fun (r1 : Int) =>
 some r1
theorem F82_ok (n : Nat) (a0 : Thing) (a1 : Int) : ∀ r, F82 n a0 a1 = some r → D 82 [.agg (Thing.cells a0), .one (li .i64 a1)] [] = some (F82_e r) := by
 refine fn_to (D := D) (n := n + 8) (nt := 9) (rs := pc82_r) (c := p82c5) (L := [(0, .agg (Thing.cells a0)), (1, qj a1)]) (M := []) (k := 0) rfl rfl rfl rfl rfl rfl rfl ?_
 unfold F82
 refine Sim.sr 2 [(4, qj 0), (2, qp 2 0)] [(2, some (.cells (Thing.cells a0)))] (.st 3 [(7, qj a1), (6, qj a0.ID), (5, qp 2 0)] [] (.cl 8 true [[], []] 83 [6, 7] none (fun r1 => qj r1) [qj a0.ID, qj a1] (F83_ok _ _ _) (fun r1 => ?_)))
 exact SimI.rd 1 [(4, qj r1)] [] (.thenN (.ret .fn))
def F81s0_e (a0 : (List Thing)) (a1 : Int) : (Int × Bool) → PV × List Ob := fun r => (.tup [.one (li .i64 r.1), .one (lb r.2)], [])
def F81s0_l7 (n : Nat) (a0 : (List Thing)) (a1 : Int) : Nat → Int → Int → Option (Int × Bool)
 | 0, _, _ => none
 | m + 1, i5, i6 =>
  if decide (i5 < i6) then
   (ix a0 (IntKind.wrap .i64 (shrI .u64 (IntKind.wrap .u64 (IntKind.wrap .i64 (i5 + i6))) 1))).bind fun (x8 : Thing) =>
   (F82 n x8 a1).bind fun (r9 : Int) =>
   if decide (r9 < 0) then
    (F81s0_l7 n a0 a1 m) (IntKind.wrap .i64 (IntKind.wrap .i64 (shrI .u64 (IntKind.wrap .u64 (IntKind.wrap .i64 (i5 + i6))) 1) + 1)) i6
   else
    (F81s0_l7 n a0 a1 m) i5 (IntKind.wrap .i64 (shrI .u64 (IntKind.wrap .u64 (IntKind.wrap .i64 (i5 + i6))) 1))
  else
   if decide (i5 < ((a0).length : Int)) then
    (ix a0 i5).bind fun (x10 : Thing) =>
    (F82 n x10 a1).bind fun (r11 : Int) =>
    some (i5, (r11 == 0))
   else
    some (i5, false)
theorem F81s0_l7_ok (n : Nat) (a0 : (List Thing)) (a1 : Int) : ∀ (m : Nat) (i5 i6 : Int), SimL Try.prog D (n + 8) m p81c17 [(0, .one (vw Thing.cod a0)), (1, qj a1), (2, .one (.val (.func (.func 82) #[] #[]))), (8, qj ((a0).length : Int)), (9, qj i5), (10, qj i6)] [] (F81s0_l7 n a0 a1 m i5 i6) (QB 0 (QT Try.prog D (n + 8) p81c22 (QF false pc81_r 0 (F81s0_e a0 a1)))) := by
 intro m_l7
 induction m_l7 with
 | zero => intro i5 i6; exact SimL.zero'  rfl
 | succ m_l7 ih_l7 =>
  intro i5 i6
  refine SimL.succ ?_
  unfold F81s0_l7
  refine Sim.seq (.seq (.rg [(0, .one (vw Thing.cod a0)), (1, qj a1), (2, .one (.val (.func (.func 82) #[] #[]))), (8, qj ((a0).length : Int)), (9, qj i5), (10, qj i6)] [] (.rd 3 [(17, qb (decide (i5 < i6))), (16, qj i6), (15, qj i5)] [] (.thenN (.cd _ ?_ ?_)))))
  ·refine Sim.skip (.thenN (.block (.sr 7 (rp [11, 23] (qj (iw .i64 (shrI .u64 (iw .u64 (iw .i64 (i5 + i6))) 1))) ++ [(22, .one (li .u64 (shrI .u64 (iw .u64 (iw .i64 (i5 + i6))) 1))), (21, .one (li .u64 (iw .u64 (iw .i64 (i5 + i6))))), (20, qj (iw .i64 (i5 + i6))), (19, qj i6), (18, qj i5)]) [] (.st 3 [(26, qj (iw .i64 (shrI .u64 (iw .u64 (iw .i64 (i5 + i6))) 1))), (25, .one (vw Thing.cod a0)), (24, .one (.val (.func (.func 82) #[] #[])))] [] (.bn ⟨some 27, .iaddrS 11 25 26, none, []⟩ (fun x8 => [(27, .one (.eptr (Thing.cod.enc x8) 0))]) (fun x8 => []) (fun x8 hr => pe (ei (c := Thing.cod) (k := .i64) hr)) (fun x8 => ?_))))))
   refine SimI.rn 2 [(29, qj a1), (28, .agg (Thing.cells x8))] [] (.bn ⟨some 30, .callv true [[], []] 24 [28, 29], none, []⟩ (fun r9 => [(30, qj r9)]) (fun r9 => []) (fun r9 hr => pe (eff_callvv (by kernel_rfl) (ARGS := [.agg (Thing.cells x8), qj a1]) (by kernel_rfl) (args_clean (by kernel_rfl) (args_clean (by kernel_rfl) args_nil)) (F82_ok _ _ _ _ hr) (by kernel_rfl))) (fun r9 => ?_))
   refine SimI.rd 1 [(31, qb (decide (r9 < 0)))] [] (.thenN (.cd _ ?_ ?_))
   ·refine Sim.region0 (.rd 3 (rp [9, 33] (qj (iw .i64 (iw .i64 (shrI .u64 (iw .u64 (iw .i64 (i5 + i6))) 1) + 1))) ++ [(32, qj (iw .i64 (shrI .u64 (iw .u64 (iw .i64 (i5 + i6))) 1)))]) [] (.blockN (.loopN (.pr [0, 1, 2, 8, 9, 10] [] [] [(0, .one (vw Thing.cod a0)), (1, qj a1), (2, .one (.val (.func (.func 82) #[] #[]))), (8, qj ((a0).length : Int)), (9, qj (iw .i64 (iw .i64 (shrI .u64 (iw .u64 (iw .i64 (i5 + i6))) 1) + 1))), (10, qj i6)] [] ?_))))
    exact ih_l7 (iw .i64 (iw .i64 (shrI .u64 (iw .u64 (iw .i64 (i5 + i6))) 1) + 1)) i6
   ·refine Sim.region0 (.rd 2 (rp [10, 34] (qj (iw .i64 (shrI .u64 (iw .u64 (iw .i64 (i5 + i6))) 1)))) [] (.blockN (.loopN (.pr [0, 1, 2, 8, 9, 10] [] [] [(0, .one (vw Thing.cod a0)), (1, qj a1), (2, .one (.val (.func (.func 82) #[] #[]))), (8, qj ((a0).length : Int)), (9, qj i5), (10, qj (iw .i64 (shrI .u64 (iw .u64 (iw .i64 (i5 + i6))) 1)))] [] ?_))))
    exact ih_l7 i5 (iw .i64 (shrI .u64 (iw .u64 (iw .i64 (i5 + i6))) 1))
  ·refine Sim.exit (.thenX (.loopX (.blockX (.thenN (.st 5 (rp [39, 38] (qb (decide (i5 < ((a0).length : Int)))) ++ [(37, qj ((a0).length : Int)), (36, qj i5), (35, qj i5)]) [] (.sp 39 _ ?_ ?_))))))
   ·refine SimI.rn 3 [(42, qj i5), (41, .one (vw Thing.cod a0)), (40, .one (.val (.func (.func 82) #[] #[])))] [] (.bn ⟨some 43, .iaddrS 11 41 42, some (39, true), []⟩ (fun x10 => [(43, .one (.eptr (Thing.cod.enc x10) 0))]) (fun x10 => []) (fun x10 hr => pe (ei (c := Thing.cod) (k := .i64) hr)) (fun x10 => ?_))
    refine SimI.rn 2 [(45, qj a1), (44, .agg (Thing.cells x10))] [] (.bn ⟨some 46, .callv true [[], []] 40 [44, 45], some (39, true), []⟩ (fun r11 => [(46, qj r11)]) (fun r11 => []) (fun r11 hr => pe (eff_callvv (by kernel_rfl) (ARGS := [.agg (Thing.cells x10), qj a1]) (by kernel_rfl) (args_clean (by kernel_rfl) (args_clean (by kernel_rfl) args_nil)) (F82_ok _ _ _ _ hr) (by kernel_rfl))) (fun r11 => ?_))
    exact SimI.rd 4 [(7, qb (r11 == 0)), (6, qj i5), (48, qb (r11 == 0)), (47, qb (r11 == 0))] [] (.thenN (.ret .fn))
   ·exact SimI.rd 11 ([(7, qb false), (6, qj i5), (48, qb false)] ++ rp [47, 46, 45, 44, 43, 42, 41, 40] tz) [] (.thenN (.ret .fn))
def F81s0 (n : Nat) (a0 : (List Thing)) (a1 : Int) : Option (Int × Bool) :=
 F81s0_l7 n a0 a1 (n + 8) 0 ((a0).length : Int)
theorem F81s0_ok (n : Nat) (a0 : (List Thing)) (a1 : Int) : ∀ r, F81s0 n a0 a1 = some r → D 81 [.one (vw Thing.cod a0), .one (li .i64 a1), .one (.val (.func (.func 82) #[] #[]))] [] = some ((F81s0_e a0 a1) r) := by
 refine fn_to (D := D) (n := n + 8) (nt := 49) (rs := pc81_r) (c := p81c26) (L := [(0, .one (vw Thing.cod a0)), (1, qj a1), (2, .one (.val (.func (.func 82) #[] #[])))]) (M := []) (k := 0) rfl rfl rfl rfl rfl rfl rfl ?_
 unfold F81s0
 refine Sim.sr 2 [(7, qb false), (6, qj 0)] [] (.sr 3 (rp [8, 13] (qj ((a0).length : Int)) ++ [(12, .one (vw Thing.cod a0))]) [] (.sr 3 [(10, qj ((a0).length : Int)), (9, qj 0), (14, qj ((a0).length : Int))] [] (.seq (.block (.loop (.pr [0, 1, 2, 8, 9, 10] [] [] [(0, .one (vw Thing.cod a0)), (1, qj a1), (2, .one (.val (.func (.func 82) #[] #[]))), (8, qj ((a0).length : Int)), (9, qj 0), (10, qj ((a0).length : Int))] [] ?_))))))
 exact F81s0_l7_ok n a0 a1 (n + 8) 0 ((a0).length : Int)
def F85_e : Thing → PV × List Ob := fun r => (.agg (Thing.cells r), [])
def F85_u14 (n : Nat) (g13 : Thing) : Option Thing :=
  some g13
theorem F85_u14_ok (n : Nat) (a1 : Delta) (g13 : Thing) : SimL Try.prog D (n + 8) (n + 4) p85c23 [(2, qp 2 0), (3, qp 3 0), (4, qp 4 0), (15, .agg (A4_Field.cells a1.F)), (16, qj 4)] (W7 g13 a1) (F85_u14 n g13) (QB 0 (QT Try.prog D (n + 8) p85c29 (QF false pc85_r 0 F85_e))) := by
  unfold F85_u14
  exact SimL.succ (.seq (.rg (w12 a1) (W7 g13 a1) (.rd 1 [(17, qb false)] [] (.thenN (.seq (.cf (.exit (.thenX (.loopX (.blockX (.thenN (.sr 2 [(29, .agg (Thing.cells g13))] [(4, some (.cells (Thing.cells g13)))] (.ret .fn)))))))))))))
def F85_u11 (n : Nat) (a0 : Thing) (a1 : Delta) (g10 : Thing) : Option Thing :=
  (F80 n a1.Mask 3).bind fun (r12 : Bool) =>
  if r12 then
   F85_u14 n (Thing.mk g10.ID g10.At (A4.mk g10.F.a0 g10.F.a1 g10.F.a2 a1.F.a3))
  else
   F85_u14 n g10
theorem F85_u11_ok (n : Nat) (a0 : Thing) (a1 : Delta) (g10 : Thing) : SimL Try.prog D (n + 8) (n + 5) p85c23 [(2, qp 2 0), (3, qp 3 0), (4, qp 4 0), (15, .agg (A4_Field.cells a1.F)), (16, qj 3)] (W7 g10 a1) (F85_u11 n a0 a1 g10) (QB 0 (QT Try.prog D (n + 8) p85c29 (QF false pc85_r 0 F85_e))) := by
  unfold F85_u11
  refine SimL.succ (.seq (.rg (w13 a1) (W7 g10 a1) (.rd 1 [(17, qb true)] [] (.thenN (.seq (.ct (.skip (.thenN (.seq (.block (.sr 5 [(5, qj 3), (6, qp 6 0), (19, .agg (W53 a1)), (18, qj 3)] [(6, some (.cells (W53 a1))), (6, some (.cells [lj 0, ls be]))] (.st 3 [(22, qj 3), (21, .one (li .u8 a1.Mask)), (20, qp 3 1)] [] (.cl 23 true [[], []] 80 [21, 22] none (fun r12 => qb r12) [.one (li .u8 a1.Mask), qj 3] (F80_ok _ _ _) (fun r12 => ?_))))))))))))))
  refine SimI.dn (.thenN (.cd _ ?_ ?_))
  ·refine Sim.region0 (.rd 5 [(27, qp 2 9), (26, qp 2 3), (25, .agg (W53 a1)), (24, qj 3)] [(2, some (.cells (W60 g10 a1)))] (.blockN (.thenN (.region0 (.rd 2 [(16, qj 4), (28, qj 4)] [] (.loopN (.pr [2, 3, 4, 15, 16] [2, 3, 4, 6] [] (w12 a1) [(2, some (.cells (W60 g10 a1))), (3, some (.cells (Delta.cells a1))), (4, some (.cells W31))] ?_)))))))
   exact F85_u14_ok n a1 (Thing.mk g10.ID g10.At (A4.mk g10.F.a0 g10.F.a1 g10.F.a2 a1.F.a3))
  ·refine Sim.skip (.blockN (.thenN (.region0 (.rd 2 [(16, qj 4), (28, qj 4)] [] (.loopN (.pr [2, 3, 4, 15, 16] [2, 3, 4, 6] [] (w12 a1) (W7 g10 a1) ?_))))))
   exact F85_u14_ok n a1 g10
def F85_u8 (n : Nat) (a0 : Thing) (a1 : Delta) (g7 : Thing) : Option Thing :=
  (F80 n a1.Mask 2).bind fun (r9 : Bool) =>
  if r9 then
   F85_u11 n a0 a1 (Thing.mk g7.ID g7.At (A4.mk g7.F.a0 g7.F.a1 a1.F.a2 g7.F.a3))
  else
   F85_u11 n a0 a1 g7
theorem F85_u8_ok (n : Nat) (a0 : Thing) (a1 : Delta) (g7 : Thing) : SimL Try.prog D (n + 8) (n + 6) p85c23 [(2, qp 2 0), (3, qp 3 0), (4, qp 4 0), (15, .agg (A4_Field.cells a1.F)), (16, qj 2)] (W7 g7 a1) (F85_u8 n a0 a1 g7) (QB 0 (QT Try.prog D (n + 8) p85c29 (QF false pc85_r 0 F85_e))) := by
  unfold F85_u8
  refine SimL.succ (.seq (.rg (w14 a1) (W7 g7 a1) (.rd 1 [(17, qb true)] [] (.thenN (.seq (.ct (.skip (.thenN (.seq (.block (.sr 5 [(5, qj 2), (6, qp 6 0), (19, .agg (W54 a1)), (18, qj 2)] [(6, some (.cells (W54 a1))), (6, some (.cells [lj 0, ls be]))] (.st 3 [(22, qj 2), (21, .one (li .u8 a1.Mask)), (20, qp 3 1)] [] (.cl 23 true [[], []] 80 [21, 22] none (fun r9 => qb r9) [.one (li .u8 a1.Mask), qj 2] (F80_ok _ _ _) (fun r9 => ?_))))))))))))))
  refine SimI.dn (.thenN (.cd _ ?_ ?_))
  ·refine Sim.region0 (.rd 5 [(27, qp 2 7), (26, qp 2 3), (25, .agg (W54 a1)), (24, qj 2)] [(2, some (.cells (W61 g7 a1)))] (.blockN (.thenN (.region0 (.rd 2 [(16, qj 3), (28, qj 3)] [] (.loopN (.pr [2, 3, 4, 15, 16] [2, 3, 4, 6] [] (w13 a1) [(2, some (.cells (W61 g7 a1))), (3, some (.cells (Delta.cells a1))), (4, some (.cells W31))] ?_)))))))
   exact F85_u11_ok n a0 a1 (Thing.mk g7.ID g7.At (A4.mk g7.F.a0 g7.F.a1 a1.F.a2 g7.F.a3))
  ·refine Sim.skip (.blockN (.thenN (.region0 (.rd 2 [(16, qj 3), (28, qj 3)] [] (.loopN (.pr [2, 3, 4, 15, 16] [2, 3, 4, 6] [] (w13 a1) (W7 g7 a1) ?_))))))
   exact F85_u11_ok n a0 a1 g7
def F85_u5 (n : Nat) (a0 : Thing) (a1 : Delta) (g4 : Thing) : Option Thing :=
  (F80 n a1.Mask 1).bind fun (r6 : Bool) =>
  if r6 then
   F85_u8 n a0 a1 (Thing.mk g4.ID g4.At (A4.mk g4.F.a0 a1.F.a1 g4.F.a2 g4.F.a3))
  else
   F85_u8 n a0 a1 g4
theorem F85_u5_ok (n : Nat) (a0 : Thing) (a1 : Delta) (g4 : Thing) : SimL Try.prog D (n + 8) (n + 7) p85c23 [(2, qp 2 0), (3, qp 3 0), (4, qp 4 0), (15, .agg (A4_Field.cells a1.F)), (16, qj 1)] (W7 g4 a1) (F85_u5 n a0 a1 g4) (QB 0 (QT Try.prog D (n + 8) p85c29 (QF false pc85_r 0 F85_e))) := by
  unfold F85_u5
  refine SimL.succ (.seq (.rg (w15 a1) (W7 g4 a1) (.rd 1 [(17, qb true)] [] (.thenN (.seq (.ct (.skip (.thenN (.seq (.block (.sr 5 [(5, qj 1), (6, qp 6 0), (19, .agg (W55 a1)), (18, qj 1)] [(6, some (.cells (W55 a1))), (6, some (.cells [lj 0, ls be]))] (.st 3 [(22, qj 1), (21, .one (li .u8 a1.Mask)), (20, qp 3 1)] [] (.cl 23 true [[], []] 80 [21, 22] none (fun r6 => qb r6) [.one (li .u8 a1.Mask), qj 1] (F80_ok _ _ _) (fun r6 => ?_))))))))))))))
  refine SimI.dn (.thenN (.cd _ ?_ ?_))
  ·refine Sim.region0 (.rd 5 [(27, qp 2 5), (26, qp 2 3), (25, .agg (W55 a1)), (24, qj 1)] [(2, some (.cells (W62 g4 a1)))] (.blockN (.thenN (.region0 (.rd 2 [(16, qj 2), (28, qj 2)] [] (.loopN (.pr [2, 3, 4, 15, 16] [2, 3, 4, 6] [] (w14 a1) [(2, some (.cells (W62 g4 a1))), (3, some (.cells (Delta.cells a1))), (4, some (.cells W31))] ?_)))))))
   exact F85_u8_ok n a0 a1 (Thing.mk g4.ID g4.At (A4.mk g4.F.a0 a1.F.a1 g4.F.a2 g4.F.a3))
  ·refine Sim.skip (.blockN (.thenN (.region0 (.rd 2 [(16, qj 2), (28, qj 2)] [] (.loopN (.pr [2, 3, 4, 15, 16] [2, 3, 4, 6] [] (w14 a1) (W7 g4 a1) ?_))))))
   exact F85_u8_ok n a0 a1 g4
def F85_j2 (n : Nat) (a0 : Thing) (a1 : Delta) (g1 : Thing) : Option Thing :=
  (F80 n a1.Mask 0).bind fun (r3 : Bool) =>
  if r3 then
   F85_u5 n a0 a1 (Thing.mk g1.ID g1.At (A4.mk a1.F.a0 g1.F.a1 g1.F.a2 g1.F.a3))
  else
   F85_u5 n a0 a1 g1
theorem F85_j2_ok (n : Nat) (a0 : Thing) (a1 : Delta) (g1 : Thing) : Sim Try.prog D (n + 8) p85c30 [(2, qp 2 0), (3, qp 3 0), (4, qp 4 0)] (W7 g1 a1) (F85_j2 n a0 a1 g1) (QF false pc85_r 0 F85_e) := by
  unfold F85_j2
  refine Sim.seq (.seq (.rs (.rd 3 [(16, qj 0), (15, .agg (A4_Field.cells a1.F)), (14, qp 3 4)] [] (.thenN (.block (.loop (.succ (.seq (.rg [(2, qp 2 0), (3, qp 3 0), (4, qp 4 0), (15, .agg (A4_Field.cells a1.F)), (16, qj 0)] (W7 g1 a1) (.rd 1 [(17, qb true)] [] (.thenN (.seq (.ct (.skip (.thenN (.seq (.block (.sr 5 [(5, qj 0), (6, qp 6 0), (19, .agg (W56 a1)), (18, qj 0)] [(6, some (.cells (W56 a1))), (6, some (.cells [lj 0, ls be]))] (.st 3 [(22, qj 0), (21, .one (li .u8 a1.Mask)), (20, qp 3 1)] [] (.cl 23 true [[], []] 80 [21, 22] none (fun r3 => qb r3) [.one (li .u8 a1.Mask), qj 0] (F80_ok _ _ _) (fun r3 => ?_)))))))))))))))))))))
  refine SimI.dn (.thenN (.cd _ ?_ ?_))
  ·refine Sim.region0 (.rd 5 [(27, qp 2 3), (26, qp 2 3), (25, .agg (W56 a1)), (24, qj 0)] [(2, some (.cells (W63 g1 a1)))] (.blockN (.thenN (.region0 (.rd 2 [(16, qj 1), (28, qj 1)] [] (.loopN (.pr [2, 3, 4, 15, 16] [2, 3, 4, 6] [] (w15 a1) [(2, some (.cells (W63 g1 a1))), (3, some (.cells (Delta.cells a1))), (4, some (.cells W31))] ?_)))))))
   exact F85_u5_ok n a0 a1 (Thing.mk g1.ID g1.At (A4.mk a1.F.a0 g1.F.a1 g1.F.a2 g1.F.a3))
  ·refine Sim.skip (.blockN (.thenN (.region0 (.rd 2 [(16, qj 1), (28, qj 1)] [] (.loopN (.pr [2, 3, 4, 15, 16] [2, 3, 4, 6] [] (w15 a1) (W7 g1 a1) ?_))))))
   exact F85_u5_ok n a0 a1 g1
def F85 (n : Nat) (a0 : Thing) (a1 : Delta) : Option Thing :=
 if (bitsI .and .u8 a1.Mask 1) != 0 then
  F85_j2 n a0 a1 (Thing.mk a0.ID a1.At a0.F)
 else
  F85_j2 n a0 a1 a0
theorem F85_ok (n : Nat) (a0 : Thing) (a1 : Delta) : ∀ r, F85 n a0 a1 = some r → D 85 [.agg (Thing.cells a0), .agg (Delta.cells a1)] [] = some (F85_e r) := by
 refine fn_to (D := D) (n := n + 8) (nt := 30) (rs := pc85_r) (c := p85c32) (L := [(0, .agg (Thing.cells a0)), (1, .agg (Delta.cells a1))]) (M := []) (k := 0) rfl rfl rfl rfl rfl rfl rfl ?_
 unfold F85
 refine Sim.sr 3 [(4, qp 4 0), (3, qp 3 0), (2, qp 2 0)] [(4, some (.cells W31)), (3, some (.cells (Delta.cells a1))), (2, some (.cells (Thing.cells a0)))] (.seq (.sr 4 [(10, qb ((bitsI .and .u8 a1.Mask 1) != 0)), (9, .one (li .u8 (bitsI .and .u8 a1.Mask 1))), (8, .one (li .u8 a1.Mask)), (7, qp 3 1)] [] (.cd _ ?_ ?_)))
 ·refine Sim.region0 (.rd 4 [(13, qp 2 1), (12, .agg [lj a1.At.X, lj a1.At.Y]), (11, qp 3 2)] [(2, some (.cells (W64 a0 a1)))] (.thenN (.pr [2, 3, 4] [2, 3, 4] [] [(2, qp 2 0), (3, qp 3 0), (4, qp 4 0)] [(2, some (.cells (W64 a0 a1))), (3, some (.cells (Delta.cells a1))), (4, some (.cells W31))] ?_)))
  exact F85_j2_ok n a0 a1 (Thing.mk a0.ID a1.At a0.F)
 ·refine Sim.skip (.thenN (.pr [2, 3, 4] [2, 3, 4] [] [(2, qp 2 0), (3, qp 3 0), (4, qp 4 0)] (W7 a0 a1) ?_))
  exact F85_j2_ok n a0 a1 a0
def F74_e : ((List Thing) × Bool) → PV × List Ob := fun r => (.tup [.one (vw Thing.cod r.1), .one (lb r.2)], [])
def F74 (n : Nat) (a0 : (List Thing)) (a1 : Event) : Option ((List Thing) × Bool) :=
 (F81s0 n a0 a1.ID).bind fun (r1 : (Int × Bool)) =>
 (F57 n a1).bind fun (r2 : Bool) =>
 if !(r2) then
  (cloneL a0).bind fun (l3 : (List Thing)) =>
  some (l3, false)
 else
  if r1.2 == (a1.Kind == 1) then
   (cloneL a0).bind fun (l4 : (List Thing)) =>
   some (l4, false)
  else
   (cloneL a0).bind fun (l5 : (List Thing)) =>
   if a1.Kind == 1 then
    (insL l5 r1.1 a1.Thing).bind fun (l6 : (List Thing)) =>
    some (l6, true)
   else
    if a1.Kind == 2 then
     (ix l5 r1.1).bind fun (x7 : Thing) =>
     (F85 n x7 a1.Delta).bind fun (r8 : Thing) =>
     (ix l5 r1.1).bind fun (x9 : Thing) =>
     some (((l5).set ((r1.1).toNat) r8), true)
    else
     (delL l5 r1.1 (IntKind.wrap .i64 (r1.1 + 1))).bind fun (l10 : (List Thing)) =>
     some (l10, true)
theorem F74_ok (n : Nat) (a0 : (List Thing)) (a1 : Event) : ∀ r, F74 n a0 a1 = some r → D 74 [.one (vw Thing.cod a0), .agg (Event.cells a1)] [] = some (F74_e r) := by
 refine fn_to (D := D) (n := n + 8) (nt := 58) (rs := pc74_r) (c := p74c30) (L := [(0, .one (vw Thing.cod a0)), (1, .agg (Event.cells a1))]) (M := []) (k := 0) rfl rfl rfl rfl rfl rfl rfl ?_
 unfold F74
 refine Sim.sr 3 [(5, qb false), (4, .one (lnil)), (3, qp 3 0)] [(3, some (.cells (Event.cells a1)))] (.st 3 [(12, qj a1.ID), (11, qp 3 1), (10, .one (vw Thing.cod a0))] [] (.bn ⟨some 13, .gcall false false [] [[(0, 11)], [], []] 81 [10, 12, Operand.func 82], none, []⟩ (fun r1 => [(13, .tup [qj r1.1, qb r1.2])]) (fun r1 => []) (fun r1 hr => pe (gq (ks := []) (ARGS := [.one (vw Thing.cod a0), qj a1.ID, .one (.val (.func (.func 82) #[] #[]))]) (F81s0_ok _ _ _ _ hr))) (fun r1 => ?_)))
 refine SimI.rd 5 [(7, qb r1.2), (6, qj r1.1), (15, qb r1.2), (14, qj r1.1), (9, .tup [qj r1.1, qb r1.2])] [] (.thenN (.seq (.st 1 [(16, .agg (Event.cells a1))] [] (.cl 17 true [[]] 57 [16] none (fun r2 => qb r2) [.agg (Event.cells a1)] (F57_ok _ _) (fun r2 => ?_)))))
 refine SimI.rn 2 [(19, qb (!(r2))), (18, qb (!(r2)))] [] (.sp 19 _ ?_ ?_)
 ·refine SimI.rd 6 ([(25, qb true)] ++ rp [24, 23, 22, 21, 20] tz) [] (.thenN (.ct (.st 1 [(26, .one (vw Thing.cod a0))] [] (.bn ⟨some 27, .gcall false false W42 [[(0, 11)]] 50 [26], none, []⟩ (fun l3 => [(27, .one (.osl 300000 0 0 (l3).length))]) (fun l3 => (W37 l3)) (fun l3 hr => pe (eff_gcall (ks := []) (rks := []) (new := [300000]) (ARGS := [.one (vw Thing.cod a0)]) (args1 := [.one (vw Thing.cod a0)]) (args2 := [.one (vw Thing.cod a0)]) (os := []) (os' := [.arr 54 Thing.cod.sz 0 (l3).length (getOf Thing.cod l3)]) (os1 := [.arr 54 Thing.cod.sz 0 (l3).length (getOf Thing.cod l3)]) (res := .one (.osl 1000000 0 0 (l3).length)) (res1 := .one (.osl 1000000 0 0 (l3).length)) (r := .one (.osl 300000 0 0 (l3).length)) (N := (W37 l3)) (by kernel_rfl) (readA_ow (readA_keep (by kernel_rfl) (readA_nil))) (by kernel_rfl) (by kernel_rfl) (by kernel_rfl) (by kernel_rfl) (D_b50 (l := a0) (r := l3) hr) (by kernel_rfl) (by kernel_rfl) (by kernel_rfl) (by kernel_rfl) (by kernel_rfl) (by kernel_rfl) (by kernel_rfl))) (fun l3 => ?_)))))
  exact SimI.rd 2 [(5, qb false), (4, .one (.osl 300000 0 0 (l3).length))] [] (.thenN (.ret (.thenR (.fin (out_of (os := []) (ress_cons (resOf_own (c := Thing.cod) (k := 300000) (g := 0) (el := 54) (l := l3) (by kernel_rfl) (by kernel_rfl) (by kernel_rfl)) (ress_cons (v := qb false) (by kernel_rfl) (ress_nil))) (by kernel_rfl) rfl (by kernel_rfl))))))
 ·refine SimI.rd 6 (rp [25, 24] (qb (r1.2 == (a1.Kind == 1))) ++ [(23, qb (a1.Kind == 1)), (22, qj a1.Kind), (21, qp 3 0), (20, qb r1.2)]) [] (.thenN (.cd _ ?_ ?_))
  ·refine Sim.st 1 [(26, .one (vw Thing.cod a0))] [] (.bn ⟨some 27, .gcall false false W42 [[(0, 11)]] 50 [26], none, []⟩ (fun l4 => [(27, .one (.osl 300000 0 0 (l4).length))]) (fun l4 => (W37 l4)) (fun l4 hr => pe (eff_gcall (ks := []) (rks := []) (new := [300000]) (ARGS := [.one (vw Thing.cod a0)]) (args1 := [.one (vw Thing.cod a0)]) (args2 := [.one (vw Thing.cod a0)]) (os := []) (os' := [.arr 54 Thing.cod.sz 0 (l4).length (getOf Thing.cod l4)]) (os1 := [.arr 54 Thing.cod.sz 0 (l4).length (getOf Thing.cod l4)]) (res := .one (.osl 1000000 0 0 (l4).length)) (res1 := .one (.osl 1000000 0 0 (l4).length)) (r := .one (.osl 300000 0 0 (l4).length)) (N := (W37 l4)) (by kernel_rfl) (readA_ow (readA_keep (by kernel_rfl) (readA_nil))) (by kernel_rfl) (by kernel_rfl) (by kernel_rfl) (by kernel_rfl) (D_b50 (l := a0) (r := l4) hr) (by kernel_rfl) (by kernel_rfl) (by kernel_rfl) (by kernel_rfl) (by kernel_rfl) (by kernel_rfl) (by kernel_rfl))) (fun l4 => ?_))
   exact SimI.rd 2 [(5, qb false), (4, .one (.osl 300000 0 0 (l4).length))] [] (.thenN (.ret (.thenR (.fin (out_of (os := []) (ress_cons (resOf_own (c := Thing.cod) (k := 300000) (g := 0) (el := 54) (l := l4) (by kernel_rfl) (by kernel_rfl) (by kernel_rfl)) (ress_cons (v := qb false) (by kernel_rfl) (ress_nil))) (by kernel_rfl) rfl (by kernel_rfl))))))
  ·refine Sim.skip (.thenN (.st 1 [(28, .one (vw Thing.cod a0))] [] (.bn ⟨some 29, .gcall false false W42 [[(0, 11)]] 50 [28], none, []⟩ (fun l5 => [(29, .one (.osl 300000 0 0 (l5).length))]) (fun l5 => (W37 l5)) (fun l5 hr => pe (eff_gcall (ks := []) (rks := []) (new := [300000]) (ARGS := [.one (vw Thing.cod a0)]) (args1 := [.one (vw Thing.cod a0)]) (args2 := [.one (vw Thing.cod a0)]) (os := []) (os' := [.arr 54 Thing.cod.sz 0 (l5).length (getOf Thing.cod l5)]) (os1 := [.arr 54 Thing.cod.sz 0 (l5).length (getOf Thing.cod l5)]) (res := .one (.osl 1000000 0 0 (l5).length)) (res1 := .one (.osl 1000000 0 0 (l5).length)) (r := .one (.osl 300000 0 0 (l5).length)) (N := (W37 l5)) (by kernel_rfl) (readA_ow (readA_keep (by kernel_rfl) (readA_nil))) (by kernel_rfl) (by kernel_rfl) (by kernel_rfl) (by kernel_rfl) (D_b50 (l := a0) (r := l5) hr) (by kernel_rfl) (by kernel_rfl) (by kernel_rfl) (by kernel_rfl) (by kernel_rfl) (by kernel_rfl) (by kernel_rfl))) (fun l5 => ?_))))
   refine SimI.rd 1 [(8, .one (.osl 300000 0 0 (l5).length))] [] (.thenN (.seq (.sr 2 [(31, qj a1.Kind), (30, qp 3 0)] [] (.block (.sr 2 (rp [37, 38] (qb (a1.Kind == 1))) [] (.cd _ ?_ ?_))))))
   ·refine Sim.region0 (.rn 5 [(43, .one (.csl 43 11 0 1)), (42, .agg (Thing.cells a1.Thing)), (41, qp 3 2), (40, qj r1.1), (39, .one (.osl 300000 0 0 (l5).length))] [(43, some (.cells (Thing.cells a1.Thing)))] (.bn ⟨some 44, .gcall true false [43, 300000, 300001, 300002, 300003, 300004, 300005, 300006, 300007] [[(0, 11)], [], [(0, 11)]] 84 [39, 40, 43], none, []⟩ (fun l6 => [(44, .one (.osl 300000 (0 + 1) 0 (l6).length))]) (fun l6 => [(300000, some (.arr 54 Thing.cod.sz (0 + 1) (l6).length (getOf Thing.cod l6))), (43, some (.cells (Thing.cells a1.Thing)))]) (fun l6 hr => pe (gq (ks := [300000, 43]) (ARGS := [.one (.osl 300000 0 0 (l5).length), qj r1.1, .one (.csl 43 11 0 1)]) (D_b84 (l := l5) (i := r1.1) (a := a1.Thing) (r := l6) hr))) (fun l6 => ?_)))
    exact SimI.rd 1 [(8, .one (.osl 300000 (0 + 1) 0 (l6).length))] [] (.blockN (.thenN (.sr 3 ([(5, qb true)] ++ rp [4, 57] (.one (.osl 300000 (0 + 1) 0 (l6).length))) [] (.ret (.fin (out_of (os := []) (ress_cons (resOf_own (c := Thing.cod) (k := 300000) (g := (0 + 1)) (el := 54) (l := l6) (by kernel_rfl) (by kernel_rfl) (by kernel_rfl)) (ress_cons (v := qb true) (by kernel_rfl) (ress_nil))) (by kernel_rfl) rfl (by kernel_rfl)))))))
   ·refine Sim.sr 2 (rp [45, 46] (qb (a1.Kind == 2))) [] (.cd _ ?_ ?_)
    ·refine Sim.region0 (.rn 4 [(50, qj r1.1), (49, .one (.osl 300000 0 0 (l5).length)), (48, qj r1.1), (47, .one (.osl 300000 0 0 (l5).length))] [] (.bindh (og := ix l5 r1.1) ⟨some 51, .iaddrS 11 49 50, none, [(49, Hint.obj 300000), (50, .imm)]⟩ (fun x7 => [(51, .one (.aptr 300000 0 ((r1.1).toNat) 0))]) (fun x7 => []) (by kernel_rfl) (fun x7 hr => pe (eff_idxO (c := Thing.cod) (l := l5) (g := 0) (el := 54) (k := .i64) (n := r1.1) (by kernel_rfl) (by kernel_rfl) (by kernel_rfl) (by kernel_rfl) hr)) (fun x7 hx7 => ?_)))
     refine SimI.se ⟨some 52, .load true 11 51, none, [(51, Hint.obj 300000)]⟩ [(52, .agg (Thing.cells x7))] [] (pe (eff_loadO (c := Thing.cod) (a := x7) (l := l5) (key := 300000) (g := 0) (el := 54) (off := 0) (i := (r1.1).toNat) (by kernel_rfl) (by kernel_rfl) (ix_some hx7).2.2.2 (by kernel_rfl))) (.rn 2 [(54, .agg (Delta.cells a1.Delta)), (53, qp 3 13)] [] (.cm 55 false [[], []] 85 [52, 54] none [(52, .imm), (54, .imm)] (F85_ok _ _ _) (fun r8 => ?_)))
     refine SimI.bindh (og := ix l5 r1.1) ⟨some 56, .iaddrS 11 47 48, none, [(47, Hint.obj 300000), (48, .imm)]⟩ (fun x9 => [(56, .one (.aptr 300000 0 ((r1.1).toNat) 0))]) (fun x9 => []) (by kernel_rfl) (fun x9 hr => pe (eff_idxO (c := Thing.cod) (l := l5) (g := 0) (el := 54) (k := .i64) (n := r1.1) (by kernel_rfl) (by kernel_rfl) (by kernel_rfl) (by kernel_rfl) hr)) (fun x9 hx9 => ?_)
     exact SimI.se ⟨none, .store 11 56 55, none, [(56, Hint.obj 300000), (55, .imm)]⟩ [] [(300000, some (.arr 54 Thing.cod.sz 0 (((l5).set ((r1.1).toNat) r8)).length (getOf Thing.cod ((l5).set ((r1.1).toNat) r8))))] (pOp_eff_ (by kernel_rfl) (by kernel_rfl) (eff_storeO (c := Thing.cod) (key := 300000) (g := 0) (el := 54) (l := l5) (i := (r1.1).toNat) (b := r8) (by kernel_rfl) (by kernel_rfl) (by kernel_rfl) (ix_some hx9).2.2.1 (fun _ => rfl) rfl (by kernel_rfl))) (.slot 8 (.one (.osl 300000 0 0 (((l5).set ((r1.1).toNat) r8)).length)) (Eq.trans (b := PV.one (.osl 300000 0 0 (l5).length)) (by kernel_rfl) (congrArg (fun z => PV.one (Lf.osl 300000 0 0 z)) List.length_set.symm)) (.dn (.blockN (.thenN (.sr 3 ([(5, qb true)] ++ rp [4, 57] (.one (.osl 300000 0 0 (((l5).set ((r1.1).toNat) r8)).length))) [] (.ret (.fin (out_of (os := []) (ress_cons (resOf_own (c := Thing.cod) (k := 300000) (g := 0) (el := 54) (l := ((l5).set ((r1.1).toNat) r8)) (by kernel_rfl) (by kernel_rfl) (by kernel_rfl)) (ress_cons (v := qb true) (by kernel_rfl) (ress_nil))) (by kernel_rfl) rfl (by kernel_rfl)))))))))
    ·refine Sim.region0 (.rn 4 [(35, qj (iw .i64 (r1.1 + 1))), (34, qj r1.1), (33, qj r1.1), (32, .one (.osl 300000 0 0 (l5).length))] [] (.bn ⟨some 36, .gcall true false W42 [[(0, 11)], [], []] 86 [32, 33, 35], none, []⟩ (fun l10 => [(36, .one (.osl 300000 (0 + 1) 0 (l10).length))]) (fun l10 => [(300000, some (.arr 54 Thing.cod.sz (0 + 1) (l10).length (getOf Thing.cod l10)))]) (fun l10 hr => pe (gq (ks := [300000]) (ARGS := [.one (.osl 300000 0 0 (l5).length), qj r1.1, qj (iw .i64 (r1.1 + 1))]) (D_b86 (l := l5) (i := r1.1) (j := IntKind.wrap .i64 (r1.1 + 1)) (r := l10) hr))) (fun l10 => ?_)))
     exact SimI.rd 1 [(8, .one (.osl 300000 (0 + 1) 0 (l10).length))] [] (.blockN (.thenN (.sr 3 ([(5, qb true)] ++ rp [4, 57] (.one (.osl 300000 (0 + 1) 0 (l10).length))) [] (.ret (.fin (out_of (os := []) (ress_cons (resOf_own (c := Thing.cod) (k := 300000) (g := (0 + 1)) (el := 54) (l := l10) (by kernel_rfl) (by kernel_rfl) (by kernel_rfl)) (ress_cons (v := qb true) (by kernel_rfl) (ress_nil))) (by kernel_rfl) rfl (by kernel_rfl)))))))
def F58_e : ((List Thing) × Bool) → PV × List Ob := fun r => (.tup [.one (vw Thing.cod r.1), .one (lb r.2)], [])
def F58_j16 (n : Nat) (a0 l14 : (List Thing)) (b15 : Bool) : Option ((List Thing) × Bool) :=
  if !(b15) then
   (cloneL a0).bind fun (l17 : (List Thing)) =>
   some (l17, false)
  else
   some (l14, true)
theorem F58_j16_ok (n : Nat) (a0 l14 : (List Thing)) (b15 : Bool) : Sim Try.prog D (n + 8) p58c36 [(0, .one (vw Thing.cod a0)), (6, .one (vw Thing.cod l14)), (7, qb b15)] [] (F58_j16 n a0 l14 b15) (QF false pc58_r 0 F58_e) := by
  unfold F58_j16
  refine Sim.seq (.seq (.rs (.rd 2 [(28, qb (!(b15))), (27, qb b15)] [] (.thenN (.cd _ ?_ ?_)))))
  ·refine Sim.st 1 [(29, .one (vw Thing.cod a0))] [] (.bn ⟨some 30, .gcall false true [399990, 399991] [[(0, 11)]] 50 [29], none, []⟩ (fun l17 => [(30, .one (vw Thing.cod l17))]) (fun l17 => []) (fun l17 hr => pe (eff_gcall (ks := []) (rks := []) (new := [399990]) (ARGS := [.one (vw Thing.cod a0)]) (args1 := [.one (vw Thing.cod a0)]) (args2 := [.one (vw Thing.cod a0)]) (os := []) (os' := [.arr 54 Thing.cod.sz 0 (l17).length (getOf Thing.cod l17)]) (os1 := [.arr 54 Thing.cod.sz 0 (l17).length (getOf Thing.cod l17)]) (res := .one (.osl 1000000 0 0 (l17).length)) (res1 := .one (vw Thing.cod l17)) (r := .one (vw Thing.cod l17)) (N := []) (by kernel_rfl) (readA_ow (readA_keep (by kernel_rfl) (readA_nil))) (by kernel_rfl) (by kernel_rfl) (by kernel_rfl) (by kernel_rfl) (D_b50 (l := a0) (r := l17) hr) (by kernel_rfl) (by kernel_rfl) (by kernel_rfl) (frz_new (c := Thing.cod) 54 l17) (by kernel_rfl) (by kernel_rfl) (by kernel_rfl))) (fun l17 => ?_))
   exact SimI.rd 2 [(5, qb false), (4, .one (vw Thing.cod l17))] [] (.thenN (.ret (.thenR .fn)))
  ·exact Sim.skip (.thenN (.sr 3 ([(5, qb true)] ++ rp [4, 31] (.one (vw Thing.cod l14))) [] (.ret .fn)))
def F58_l11 (n : Nat) (a0 : (List Thing)) (a1 : (List Event)) : Nat → (List Thing) → Bool → Int → Option ((List Thing) × Bool)
 | 0, _, _, _ => none
 | m + 1, l8, b9, i10 =>
  if decide (i10 < ((a1).length : Int)) then
   (ix a1 i10).bind fun (x12 : Event) =>
   (F74 n l8 x12).bind fun (r13 : ((List Thing) × Bool)) =>
   if !(r13.2) then
    F58_j16 n a0 r13.1 r13.2
   else
    (F58_l11 n a0 a1 m) r13.1 r13.2 (IntKind.wrap .i64 (i10 + 1))
  else
   F58_j16 n a0 l8 b9
theorem F58_l11_ok (n : Nat) (a0 : (List Thing)) (a1 : (List Event)) : ∀ (m : Nat) (l8 : (List Thing)) (b9 : Bool) (i10 : Int), SimL Try.prog D (n + 8) m p58c22 [(0, .one (vw Thing.cod a0)), (6, .one (vw Thing.cod l8)), (7, qb b9), (12, .one (vw Event.cod a1)), (13, qj ((a1).length : Int)), (14, qj i10)] [] (F58_l11 n a0 a1 m l8 b9 i10) (QB 0 (QT Try.prog D (n + 8) p58c36 (QF false pc58_r 0 F58_e))) := by
 intro m_l11
 induction m_l11 with
 | zero => intro l8 b9 i10; exact SimL.zero'  rfl
 | succ m_l11 ih_l11 =>
  intro l8 b9 i10
  refine SimL.succ ?_
  unfold F58_l11
  refine Sim.seq (.rg [(0, .one (vw Thing.cod a0)), (6, .one (vw Thing.cod l8)), (7, qb b9), (12, .one (vw Event.cod a1)), (13, qj ((a1).length : Int)), (14, qj i10)] [] (.rd 1 [(15, qb (decide (i10 < ((a1).length : Int))))] [] (.thenN (.seq (.cd _ ?_ ?_)))))
  ·refine Sim.skip (.thenN (.seq (.block (.seq (.region0 (.bn ⟨some 16, .iaddrS 25 12 14, none, []⟩ (fun x12 => [(16, .one (.eptr (Event.cod.enc x12) 0))]) (fun x12 => []) (fun x12 hr => pe (ei (c := Event.cod) (k := .i64) hr)) (fun x12 => ?_)))))))
   refine SimI.rd 3 [(9, qp 9 0), (17, .agg (Event.cells x12))] [(9, some (.cells (Event.cells x12))), (9, some (.cells [lj 0, lj 0, lj 0, lj 0, lj 0, lj 0, ls be, lj 0, ls be, lj 0, ls be, lj 0, ls be, lj 0, li .u8 0, lj 0, lj 0, lj 0, ls be, lj 0, ls be, lj 0, ls be, lj 0, ls be]))] (.thenN (.st 2 [(20, .agg (Event.cells x12)), (19, .one (vw Thing.cod l8))] [] (.cl 21 true [[(0, 11)], []] 74 [19, 20] none (fun r13 => .tup [.one (vw Thing.cod r13.1), qb r13.2]) [.one (vw Thing.cod l8), .agg (Event.cells x12)] (F74_ok _ _ _) (fun r13 => ?_))))
   refine SimI.rd 5 [(7, qb r13.2), (6, .one (vw Thing.cod r13.1)), (23, qb r13.2), (22, .one (vw Thing.cod r13.1)), (18, .tup [.one (vw Thing.cod r13.1), qb r13.2])] [] (.thenN (.sr 2 [(25, qb (!(r13.2))), (24, qb r13.2)] [] (.cd _ ?_ ?_)))
   ·refine Sim.exit (.blockY rfl (.thenX (.loopX (.blockX (.thenN (.pr [0, 6, 7] [9] [] [(0, .one (vw Thing.cod a0)), (6, .one (vw Thing.cod r13.1)), (7, qb r13.2)] [] ?_))))))
    exact F58_j16_ok n a0 r13.1 r13.2
   ·refine Sim.skip (.blockN (.thenN (.region0 (.rd 2 (rp [14, 26] (qj (iw .i64 (i10 + 1)))) [] (.loopN (.pr [0, 6, 7, 12, 13, 14] [9] [] [(0, .one (vw Thing.cod a0)), (6, .one (vw Thing.cod r13.1)), (7, qb r13.2), (12, .one (vw Event.cod a1)), (13, qj ((a1).length : Int)), (14, qj (iw .i64 (i10 + 1)))] [] ?_))))))
    exact ih_l11 r13.1 r13.2 (iw .i64 (i10 + 1))
  ·refine Sim.exit (.thenX (.loopX (.blockX (.thenN (.pr [0, 6, 7] [9] [] [(0, .one (vw Thing.cod a0)), (6, .one (vw Thing.cod l8)), (7, qb b9)] [] ?_)))))
   exact F58_j16_ok n a0 l8 b9
def F58 (n : Nat) (a0 : (List Thing)) (a1 : (List Event)) : Option ((List Thing) × Bool) :=
 (cloneL a0).bind fun (l1 : (List Thing)) =>
 F58_l11 n a0 a1 (n + 8) l1 true 0
theorem F58_ok (n : Nat) (a0 : (List Thing)) (a1 : (List Event)) : ∀ r, F58 n a0 a1 = some r → D 58 [.one (vw Thing.cod a0), .one (vw Event.cod a1)] [] = some (F58_e r) := by
 refine fn_to (D := D) (n := n + 8) (nt := 32) (rs := pc58_r) (c := p58c41) (L := [(0, .one (vw Thing.cod a0)), (1, .one (vw Event.cod a1))]) (M := []) (k := 0) rfl rfl rfl rfl rfl rfl rfl ?_
 unfold F58
 refine Sim.sr 2 [(5, qb false), (4, .one (lnil))] [] (.scope (.st 1 [(10, .one (vw Thing.cod a0))] [] (.bn ⟨some 11, .gcall false true [399990, 399991] [[(0, 11)]] 50 [10], none, []⟩ (fun l1 => [(11, .one (vw Thing.cod l1))]) (fun l1 => []) (fun l1 hr => pe (eff_gcall (ks := []) (rks := []) (new := [399990]) (ARGS := [.one (vw Thing.cod a0)]) (args1 := [.one (vw Thing.cod a0)]) (args2 := [.one (vw Thing.cod a0)]) (os := []) (os' := [.arr 54 Thing.cod.sz 0 (l1).length (getOf Thing.cod l1)]) (os1 := [.arr 54 Thing.cod.sz 0 (l1).length (getOf Thing.cod l1)]) (res := .one (.osl 1000000 0 0 (l1).length)) (res1 := .one (vw Thing.cod l1)) (r := .one (vw Thing.cod l1)) (N := []) (by kernel_rfl) (readA_ow (readA_keep (by kernel_rfl) (readA_nil))) (by kernel_rfl) (by kernel_rfl) (by kernel_rfl) (by kernel_rfl) (D_b50 (l := a0) (r := l1) hr) (by kernel_rfl) (by kernel_rfl) (by kernel_rfl) (frz_new (c := Thing.cod) 54 l1) (by kernel_rfl) (by kernel_rfl) (by kernel_rfl))) (fun l1 => ?_))))
 refine SimI.rd 2 [(7, qb true), (6, .one (vw Thing.cod l1))] [] (.thenN (.seq (.label (.thenN (.seq (.sr 3 [(14, qj 0), (13, qj ((a1).length : Int)), (12, .one (vw Event.cod a1))] [] (.block (.loop (.pr [0, 6, 7, 12, 13, 14] [9] [] [(0, .one (vw Thing.cod a0)), (6, .one (vw Thing.cod l1)), (7, qb true), (12, .one (vw Event.cod a1)), (13, qj ((a1).length : Int)), (14, qj 0)] [] ?_)))))))))
 exact F58_l11_ok n a0 a1 (n + 8) l1 true 0
def F46_e : View → PV × List Ob := fun r => (.tup [], [.cells [li .i64 r.client, li .i64 r.session, li .i64 r.n, li .i64 r.beat, li .i64 r.start, vw Thing.cod r.things, .osl 1000001 1 0 (r.log_).length, .mp 1000002], .arr 58 Event.cod.sz 1 (r.log_).length (getOf Event.cod r.log_), .map (mapOf Key.cells Event.cod r.wait)])
def F46 (n : Nat) (a0 : View) (a1 : (List Event)) : Option View :=
 (F58 n a0.things a1).bind fun (r1 : ((List Thing) × Bool)) =>
 if !(r1.2) then
  some a0
 else
  if ((a0.log_).length + (a1).length) * 264 ≤ maxCells ∧ (a0.log_).length + (a1).length ≤ maxCells then
   some (View.mk a0.client a0.session a0.n a0.beat a0.start r1.1 (a0.log_ ++ a1) a0.wait)
  else none
theorem F46_ok (n : Nat) (a0 : View) (a1 : (List Event)) : ∀ r, F46 n a0 a1 = some r → D 46 [.one (.ptr 1000000 0), .one (vw Event.cod a1)] [.cells [li .i64 a0.client, li .i64 a0.session, li .i64 a0.n, li .i64 a0.beat, li .i64 a0.start, vw Thing.cod a0.things, .osl 1000001 0 0 (a0.log_).length, .mp 1000002], .arr 58 Event.cod.sz 0 (a0.log_).length (getOf Event.cod a0.log_), .map (mapOf Key.cells Event.cod a0.wait)] = some (F46_e r) := by
 refine fn_to (D := D) (n := n + 8) (nt := 30) (rs := pc46_r) (c := p46c11) (L := [(0, qp 1000000 0), (1, .one (vw Event.cod a1))]) (M := (W11 a0)) (k := 3) rfl rfl rfl rfl rfl rfl rfl ?_
 unfold F46
 refine Sim.st 5 [(11, .one (vw Event.cod a1)), (10, .one (vw Thing.cod a0.things)), (9, qp 1000000 5), (8, qp 1000000 0), (7, qp 1000000 0)] [] (.cl 12 true [[(0, 11)], [(0, 25)]] 58 [10, 11] none (fun r1 => .tup [.one (vw Thing.cod r1.1), qb r1.2]) [.one (vw Thing.cod a0.things), .one (vw Event.cod a1)] (F58_ok _ _ _) (fun r1 => ?_))
 refine SimI.rd 5 [(5, qb r1.2), (4, .one (vw Thing.cod r1.1)), (14, qb r1.2), (13, .one (vw Thing.cod r1.1)), (6, .tup [.one (vw Thing.cod r1.1), qb r1.2])] [] (.thenN (.seq (.sr 2 [(16, qb (!(r1.2))), (15, qb r1.2)] [] (.cd _ ?_ ?_))))
 ·exact Sim.ret (.thenR .fn)
 ·exact Sim.skip (.thenN (.sr 5 [(20, qp 1000000 5), (19, qp 1000000 0), (18, .one (vw Thing.cod r1.1)), (17, qp 1000000 0)] [(1000000, some (.cells [lj a0.client, lj a0.session, lj a0.n, lj a0.beat, lj a0.start, vw Thing.cod r1.1, .osl 1000001 0 0 (a0.log_).length, .mp 1000002]))] (.region0 (.rn 6 ([(26, .one (vw Event.cod a1)), (25, .one (.osl 1000001 0 0 (a0.log_).length)), (24, qp 1000000 6)] ++ rp [23, 22, 21] (qp 1000000 0)) [] (.gu ⟨some 27, .app 100025 58 25 264 25 26, none, []⟩ [(27, .one (.osl 1000001 (0 + 1) 0 ((a0.log_ ++ a1)).length))] [(1000001, some (.arr 58 Event.cod.sz (0 + 1) ((a0.log_ ++ a1)).length (getOf Event.cod (a0.log_ ++ a1))))] (fun hc => pe (eff_appOL (c := Event.cod) (g := 0) (l := a0.log_) (m := a1) (by kernel_rfl) (by kernel_rfl) (by kernel_rfl) (by kernel_rfl) hc)) (.rd 3 [(29, qp 1000000 6), (28, qp 1000000 0)] [(1000000, some (.cells [lj a0.client, lj a0.session, lj a0.n, lj a0.beat, lj a0.start, vw Thing.cod r1.1, .osl 1000001 (0 + 1) 0 ((a0.log_ ++ a1)).length, .mp 1000002]))] (.finN (by kernel_rfl))))))))
def F15_e : (Bool × View) → PV × List Ob := fun r => (.one (lb r.1), [.cells [li .i64 r.2.client, li .i64 r.2.session, li .i64 r.2.n, li .i64 r.2.beat, li .i64 r.2.start, vw Thing.cod r.2.things, .osl 1000001 1 0 (r.2.log_).length, .mp 1000002], .arr 58 Event.cod.sz 1 (r.2.log_).length (getOf Event.cod r.2.log_), .map (mapOf Key.cells Event.cod r.2.wait)])
def F15_l59 (n : Nat) (i21 i22 i23 : Int) (rec_l27 : Int → Int → Int → Int → Int → (List Thing) → (List Event) → (List (Key × (List Event))) → Option (Bool × View)) : Nat → Int → Int → Int → Int → Int → Int → (List Thing) → (List Event) → (List (Key × (List Event))) → Option (Bool × View)
 | 0, _, _, _, _, _, _, _, _, _ => none
 | m + 1, i50, i51, i52, i53, i54, i55, l56, l57, l58 =>
  if decide (i50 < i21) then
   (F46 n (View.mk i51 i52 i53 i54 i55 l56 l57 l58) (mget (Key.mk i50 (imax (IntKind.wrap .i64 (i22 + 1)) i23)) l58)).bind fun (r60 : View) =>
   (F15_l59 n i21 i22 i23 rec_l27 m) (IntKind.wrap .i64 (i50 + 1)) r60.client r60.session r60.n r60.beat r60.start r60.things r60.log_ (mcut (Key.mk i50 (imax (IntKind.wrap .i64 (i22 + 1)) i23)) r60.wait)
  else
   rec_l27 i51 i52 i53 (imax (IntKind.wrap .i64 (i22 + 1)) i23) i55 l56 l57 l58
theorem F15_l59_ok (n : Nat) (i21 i22 i23 : Int) (rec_l27 : Int → Int → Int → Int → Int → (List Thing) → (List Event) → (List (Key × (List Event))) → Option (Bool × View)) (m_l27 : Nat) (ih_l27 : ∀ (i19 i20 i21 i22 i23 : Int) (l24 : (List Thing)) (l25 : (List Event)) (l26 : (List (Key × (List Event)))), SimL Try.prog D (n + 8) m_l27 p15c57 [(0, qp 1000000 0)] (W9 i19 i20 i21 i22 i23 l24 l25 l26) (rec_l27 i19 i20 i21 i22 i23 l24 l25 l26) (QB 0 (QT Try.prog D (n + 8) p15c62 (QF false pc15_r 3 F15_e)))) : ∀ (m : Nat) (i50 i51 i52 i53 i54 i55 : Int) (l56 : (List Thing)) (l57 : (List Event)) (l58 : (List (Key × (List Event)))), SimL Try.prog D (n + 8) m p15c49 [(0, qp 1000000 0), (5, qj (imax (IntKind.wrap .i64 (i22 + 1)) i23)), (65, qj i21), (66, qj i50)] (W9 i51 i52 i53 i54 i55 l56 l57 l58) (F15_l59 n i21 i22 i23 rec_l27 m i50 i51 i52 i53 i54 i55 l56 l57 l58) (QB 4 (QT Try.prog D (n + 8) p15c53 (QB 1 (QL Try.prog D (n + 8) m_l27 p15c57 (QB 0 (QT Try.prog D (n + 8) p15c62 (QF false pc15_r 3 F15_e))))))) := by
 intro m_l59
 induction m_l59 with
 | zero => intro i50 i51 i52 i53 i54 i55 l56 l57 l58; exact SimL.zero'  rfl
 | succ m_l59 ih_l59 =>
  intro i50 i51 i52 i53 i54 i55 l56 l57 l58
  refine SimL.succ ?_
  unfold F15_l59
  refine Sim.seq (.rg [(0, qp 1000000 0), (5, qj (imax (iw .i64 (i22 + 1)) i23)), (65, qj i21), (66, qj i50)] (W9 i51 i52 i53 i54 i55 l56 l57 l58) (.rd 1 [(67, qb (decide (i50 < i21)))] [] (.thenN (.seq (.cd _ ?_ ?_)))))
  ·refine Sim.skip (.thenN (.seq (.block (.sr 2 [(9, qj i50), (68, qj i50)] [] (.st 8 ([(76, .agg [lj i50, lj (imax (iw .i64 (i22 + 1)) i23)]), (75, qj (imax (iw .i64 (i22 + 1)) i23)), (74, qj i50), (73, .one (.mp 1000002)), (72, qp 1000000 7)] ++ rp [71, 70, 69] (qp 1000000 0)) [] (.se ⟨some 77, .mlook false 97 [(0, 25)] 73 76, none, []⟩ [(77, .one (vw Event.cod (mget (Key.mk i50 (imax (iw .i64 (i22 + 1)) i23)) l58)))] [] (pe (eff_mlook (sz := 25) (c := Event.cod) Key_map (m := 1000002) (l := l58) (key := (Key.mk i50 (imax (iw .i64 (i22 + 1)) i23))) (by kernel_rfl) (by kernel_rfl) (by kernel_rfl) (by kernel_rfl) false)) (.bn ⟨some 78, .gcall false false W48 [[], [(0, 25)]] 46 [69, 77], none, []⟩ (fun r60 => [(78, tz)]) (fun r60 => [(1000000, some (.cells [lj r60.client, lj r60.session, lj r60.n, lj r60.beat, lj r60.start, vw Thing.cod r60.things, .osl 1000001 (1 + 1) 0 (r60.log_).length, .mp 1000002])), (1000001, some (.arr 58 Event.cod.sz (1 + 1) (r60.log_).length (getOf Event.cod r60.log_))), (1000002, some (.map (mapOf Key.cells Event.cod r60.wait)))]) (fun r60 hr => pe (gq (ks := W48) (ARGS := [qp 1000000 0, .one (vw Event.cod (mget (Key.mk i50 (imax (iw .i64 (i22 + 1)) i23)) l58))]) (F46_ok _ _ _ _ hr))) (fun r60 => ?_))))))))
   refine SimI.dn (.thenN (.region0 (.rn 7 [(85, .agg [lj i50, lj (imax (iw .i64 (i22 + 1)) i23)]), (84, qj (imax (iw .i64 (i22 + 1)) i23)), (83, qj i50), (82, .one (.mp 1000002)), (81, qp 1000000 7), (80, qp 1000000 0), (79, qp 1000000 0)] [] (.se ⟨none, .mdel 97 82 85, none, []⟩ [] [(1000002, some (.map (mapOf Key.cells Event.cod (mcut (Key.mk i50 (imax (iw .i64 (i22 + 1)) i23)) r60.wait))))] (pOp_eff_ (by kernel_rfl) (by kernel_rfl) (eff_mdel (c := Event.cod) Key_map (m := 1000002) (l := r60.wait) (key := (Key.mk i50 (imax (iw .i64 (i22 + 1)) i23))) (by kernel_rfl) (by kernel_rfl) (by kernel_rfl))) (.dn (.blockN (.thenN (.region0 (.rd 2 (rp [66, 86] (qj (iw .i64 (i50 + 1)))) [] (.loopN (.pr [0, 5, 65, 66] W48 [] [(0, qp 1000000 0), (5, qj (imax (iw .i64 (i22 + 1)) i23)), (65, qj i21), (66, qj (iw .i64 (i50 + 1)))] [(1000000, some (.cells (W25 r60))), (1000001, some (.arr 58 Event.cod.sz 1 (r60.log_).length (getOf Event.cod r60.log_))), (1000002, some (.map (mapOf Key.cells Event.cod (mcut (Key.mk i50 (imax (iw .i64 (i22 + 1)) i23)) r60.wait))))] ?_)))))))))))
   exact ih_l59 (iw .i64 (i50 + 1)) r60.client r60.session r60.n r60.beat r60.start r60.things r60.log_ (mcut (Key.mk i50 (imax (iw .i64 (i22 + 1)) i23)) r60.wait)
  ·refine Sim.exit (.thenX (.loopX (.blockX (.thenN (.region0 (.rd 5 [(90, qp 1000000 3), (89, qp 1000000 0), (88, qj (imax (iw .i64 (i22 + 1)) i23)), (87, qp 1000000 0)] [(1000000, some (.cells [lj i51, lj i52, lj i53, lj (imax (iw .i64 (i22 + 1)) i23), lj i55, vw Thing.cod l56, .osl 1000001 1 0 (l57).length, .mp 1000002]))] (.blockN (.loopN (.pr [0] W69 [] [(0, qp 1000000 0)] [(1000000, some (.cells [lj i51, lj i52, lj i53, lj (imax (iw .i64 (i22 + 1)) i23), lj i55, vw Thing.cod l56, .osl 1000001 1 0 (l57).length, .mp 1000002])), (1000001, some (.arr 58 Event.cod.sz 1 (l57).length (getOf Event.cod l57))), (1000002, some (.map (mapOf Key.cells Event.cod l58)))] ?_)))))))))
   exact ih_l27 i51 i52 i53 (imax (iw .i64 (i22 + 1)) i23) i55 l56 l57 l58
def F15_l31 (n : Nat) (i19 i20 i21 i22 i23 : Int) (l24 : (List Thing)) (l25 : (List Event)) (l26 : (List (Key × (List Event)))) (rec_l27 : Int → Int → Int → Int → Int → (List Thing) → (List Event) → (List (Key × (List Event))) → Option (Bool × View)) : Nat → Int → Option (Bool × View)
 | 0, _ => none
 | m + 1, i30 =>
  if decide (i30 < i21) then
   if !(mhas (Key.mk i30 (imax (IntKind.wrap .i64 (i22 + 1)) i23)) l26) then
    some (true, (View.mk i19 i20 i21 i22 i23 l24 l25 l26))
   else
    (F15_l31 n i19 i20 i21 i22 i23 l24 l25 l26 rec_l27 m) (IntKind.wrap .i64 (i30 + 1))
  else
   F15_l59 n i21 i22 i23 rec_l27 (n + 8) 0 i19 i20 i21 i22 i23 l24 l25 l26
theorem F15_l31_ok (n : Nat) (i19 i20 i21 i22 i23 : Int) (l24 : (List Thing)) (l25 : (List Event)) (l26 : (List (Key × (List Event)))) (rec_l27 : Int → Int → Int → Int → Int → (List Thing) → (List Event) → (List (Key × (List Event))) → Option (Bool × View)) (m_l27 : Nat) (ih_l27 : ∀ (i19 i20 i21 i22 i23 : Int) (l24 : (List Thing)) (l25 : (List Event)) (l26 : (List (Key × (List Event)))), SimL Try.prog D (n + 8) m_l27 p15c57 [(0, qp 1000000 0)] (W9 i19 i20 i21 i22 i23 l24 l25 l26) (rec_l27 i19 i20 i21 i22 i23 l24 l25 l26) (QB 0 (QT Try.prog D (n + 8) p15c62 (QF false pc15_r 3 F15_e)))) : ∀ (m : Nat) (i30 : Int), SimL Try.prog D (n + 8) m p15c31 [(0, qp 1000000 0), (5, qj (imax (IntKind.wrap .i64 (i22 + 1)) i23)), (44, qj i21), (45, qj i30)] (W9 i19 i20 i21 i22 i23 l24 l25 l26) (F15_l31 n i19 i20 i21 i22 i23 l24 l25 l26 rec_l27 m i30) (QB 2 (QT Try.prog D (n + 8) p15c54 (QB 1 (QL Try.prog D (n + 8) m_l27 p15c57 (QB 0 (QT Try.prog D (n + 8) p15c62 (QF false pc15_r 3 F15_e))))))) := by
 intro m_l31
 induction m_l31 with
 | zero => intro i30; exact SimL.zero'  rfl
 | succ m_l31 ih_l31 =>
  intro i30
  refine SimL.succ ?_
  unfold F15_l31
  refine Sim.seq (.rg [(0, qp 1000000 0), (5, qj (imax (iw .i64 (i22 + 1)) i23)), (44, qj i21), (45, qj i30)] (W9 i19 i20 i21 i22 i23 l24 l25 l26) (.rd 1 [(46, qb (decide (i30 < i21)))] [] (.thenN (.seq (.cd _ ?_ ?_)))))
  ·refine Sim.skip (.thenN (.seq (.block (.sr 2 [(6, qj i30), (47, qj i30)] [] (.st 7 [(55, .agg [lj i30, lj (imax (iw .i64 (i22 + 1)) i23)]), (54, qj (imax (iw .i64 (i22 + 1)) i23)), (53, qj i30), (52, .one (.mp 1000002)), (51, qp 1000000 7), (50, qp 1000000 0), (49, qp 1000000 0)] [] (.se ⟨some 56, .mlook true 97 [(0, 25)] 52 55, none, []⟩ [(56, .tup [.one (vw Event.cod (mget (Key.mk i30 (imax (iw .i64 (i22 + 1)) i23)) l26)), qb (mhas (Key.mk i30 (imax (iw .i64 (i22 + 1)) i23)) l26)])] [] (pe (eff_mlook (sz := 25) (c := Event.cod) Key_map (m := 1000002) (l := l26) (key := (Key.mk i30 (imax (iw .i64 (i22 + 1)) i23))) (by kernel_rfl) (by kernel_rfl) (by kernel_rfl) (by kernel_rfl) true)) (.rd 5 [(8, qb (mhas (Key.mk i30 (imax (iw .i64 (i22 + 1)) i23)) l26)), (7, .one (vw Event.cod (mget (Key.mk i30 (imax (iw .i64 (i22 + 1)) i23)) l26))), (58, qb (mhas (Key.mk i30 (imax (iw .i64 (i22 + 1)) i23)) l26)), (57, .one (vw Event.cod (mget (Key.mk i30 (imax (iw .i64 (i22 + 1)) i23)) l26))), (48, .tup [.one (vw Event.cod (mget (Key.mk i30 (imax (iw .i64 (i22 + 1)) i23)) l26)), qb (mhas (Key.mk i30 (imax (iw .i64 (i22 + 1)) i23)) l26)])] [] (.thenN (.sr 2 [(60, qb (!(mhas (Key.mk i30 (imax (iw .i64 (i22 + 1)) i23)) l26))), (59, qb (mhas (Key.mk i30 (imax (iw .i64 (i22 + 1)) i23)) l26))] [] (.cd _ ?_ ?_))))))))))
   ·exact Sim.exit (.blockY rfl (.thenX (.loopX (.blockY rfl (.thenX (.blockY rfl (.loopX (.blockX (.thenN (.sr 1 [(4, qb true)] [] (.ret .fn)))))))))))
   ·refine Sim.skip (.blockN (.thenN (.region0 (.rd 2 (rp [45, 61] (qj (iw .i64 (i30 + 1)))) [] (.loopN (.pr [0, 5, 44, 45] W48 [] [(0, qp 1000000 0), (5, qj (imax (iw .i64 (i22 + 1)) i23)), (44, qj i21), (45, qj (iw .i64 (i30 + 1)))] (W9 i19 i20 i21 i22 i23 l24 l25 l26) ?_))))))
    exact ih_l31 (iw .i64 (i30 + 1))
  ·refine Sim.exit (.thenX (.loopX (.blockX (.thenN (.seq (.sr 5 [(66, qj 0), (65, qj i21), (64, qp 1000000 2), (63, qp 1000000 0), (62, qp 1000000 0)] [] (.block (.loop (.pr [0, 5, 65, 66] W48 [] [(0, qp 1000000 0), (5, qj (imax (iw .i64 (i22 + 1)) i23)), (65, qj i21), (66, qj 0)] (W9 i19 i20 i21 i22 i23 l24 l25 l26) ?_)))))))))
   exact F15_l59_ok n i21 i22 i23 rec_l27 m_l27 ih_l27 (n + 8) 0 i19 i20 i21 i22 i23 l24 l25 l26
def F15_l27 (n : Nat) : Nat → Int → Int → Int → Int → Int → (List Thing) → (List Event) → (List (Key × (List Event))) → Option (Bool × View)
 | 0, _, _, _, _, _, _, _, _ => none
 | m + 1, i19, i20, i21, i22, i23, l24, l25, l26 =>
  F15_l31 n i19 i20 i21 i22 i23 l24 l25 l26 (F15_l27 n m) (n + 8) 0
theorem F15_l27_ok (n : Nat) : ∀ (m : Nat) (i19 i20 i21 i22 i23 : Int) (l24 : (List Thing)) (l25 : (List Event)) (l26 : (List (Key × (List Event)))), SimL Try.prog D (n + 8) m p15c57 [(0, qp 1000000 0)] (W9 i19 i20 i21 i22 i23 l24 l25 l26) (F15_l27 n m i19 i20 i21 i22 i23 l24 l25 l26) (QB 0 (QT Try.prog D (n + 8) p15c62 (QF false pc15_r 3 F15_e))) := by
 intro m_l27
 induction m_l27 with
 | zero => intro i19 i20 i21 i22 i23 l24 l25 l26; exact SimL.zero'  rfl
 | succ m_l27 ih_l27 =>
  intro i19 i20 i21 i22 i23 l24 l25 l26
  refine SimL.succ ?_
  unfold F15_l27
  refine Sim.block (.seq (.rg [(0, qp 1000000 0)] (W9 i19 i20 i21 i22 i23 l24 l25 l26) (.rd 11 (rp [5, 40] (qj (imax (iw .i64 (i22 + 1)) i23)) ++ [(39, qj i23), (38, qp 1000000 4), (37, qp 1000000 0), (36, qp 1000000 0), (35, qj (iw .i64 (i22 + 1))), (34, qj i22), (33, qp 1000000 3), (32, qp 1000000 0), (31, qp 1000000 0)]) [] (.thenN (.seq (.sr 5 [(45, qj 0), (44, qj i21), (43, qp 1000000 2), (42, qp 1000000 0), (41, qp 1000000 0)] [] (.block (.loop (.pr [0, 5, 44, 45] W48 [] [(0, qp 1000000 0), (5, qj (imax (iw .i64 (i22 + 1)) i23)), (44, qj i21), (45, qj 0)] (W9 i19 i20 i21 i22 i23 l24 l25 l26) ?_)))))))))
  exact F15_l31_ok n i19 i20 i21 i22 i23 l24 l25 l26 (F15_l27 n m_l27) m_l27 ih_l27 (n + 8) 0
def F15 (n : Nat) (a0 : View) (a1 : Frame) : Option (Bool × View) :=
 (F44 n a0 a1).bind fun (r1 : (Bool × View)) =>
 if !(r1.1) then
  some (false, r1.2)
 else
  (cloneL a1.Events).bind fun (l2 : (List Event)) =>
  F15_l27 n (n + 8) r1.2.client r1.2.session r1.2.n r1.2.beat a1.Start r1.2.things r1.2.log_ (mput (Key.mk a1.From a1.Beat) l2 r1.2.wait)
theorem F15_ok (n : Nat) (a0 : View) (a1 : Frame) : ∀ r, F15 n a0 a1 = some r → D 15 [.one (.ptr 1000000 0), .agg [li .i64 a1.From, li .i64 a1.Client, li .i64 a1.Session, li .i64 a1.Start, li .i64 a1.Beat, vw Event.cod a1.Events]] [.cells [li .i64 a0.client, li .i64 a0.session, li .i64 a0.n, li .i64 a0.beat, li .i64 a0.start, vw Thing.cod a0.things, .osl 1000001 0 0 (a0.log_).length, .mp 1000002], .arr 58 Event.cod.sz 0 (a0.log_).length (getOf Event.cod a0.log_), .map (mapOf Key.cells Event.cod a0.wait)] = some (F15_e r) := by
 refine fn_to (D := D) (n := n + 8) (nt := 91) (rs := pc15_r) (c := p15c69) (L := [(0, qp 1000000 0), (1, .agg (w0 a1))]) (M := (W11 a0)) (k := 3) rfl rfl rfl rfl rfl rfl rfl ?_
 unfold F15
 refine Sim.sr 2 [(4, qb false), (3, qp 3 0)] [(3, some (.cells (w0 a1)))] (.scope (.seq (.st 2 [(11, .agg (w0 a1)), (10, qp 1000000 0)] [] (.bn ⟨some 12, .gcall false false W48 [[], [(5, 25)]] 44 [10, 11], none, []⟩ (fun r1 => [(12, qb r1.1)]) (fun r1 => [(1000000, some (.cells [lj r1.2.client, lj r1.2.session, lj r1.2.n, lj r1.2.beat, lj r1.2.start, vw Thing.cod r1.2.things, .osl 1000001 (0 + 1) 0 (r1.2.log_).length, .mp 1000002])), (1000001, some (.arr 58 Event.cod.sz (0 + 1) (r1.2.log_).length (getOf Event.cod r1.2.log_))), (1000002, some (.map (mapOf Key.cells Event.cod r1.2.wait)))]) (fun r1 hr => pe (gq (ks := W48) (ARGS := [qp 1000000 0, .agg (w0 a1)]) (F44_ok _ _ _ _ hr))) (fun r1 => ?_)))))
 refine SimI.rd 1 [(13, qb (!(r1.1)))] [] (.thenN (.cd _ ?_ ?_))
 ·exact Sim.sr 1 [(4, qb false)] [] (.ret (.thenR .fn))
 ·refine Sim.skip (.thenN (.sr 6 [(18, qp 1000000 4), (17, qp 1000000 0), (16, qj a1.Start), (15, qp 3 3), (14, qp 1000000 0)] [(1000000, some (.cells [lj r1.2.client, lj r1.2.session, lj r1.2.n, lj r1.2.beat, lj a1.Start, vw Thing.cod r1.2.things, .osl 1000001 (0 + 1) 0 (r1.2.log_).length, .mp 1000002]))] (.st 11 [(29, .one (vw Event.cod a1.Events)), (28, qp 3 5), (27, .agg [lj a1.From, lj a1.Beat]), (26, qj a1.Beat), (25, qp 3 4), (24, qj a1.From), (23, qp 3 0), (22, .one (.mp 1000002)), (21, qp 1000000 7), (20, qp 1000000 0), (19, qp 1000000 0)] [] (.bn ⟨some 30, .gcall false true [399990, 399991] [[(0, 25)]] 45 [29], none, [(29, .imm)]⟩ (fun l2 => [(30, .one (vw Event.cod l2))]) (fun l2 => []) (fun l2 hr => pe (eff_gcall (ks := []) (rks := []) (new := [399990]) (ARGS := [.one (vw Event.cod a1.Events)]) (args1 := [.one (vw Event.cod a1.Events)]) (args2 := [.one (vw Event.cod a1.Events)]) (os := []) (os' := [.arr 58 Event.cod.sz 0 (l2).length (getOf Event.cod l2)]) (os1 := [.arr 58 Event.cod.sz 0 (l2).length (getOf Event.cod l2)]) (res := .one (.osl 1000000 0 0 (l2).length)) (res1 := .one (vw Event.cod l2)) (r := .one (vw Event.cod l2)) (N := []) (by kernel_rfl) (readA_ow (readA_keep (by kernel_rfl) (readA_nil))) (by kernel_rfl) (by kernel_rfl) (by kernel_rfl) (by kernel_rfl) (D_b45 (l := a1.Events) (r := l2) hr) (by kernel_rfl) (by kernel_rfl) (by kernel_rfl) (frz_new (c := Event.cod) 58 l2) (by kernel_rfl) (by kernel_rfl) (by kernel_rfl))) (fun l2 => ?_)))))
  refine SimI.se ⟨none, .mset 97 22 27 30, none, [(22, Hint.obj 1000002), (27, .imm), (30, .imm)]⟩ [] [(1000002, some (.map (mapOf Key.cells Event.cod (mput (Key.mk a1.From a1.Beat) l2 r1.2.wait))))] (pOp_eff_ (by kernel_rfl) (by kernel_rfl) (eff_mset (c := Event.cod) Key_map (m := 1000002) (l := r1.2.wait) (key := (Key.mk a1.From a1.Beat)) (y := l2) (by kernel_rfl) (by kernel_rfl) (by kernel_rfl) (by kernel_rfl))) (.dn (.thenN (.seq (.label (.thenN (.seq (.block (.loop (.pr [0] W69 [] [(0, qp 1000000 0)] [(1000000, some (.cells [lj r1.2.client, lj r1.2.session, lj r1.2.n, lj r1.2.beat, lj a1.Start, vw Thing.cod r1.2.things, .osl 1000001 1 0 (r1.2.log_).length, .mp 1000002])), (1000001, some (.arr 58 Event.cod.sz 1 (r1.2.log_).length (getOf Event.cod r1.2.log_))), (1000002, some (.map (mapOf Key.cells Event.cod (mput (Key.mk a1.From a1.Beat) l2 r1.2.wait))))] ?_)))))))))
  exact F15_l27_ok n (n + 8) r1.2.client r1.2.session r1.2.n r1.2.beat a1.Start r1.2.things r1.2.log_ (mput (Key.mk a1.From a1.Beat) l2 r1.2.wait)
def F35_e : (Int × Client) → PV × List Ob := fun r => (.one (li .i64 r.1), [.cells [li .i64 r.2.id_, li .i64 r.2.n, li .i64 r.2.session, .ptr 1000001 0, li .i64 r.2.asked.From, li .i64 r.2.asked.To, li .i64 r.2.asked.Kind, li .i64 r.2.asked.Seq, li .i64 r.2.asked.C.Kind, li .i64 r.2.asked.C.ID, li .i64 r.2.asked.C.Which, li .i64 r.2.asked.C.To, li .i64 r.2.asked.C.At.X, li .i64 r.2.asked.C.At.Y, li .i64 r.2.asked.C.F.a0.N, ls r.2.asked.C.F.a0.Text, li .i64 r.2.asked.C.F.a1.N, ls r.2.asked.C.F.a1.Text, li .i64 r.2.asked.C.F.a2.N, ls r.2.asked.C.F.a2.Text, li .i64 r.2.asked.C.F.a3.N, ls r.2.asked.C.F.a3.Text, li .i64 r.2.asked.C.Value.N, ls r.2.asked.C.Value.Text, li .i64 r.2.asked.C.Client, li .i64 r.2.asked.C.Session, li .i64 r.2.asked.C.Rect.X0, li .i64 r.2.asked.C.Rect.Y0, li .i64 r.2.asked.C.Rect.X1, li .i64 r.2.asked.C.Rect.Y1, li .i64 r.2.asked.E, li .i64 r.2.asked.ID, li .i64 r.2.asked.N.From, li .i64 r.2.asked.N.Beat, vw Thing.cod r.2.asked.N.Moved, vw Hand.cod r.2.asked.N.Hands, vw Thing.cod r.2.asked.N.Given, vw Command.cod r.2.asked.N.Watch, li .i64 r.2.asked.F.From, li .i64 r.2.asked.F.Client, li .i64 r.2.asked.F.Session, li .i64 r.2.asked.F.Start, li .i64 r.2.asked.F.Beat, vw Event.cod r.2.asked.F.Events, li .i64 r.2.asked.Session, li .i64 r.2.asked.Beat, lb r.2.busy, li .i64 r.2.seq, li .i64 r.2.thing, li .i64 r.2.e], .cells [li .i64 r.2.v.client, li .i64 r.2.v.session, li .i64 r.2.v.n, li .i64 r.2.v.beat, li .i64 r.2.v.start, vw Thing.cod r.2.v.things, .osl 1000002 1 0 (r.2.v.log_).length, .mp 1000003], .arr 58 Event.cod.sz 1 (r.2.v.log_).length (getOf Event.cod r.2.v.log_), .map (mapOf Key.cells Event.cod r.2.v.wait)])
def F35 (n : Nat) (a0 : Client) (a1 : Packet) : Option (Int × Client) :=
 if a1.To != (IntKind.wrap .i64 (100 + a0.id_)) then
  some (20, a0)
 else
  if a1.Kind == 2 then
   if a0.busy then
    if a1.Session == a0.session then
     if a1.Seq == a0.asked.Seq then
      if a1.From == a0.asked.To then
       some (0, (Client.mk a0.id_ a0.n a0.session a0.v a0.asked false a0.seq a1.ID a1.E))
      else
       some (0, a0)
     else
      some (0, a0)
    else
     some (0, a0)
   else
    some (0, a0)
  else
   if a1.Kind == 4 then
    (F15 n a0.v a1.F).bind fun (r1 : (Bool × View)) =>
    some (0, (Client.mk a0.id_ a0.n a0.session r1.2 a0.asked a0.busy a0.seq a0.thing a0.e))
   else
    some (11, a0)
theorem F35_ok (n : Nat) (a0 : Client) (a1 : Packet) : ∀ r, F35 n a0 a1 = some r → D 35 [.one (.ptr 1000000 0), .agg [li .i64 a1.From, li .i64 a1.To, li .i64 a1.Kind, li .i64 a1.Seq, li .i64 a1.C.Kind, li .i64 a1.C.ID, li .i64 a1.C.Which, li .i64 a1.C.To, li .i64 a1.C.At.X, li .i64 a1.C.At.Y, li .i64 a1.C.F.a0.N, ls a1.C.F.a0.Text, li .i64 a1.C.F.a1.N, ls a1.C.F.a1.Text, li .i64 a1.C.F.a2.N, ls a1.C.F.a2.Text, li .i64 a1.C.F.a3.N, ls a1.C.F.a3.Text, li .i64 a1.C.Value.N, ls a1.C.Value.Text, li .i64 a1.C.Client, li .i64 a1.C.Session, li .i64 a1.C.Rect.X0, li .i64 a1.C.Rect.Y0, li .i64 a1.C.Rect.X1, li .i64 a1.C.Rect.Y1, li .i64 a1.E, li .i64 a1.ID, li .i64 a1.N.From, li .i64 a1.N.Beat, vw Thing.cod a1.N.Moved, vw Hand.cod a1.N.Hands, vw Thing.cod a1.N.Given, vw Command.cod a1.N.Watch, li .i64 a1.F.From, li .i64 a1.F.Client, li .i64 a1.F.Session, li .i64 a1.F.Start, li .i64 a1.F.Beat, vw Event.cod a1.F.Events, li .i64 a1.Session, li .i64 a1.Beat]] [.cells [li .i64 a0.id_, li .i64 a0.n, li .i64 a0.session, .ptr 1000001 0, li .i64 a0.asked.From, li .i64 a0.asked.To, li .i64 a0.asked.Kind, li .i64 a0.asked.Seq, li .i64 a0.asked.C.Kind, li .i64 a0.asked.C.ID, li .i64 a0.asked.C.Which, li .i64 a0.asked.C.To, li .i64 a0.asked.C.At.X, li .i64 a0.asked.C.At.Y, li .i64 a0.asked.C.F.a0.N, ls a0.asked.C.F.a0.Text, li .i64 a0.asked.C.F.a1.N, ls a0.asked.C.F.a1.Text, li .i64 a0.asked.C.F.a2.N, ls a0.asked.C.F.a2.Text, li .i64 a0.asked.C.F.a3.N, ls a0.asked.C.F.a3.Text, li .i64 a0.asked.C.Value.N, ls a0.asked.C.Value.Text, li .i64 a0.asked.C.Client, li .i64 a0.asked.C.Session, li .i64 a0.asked.C.Rect.X0, li .i64 a0.asked.C.Rect.Y0, li .i64 a0.asked.C.Rect.X1, li .i64 a0.asked.C.Rect.Y1, li .i64 a0.asked.E, li .i64 a0.asked.ID, li .i64 a0.asked.N.From, li .i64 a0.asked.N.Beat, vw Thing.cod a0.asked.N.Moved, vw Hand.cod a0.asked.N.Hands, vw Thing.cod a0.asked.N.Given, vw Command.cod a0.asked.N.Watch, li .i64 a0.asked.F.From, li .i64 a0.asked.F.Client, li .i64 a0.asked.F.Session, li .i64 a0.asked.F.Start, li .i64 a0.asked.F.Beat, vw Event.cod a0.asked.F.Events, li .i64 a0.asked.Session, li .i64 a0.asked.Beat, lb a0.busy, li .i64 a0.seq, li .i64 a0.thing, li .i64 a0.e], .cells [li .i64 a0.v.client, li .i64 a0.v.session, li .i64 a0.v.n, li .i64 a0.v.beat, li .i64 a0.v.start, vw Thing.cod a0.v.things, .osl 1000002 0 0 (a0.v.log_).length, .mp 1000003], .arr 58 Event.cod.sz 0 (a0.v.log_).length (getOf Event.cod a0.v.log_), .map (mapOf Key.cells Event.cod a0.v.wait)] = some (F35_e r) := by
 refine fn_to (D := D) (n := n + 8) (nt := 72) (rs := pc35_r) (c := p35c32) (L := [(0, qp 1000000 0), (1, .agg (W20 a1))]) (M := (W30 a0)) (k := 4) rfl rfl rfl rfl rfl rfl rfl ?_
 unfold F35
 refine Sim.sr 2 [(4, qj 0), (3, qp 3 0)] [(3, some (.cells (W20 a1)))] (.seq (.sr 8 ([(12, qb (a1.To != (iw .i64 (100 + a0.id_)))), (11, qj (iw .i64 (100 + a0.id_))), (10, qj a0.id_)] ++ rp [9, 8, 7] (qp 1000000 0) ++ [(6, qj a1.To), (5, qp 3 1)]) [] (.cd _ ?_ ?_)))
 ·exact Sim.sr 1 [(4, qj 20)] [] (.ret (.thenR .fn))
 ·refine Sim.skip (.thenN (.seq (.sr 2 [(14, qj a1.Kind), (13, qp 3 2)] [] (.block (.sr 2 (rp [15, 16] (qb (a1.Kind == 2))) [] (.cd _ ?_ ?_))))))
  ·refine Sim.st 5 [(21, qb a0.busy), (20, qb a0.busy), (19, qp 1000000 46), (18, qp 1000000 0), (17, qp 1000000 0)] [] (.sp 21 _ ?_ ?_)
   ·refine SimI.rn 9 (rp [30, 29, 28] (qb (a1.Session == a0.session)) ++ [(27, qj a0.session), (26, qp 1000000 2), (25, qp 1000000 0), (24, qp 1000000 0), (23, qj a1.Session), (22, qp 3 40)]) [] (.sp 30 _ ?_ ?_)
    ·refine SimI.rn 10 (rp [40, 39, 38] (qb (a1.Seq == a0.asked.Seq)) ++ [(37, qj a0.asked.Seq), (36, qp 1000000 7), (35, qp 1000000 4), (34, qp 1000000 0), (33, qp 1000000 0), (32, qj a1.Seq), (31, qp 3 3)]) [] (.sp 40 _ ?_ ?_)
     ·refine SimI.rd 9 (rp [49, 48] (qb (a1.From == a0.asked.To)) ++ [(47, qj a0.asked.To), (46, qp 1000000 5), (45, qp 1000000 4), (44, qp 1000000 0), (43, qp 1000000 0), (42, qj a1.From), (41, qp 3 0)]) [] (.thenN (.cd _ ?_ ?_))
      ·exact Sim.region0 (.rd 16 ([(62, qp 1000000 49), (61, qp 1000000 0), (60, qp 1000000 48), (59, qp 1000000 0), (58, qp 1000000 46), (57, qp 1000000 0), (56, qj a1.E), (55, qp 3 26), (54, qj a1.ID), (53, qp 3 27)] ++ rp [52, 51, 50] (qp 1000000 0)) [(1000000, some (.cells [lj a0.id_, lj a0.n, lj a0.session, .ptr 1000001 0, lj a0.asked.From, lj a0.asked.To, lj a0.asked.Kind, lj a0.asked.Seq, lj a0.asked.C.Kind, lj a0.asked.C.ID, lj a0.asked.C.Which, lj a0.asked.C.To, lj a0.asked.C.At.X, lj a0.asked.C.At.Y, lj a0.asked.C.F.a0.N, ls a0.asked.C.F.a0.Text, lj a0.asked.C.F.a1.N, ls a0.asked.C.F.a1.Text, lj a0.asked.C.F.a2.N, ls a0.asked.C.F.a2.Text, lj a0.asked.C.F.a3.N, ls a0.asked.C.F.a3.Text, lj a0.asked.C.Value.N, ls a0.asked.C.Value.Text, lj a0.asked.C.Client, lj a0.asked.C.Session, lj a0.asked.C.Rect.X0, lj a0.asked.C.Rect.Y0, lj a0.asked.C.Rect.X1, lj a0.asked.C.Rect.Y1, lj a0.asked.E, lj a0.asked.ID, lj a0.asked.N.From, lj a0.asked.N.Beat, vw Thing.cod a0.asked.N.Moved, vw Hand.cod a0.asked.N.Hands, vw Thing.cod a0.asked.N.Given, vw Command.cod a0.asked.N.Watch, lj a0.asked.F.From, lj a0.asked.F.Client, lj a0.asked.F.Session, lj a0.asked.F.Start, lj a0.asked.F.Beat, vw Event.cod a0.asked.F.Events, lj a0.asked.Session, lj a0.asked.Beat, lb false, lj a0.seq, lj a1.ID, lj a1.E])), (1000000, some (.cells [lj a0.id_, lj a0.n, lj a0.session, .ptr 1000001 0, lj a0.asked.From, lj a0.asked.To, lj a0.asked.Kind, lj a0.asked.Seq, lj a0.asked.C.Kind, lj a0.asked.C.ID, lj a0.asked.C.Which, lj a0.asked.C.To, lj a0.asked.C.At.X, lj a0.asked.C.At.Y, lj a0.asked.C.F.a0.N, ls a0.asked.C.F.a0.Text, lj a0.asked.C.F.a1.N, ls a0.asked.C.F.a1.Text, lj a0.asked.C.F.a2.N, ls a0.asked.C.F.a2.Text, lj a0.asked.C.F.a3.N, ls a0.asked.C.F.a3.Text, lj a0.asked.C.Value.N, ls a0.asked.C.Value.Text, lj a0.asked.C.Client, lj a0.asked.C.Session, lj a0.asked.C.Rect.X0, lj a0.asked.C.Rect.Y0, lj a0.asked.C.Rect.X1, lj a0.asked.C.Rect.Y1, lj a0.asked.E, lj a0.asked.ID, lj a0.asked.N.From, lj a0.asked.N.Beat, vw Thing.cod a0.asked.N.Moved, vw Hand.cod a0.asked.N.Hands, vw Thing.cod a0.asked.N.Given, vw Command.cod a0.asked.N.Watch, lj a0.asked.F.From, lj a0.asked.F.Client, lj a0.asked.F.Session, lj a0.asked.F.Start, lj a0.asked.F.Beat, vw Event.cod a0.asked.F.Events, lj a0.asked.Session, lj a0.asked.Beat, lb false, lj a0.seq, lj a1.ID, lj a0.e])), (1000000, some (.cells [lj a0.id_, lj a0.n, lj a0.session, .ptr 1000001 0, lj a0.asked.From, lj a0.asked.To, lj a0.asked.Kind, lj a0.asked.Seq, lj a0.asked.C.Kind, lj a0.asked.C.ID, lj a0.asked.C.Which, lj a0.asked.C.To, lj a0.asked.C.At.X, lj a0.asked.C.At.Y, lj a0.asked.C.F.a0.N, ls a0.asked.C.F.a0.Text, lj a0.asked.C.F.a1.N, ls a0.asked.C.F.a1.Text, lj a0.asked.C.F.a2.N, ls a0.asked.C.F.a2.Text, lj a0.asked.C.F.a3.N, ls a0.asked.C.F.a3.Text, lj a0.asked.C.Value.N, ls a0.asked.C.Value.Text, lj a0.asked.C.Client, lj a0.asked.C.Session, lj a0.asked.C.Rect.X0, lj a0.asked.C.Rect.Y0, lj a0.asked.C.Rect.X1, lj a0.asked.C.Rect.Y1, lj a0.asked.E, lj a0.asked.ID, lj a0.asked.N.From, lj a0.asked.N.Beat, vw Thing.cod a0.asked.N.Moved, vw Hand.cod a0.asked.N.Hands, vw Thing.cod a0.asked.N.Given, vw Command.cod a0.asked.N.Watch, lj a0.asked.F.From, lj a0.asked.F.Client, lj a0.asked.F.Session, lj a0.asked.F.Start, lj a0.asked.F.Beat, vw Event.cod a0.asked.F.Events, lj a0.asked.Session, lj a0.asked.Beat, lb false, lj a0.seq, lj a0.thing, lj a0.e]))] (.blockN (.thenN (.sr 1 [(4, qj 0)] [] (.ret .fn)))))
      ·exact Sim.skip (.blockN (.thenN (.sr 1 [(4, qj 0)] [] (.ret .fn))))
     ·exact SimI.rd 9 ([(49, qb false)] ++ rp [48, 47, 46, 45, 44, 43, 42, 41] tz) [] (.thenN (.cf (.skip (.blockN (.thenN (.sr 1 [(4, qj 0)] [] (.ret .fn)))))))
    ·exact SimI.rd 19 ([(49, qb false)] ++ rp [48, 47, 46, 45, 44, 43, 42, 41] tz ++ [(40, qb false), (39, qb false)] ++ rp [38, 37, 36, 35, 34, 33, 32, 31] tz) [] (.thenN (.cf (.skip (.blockN (.thenN (.sr 1 [(4, qj 0)] [] (.ret .fn)))))))
   ·exact SimI.rd 28 ([(49, qb false)] ++ rp [48, 47, 46, 45, 44, 43, 42, 41] tz ++ [(40, qb false), (39, qb false)] ++ rp [38, 37, 36, 35, 34, 33, 32, 31] tz ++ [(30, qb false), (29, qb false)] ++ rp [28, 27, 26, 25, 24, 23, 22] tz) [] (.thenN (.cf (.skip (.blockN (.thenN (.sr 1 [(4, qj 0)] [] (.ret .fn)))))))
  ·refine Sim.sr 2 (rp [63, 64] (qb (a1.Kind == 4))) [] (.cd _ ?_ ?_)
   ·refine Sim.region0 (.rn 6 [(70, .agg (w4 a1)), (69, qp 3 34), (68, qp 1000001 0), (67, qp 1000000 3), (66, qp 1000000 0), (65, qp 1000000 0)] [] (.bn ⟨some 71, .gcall false false W41 [[], [(5, 25)]] 15 [68, 70], none, [(68, .at_ 1000001 0), (70, .imm)]⟩ (fun r1 => [(71, qb r1.1)]) (fun r1 => [(1000001, some (.cells [lj r1.2.client, lj r1.2.session, lj r1.2.n, lj r1.2.beat, lj r1.2.start, vw Thing.cod r1.2.things, .osl 1000002 (0 + 1) 0 (r1.2.log_).length, .mp 1000003])), (1000002, some (.arr 58 Event.cod.sz (0 + 1) (r1.2.log_).length (getOf Event.cod r1.2.log_))), (1000003, some (.map (mapOf Key.cells Event.cod r1.2.wait)))]) (fun r1 hr => pe (gq (ks := W41) (ARGS := [qp 1000001 0, .agg (w4 a1)]) (F15_ok _ _ _ _ hr))) (fun r1 => ?_)))
    exact SimI.dn (.blockN (.thenN (.sr 1 [(4, qj 0)] [] (.ret .fn))))
   ·exact Sim.sr 1 [(4, qj 11)] [] (.ret (.blockR (.thenR .fn)))
def F40_e : (Int × Int × Client) → PV × List Ob := fun r => (.tup [.one (li .i64 r.1), .one (li .i64 r.2.1)], [.cells [li .i64 r.2.2.id_, li .i64 r.2.2.n, li .i64 r.2.2.session, .ptr 1000001 0, li .i64 r.2.2.asked.From, li .i64 r.2.2.asked.To, li .i64 r.2.2.asked.Kind, li .i64 r.2.2.asked.Seq, li .i64 r.2.2.asked.C.Kind, li .i64 r.2.2.asked.C.ID, li .i64 r.2.2.asked.C.Which, li .i64 r.2.2.asked.C.To, li .i64 r.2.2.asked.C.At.X, li .i64 r.2.2.asked.C.At.Y, li .i64 r.2.2.asked.C.F.a0.N, ls r.2.2.asked.C.F.a0.Text, li .i64 r.2.2.asked.C.F.a1.N, ls r.2.2.asked.C.F.a1.Text, li .i64 r.2.2.asked.C.F.a2.N, ls r.2.2.asked.C.F.a2.Text, li .i64 r.2.2.asked.C.F.a3.N, ls r.2.2.asked.C.F.a3.Text, li .i64 r.2.2.asked.C.Value.N, ls r.2.2.asked.C.Value.Text, li .i64 r.2.2.asked.C.Client, li .i64 r.2.2.asked.C.Session, li .i64 r.2.2.asked.C.Rect.X0, li .i64 r.2.2.asked.C.Rect.Y0, li .i64 r.2.2.asked.C.Rect.X1, li .i64 r.2.2.asked.C.Rect.Y1, li .i64 r.2.2.asked.E, li .i64 r.2.2.asked.ID, li .i64 r.2.2.asked.N.From, li .i64 r.2.2.asked.N.Beat, vw Thing.cod r.2.2.asked.N.Moved, vw Hand.cod r.2.2.asked.N.Hands, vw Thing.cod r.2.2.asked.N.Given, vw Command.cod r.2.2.asked.N.Watch, li .i64 r.2.2.asked.F.From, li .i64 r.2.2.asked.F.Client, li .i64 r.2.2.asked.F.Session, li .i64 r.2.2.asked.F.Start, li .i64 r.2.2.asked.F.Beat, vw Event.cod r.2.2.asked.F.Events, li .i64 r.2.2.asked.Session, li .i64 r.2.2.asked.Beat, lb r.2.2.busy, li .i64 r.2.2.seq, li .i64 r.2.2.thing, li .i64 r.2.2.e], .cells [li .i64 r.2.2.v.client, li .i64 r.2.2.v.session, li .i64 r.2.2.v.n, li .i64 r.2.2.v.beat, li .i64 r.2.2.v.start, vw Thing.cod r.2.2.v.things, .osl 1000002 1 0 (r.2.2.v.log_).length, .mp 1000003], .arr 58 Event.cod.sz 1 (r.2.2.v.log_).length (getOf Event.cod r.2.2.v.log_), .map (mapOf Key.cells Event.cod r.2.2.v.wait)])
def F40 (n : Nat) (a0 : Client) : Option (Int × Int × Client) :=
 some (a0.thing, a0.e, a0)
theorem F40_ok (n : Nat) (a0 : Client) : ∀ r, F40 n a0 = some r → D 40 [.one (.ptr 1000000 0)] [.cells [li .i64 a0.id_, li .i64 a0.n, li .i64 a0.session, .ptr 1000001 0, li .i64 a0.asked.From, li .i64 a0.asked.To, li .i64 a0.asked.Kind, li .i64 a0.asked.Seq, li .i64 a0.asked.C.Kind, li .i64 a0.asked.C.ID, li .i64 a0.asked.C.Which, li .i64 a0.asked.C.To, li .i64 a0.asked.C.At.X, li .i64 a0.asked.C.At.Y, li .i64 a0.asked.C.F.a0.N, ls a0.asked.C.F.a0.Text, li .i64 a0.asked.C.F.a1.N, ls a0.asked.C.F.a1.Text, li .i64 a0.asked.C.F.a2.N, ls a0.asked.C.F.a2.Text, li .i64 a0.asked.C.F.a3.N, ls a0.asked.C.F.a3.Text, li .i64 a0.asked.C.Value.N, ls a0.asked.C.Value.Text, li .i64 a0.asked.C.Client, li .i64 a0.asked.C.Session, li .i64 a0.asked.C.Rect.X0, li .i64 a0.asked.C.Rect.Y0, li .i64 a0.asked.C.Rect.X1, li .i64 a0.asked.C.Rect.Y1, li .i64 a0.asked.E, li .i64 a0.asked.ID, li .i64 a0.asked.N.From, li .i64 a0.asked.N.Beat, vw Thing.cod a0.asked.N.Moved, vw Hand.cod a0.asked.N.Hands, vw Thing.cod a0.asked.N.Given, vw Command.cod a0.asked.N.Watch, li .i64 a0.asked.F.From, li .i64 a0.asked.F.Client, li .i64 a0.asked.F.Session, li .i64 a0.asked.F.Start, li .i64 a0.asked.F.Beat, vw Event.cod a0.asked.F.Events, li .i64 a0.asked.Session, li .i64 a0.asked.Beat, lb a0.busy, li .i64 a0.seq, li .i64 a0.thing, li .i64 a0.e], .cells [li .i64 a0.v.client, li .i64 a0.v.session, li .i64 a0.v.n, li .i64 a0.v.beat, li .i64 a0.v.start, vw Thing.cod a0.v.things, .osl 1000002 0 0 (a0.v.log_).length, .mp 1000003], .arr 58 Event.cod.sz 0 (a0.v.log_).length (getOf Event.cod a0.v.log_), .map (mapOf Key.cells Event.cod a0.v.wait)] = some (F40_e r) := by
 refine fn_to (D := D) (n := n + 8) (nt := 12) (rs := pc40_r) (c := p40c5) (L := [(0, qp 1000000 0)]) (M := (W30 a0)) (k := 4) rfl rfl rfl rfl rfl rfl rfl ?_
 unfold F40
 exact Sim.sr 2 [(3, qj 0), (2, qj 0)] [] (.sr 10 [(3, qj a0.e), (2, qj a0.thing), (11, qj a0.e), (10, qp 1000000 49), (9, qp 1000000 0), (8, qp 1000000 0), (7, qj a0.thing), (6, qp 1000000 48), (5, qp 1000000 0), (4, qp 1000000 0)] [] (.ret .fn))
def F41_e : (Int × Client) → PV × List Ob := fun r => (.one (li .i64 r.1), [.cells [li .i64 r.2.id_, li .i64 r.2.n, li .i64 r.2.session, .ptr 1000001 0, li .i64 r.2.asked.From, li .i64 r.2.asked.To, li .i64 r.2.asked.Kind, li .i64 r.2.asked.Seq, li .i64 r.2.asked.C.Kind, li .i64 r.2.asked.C.ID, li .i64 r.2.asked.C.Which, li .i64 r.2.asked.C.To, li .i64 r.2.asked.C.At.X, li .i64 r.2.asked.C.At.Y, li .i64 r.2.asked.C.F.a0.N, ls r.2.asked.C.F.a0.Text, li .i64 r.2.asked.C.F.a1.N, ls r.2.asked.C.F.a1.Text, li .i64 r.2.asked.C.F.a2.N, ls r.2.asked.C.F.a2.Text, li .i64 r.2.asked.C.F.a3.N, ls r.2.asked.C.F.a3.Text, li .i64 r.2.asked.C.Value.N, ls r.2.asked.C.Value.Text, li .i64 r.2.asked.C.Client, li .i64 r.2.asked.C.Session, li .i64 r.2.asked.C.Rect.X0, li .i64 r.2.asked.C.Rect.Y0, li .i64 r.2.asked.C.Rect.X1, li .i64 r.2.asked.C.Rect.Y1, li .i64 r.2.asked.E, li .i64 r.2.asked.ID, li .i64 r.2.asked.N.From, li .i64 r.2.asked.N.Beat, vw Thing.cod r.2.asked.N.Moved, vw Hand.cod r.2.asked.N.Hands, vw Thing.cod r.2.asked.N.Given, vw Command.cod r.2.asked.N.Watch, li .i64 r.2.asked.F.From, li .i64 r.2.asked.F.Client, li .i64 r.2.asked.F.Session, li .i64 r.2.asked.F.Start, li .i64 r.2.asked.F.Beat, vw Event.cod r.2.asked.F.Events, li .i64 r.2.asked.Session, li .i64 r.2.asked.Beat, lb r.2.busy, li .i64 r.2.seq, li .i64 r.2.thing, li .i64 r.2.e], .cells [li .i64 r.2.v.client, li .i64 r.2.v.session, li .i64 r.2.v.n, li .i64 r.2.v.beat, li .i64 r.2.v.start, vw Thing.cod r.2.v.things, .osl 1000002 1 0 (r.2.v.log_).length, .mp 1000003], .arr 58 Event.cod.sz 1 (r.2.v.log_).length (getOf Event.cod r.2.v.log_), .map (mapOf Key.cells Event.cod r.2.v.wait)])
def F41 (n : Nat) (a0 : Client) : Option (Int × Client) :=
 some (a0.session, a0)
theorem F41_ok (n : Nat) (a0 : Client) : ∀ r, F41 n a0 = some r → D 41 [.one (.ptr 1000000 0)] [.cells [li .i64 a0.id_, li .i64 a0.n, li .i64 a0.session, .ptr 1000001 0, li .i64 a0.asked.From, li .i64 a0.asked.To, li .i64 a0.asked.Kind, li .i64 a0.asked.Seq, li .i64 a0.asked.C.Kind, li .i64 a0.asked.C.ID, li .i64 a0.asked.C.Which, li .i64 a0.asked.C.To, li .i64 a0.asked.C.At.X, li .i64 a0.asked.C.At.Y, li .i64 a0.asked.C.F.a0.N, ls a0.asked.C.F.a0.Text, li .i64 a0.asked.C.F.a1.N, ls a0.asked.C.F.a1.Text, li .i64 a0.asked.C.F.a2.N, ls a0.asked.C.F.a2.Text, li .i64 a0.asked.C.F.a3.N, ls a0.asked.C.F.a3.Text, li .i64 a0.asked.C.Value.N, ls a0.asked.C.Value.Text, li .i64 a0.asked.C.Client, li .i64 a0.asked.C.Session, li .i64 a0.asked.C.Rect.X0, li .i64 a0.asked.C.Rect.Y0, li .i64 a0.asked.C.Rect.X1, li .i64 a0.asked.C.Rect.Y1, li .i64 a0.asked.E, li .i64 a0.asked.ID, li .i64 a0.asked.N.From, li .i64 a0.asked.N.Beat, vw Thing.cod a0.asked.N.Moved, vw Hand.cod a0.asked.N.Hands, vw Thing.cod a0.asked.N.Given, vw Command.cod a0.asked.N.Watch, li .i64 a0.asked.F.From, li .i64 a0.asked.F.Client, li .i64 a0.asked.F.Session, li .i64 a0.asked.F.Start, li .i64 a0.asked.F.Beat, vw Event.cod a0.asked.F.Events, li .i64 a0.asked.Session, li .i64 a0.asked.Beat, lb a0.busy, li .i64 a0.seq, li .i64 a0.thing, li .i64 a0.e], .cells [li .i64 a0.v.client, li .i64 a0.v.session, li .i64 a0.v.n, li .i64 a0.v.beat, li .i64 a0.v.start, vw Thing.cod a0.v.things, .osl 1000002 0 0 (a0.v.log_).length, .mp 1000003], .arr 58 Event.cod.sz 0 (a0.v.log_).length (getOf Event.cod a0.v.log_), .map (mapOf Key.cells Event.cod a0.v.wait)] = some (F41_e r) := by
 refine fn_to (D := D) (n := n + 8) (nt := 7) (rs := pc41_r) (c := p41c5) (L := [(0, qp 1000000 0)]) (M := (W30 a0)) (k := 4) rfl rfl rfl rfl rfl rfl rfl ?_
 unfold F41
 exact Sim.sr 1 [(2, qj 0)] [] (.sr 5 [(2, qj a0.session), (6, qj a0.session), (5, qp 1000000 2), (4, qp 1000000 0), (3, qp 1000000 0)] [] (.ret .fn))
def F42s0_e (a0 : (List Event)) (a1 a2 a3 a4 a5 a6 a7 a8 a9 a10 a11 a12 a13 a14 : Int) (a15 : ByteArray) (a16 : Int) (a17 : ByteArray) (a18 : Int) (a19 : ByteArray) (a20 : Int) (a21 : ByteArray) (a22 : Int) (a23 : ByteArray) (a24 a25 a26 a27 a28 a29 a30 a31 a32 a33 : Int) (a34 : (List Thing)) (a35 : (List Hand)) (a36 : (List Thing)) (a37 : (List Command)) (a38 a39 a40 a41 a42 : Int) (a43 : (List Event)) (a44 a45 : Int) (a46 : Bool) (a47 a48 a49 a50 a51 a52 a53 a54 : Int) (a55 : (List Thing)) (a56 : (List (Key × (List Event)))) : Unit → PV × List Ob := fun r => (.one (.ptr 1000001 0), [.cells [li .i64 a1, li .i64 a2, li .i64 a3, .ptr 1000001 0, li .i64 a4, li .i64 a5, li .i64 a6, li .i64 a7, li .i64 a8, li .i64 a9, li .i64 a10, li .i64 a11, li .i64 a12, li .i64 a13, li .i64 a14, ls a15, li .i64 a16, ls a17, li .i64 a18, ls a19, li .i64 a20, ls a21, li .i64 a22, ls a23, li .i64 a24, li .i64 a25, li .i64 a26, li .i64 a27, li .i64 a28, li .i64 a29, li .i64 a30, li .i64 a31, li .i64 a32, li .i64 a33, vw Thing.cod a34, vw Hand.cod a35, vw Thing.cod a36, vw Command.cod a37, li .i64 a38, li .i64 a39, li .i64 a40, li .i64 a41, li .i64 a42, vw Event.cod a43, li .i64 a44, li .i64 a45, lb a46, li .i64 a47, li .i64 a48, li .i64 a49], .cells [li .i64 a50, li .i64 a51, li .i64 a52, li .i64 a53, li .i64 a54, vw Thing.cod a55, .osl 1000002 1 0 (a0).length, .mp 1000003], .arr 58 Event.cod.sz 1 (a0).length (getOf Event.cod a0), .map (mapOf Key.cells Event.cod a56)])
def F42s0 (n : Nat) (a0 : (List Event)) (a1 a2 a3 a4 a5 a6 a7 a8 a9 a10 a11 a12 a13 a14 : Int) (a15 : ByteArray) (a16 : Int) (a17 : ByteArray) (a18 : Int) (a19 : ByteArray) (a20 : Int) (a21 : ByteArray) (a22 : Int) (a23 : ByteArray) (a24 a25 a26 a27 a28 a29 a30 a31 a32 a33 : Int) (a34 : (List Thing)) (a35 : (List Hand)) (a36 : (List Thing)) (a37 : (List Command)) (a38 a39 a40 a41 a42 : Int) (a43 : (List Event)) (a44 a45 : Int) (a46 : Bool) (a47 a48 a49 a50 a51 a52 a53 a54 : Int) (a55 : (List Thing)) (a56 : (List (Key × (List Event)))) : Option Unit :=
 some ()
theorem F42s0_ok (n : Nat) (a0 : (List Event)) (a1 a2 a3 a4 a5 a6 a7 a8 a9 a10 a11 a12 a13 a14 : Int) (a15 : ByteArray) (a16 : Int) (a17 : ByteArray) (a18 : Int) (a19 : ByteArray) (a20 : Int) (a21 : ByteArray) (a22 : Int) (a23 : ByteArray) (a24 a25 a26 a27 a28 a29 a30 a31 a32 a33 : Int) (a34 : (List Thing)) (a35 : (List Hand)) (a36 : (List Thing)) (a37 : (List Command)) (a38 a39 a40 a41 a42 : Int) (a43 : (List Event)) (a44 a45 : Int) (a46 : Bool) (a47 a48 a49 a50 a51 a52 a53 a54 : Int) (a55 : (List Thing)) (a56 : (List (Key × (List Event)))) : ∀ r, F42s0 n a0 a1 a2 a3 a4 a5 a6 a7 a8 a9 a10 a11 a12 a13 a14 a15 a16 a17 a18 a19 a20 a21 a22 a23 a24 a25 a26 a27 a28 a29 a30 a31 a32 a33 a34 a35 a36 a37 a38 a39 a40 a41 a42 a43 a44 a45 a46 a47 a48 a49 a50 a51 a52 a53 a54 a55 a56 = some r → D 42 [.one (.ptr 1000000 0)] [.cells [li .i64 a1, li .i64 a2, li .i64 a3, .ptr 1000001 0, li .i64 a4, li .i64 a5, li .i64 a6, li .i64 a7, li .i64 a8, li .i64 a9, li .i64 a10, li .i64 a11, li .i64 a12, li .i64 a13, li .i64 a14, ls a15, li .i64 a16, ls a17, li .i64 a18, ls a19, li .i64 a20, ls a21, li .i64 a22, ls a23, li .i64 a24, li .i64 a25, li .i64 a26, li .i64 a27, li .i64 a28, li .i64 a29, li .i64 a30, li .i64 a31, li .i64 a32, li .i64 a33, vw Thing.cod a34, vw Hand.cod a35, vw Thing.cod a36, vw Command.cod a37, li .i64 a38, li .i64 a39, li .i64 a40, li .i64 a41, li .i64 a42, vw Event.cod a43, li .i64 a44, li .i64 a45, lb a46, li .i64 a47, li .i64 a48, li .i64 a49], .cells [li .i64 a50, li .i64 a51, li .i64 a52, li .i64 a53, li .i64 a54, vw Thing.cod a55, .osl 1000002 0 0 (a0).length, .mp 1000003], .arr 58 Event.cod.sz 0 (a0).length (getOf Event.cod a0), .map (mapOf Key.cells Event.cod a56)] = some ((F42s0_e a0 a1 a2 a3 a4 a5 a6 a7 a8 a9 a10 a11 a12 a13 a14 a15 a16 a17 a18 a19 a20 a21 a22 a23 a24 a25 a26 a27 a28 a29 a30 a31 a32 a33 a34 a35 a36 a37 a38 a39 a40 a41 a42 a43 a44 a45 a46 a47 a48 a49 a50 a51 a52 a53 a54 a55 a56) r) := by
 refine fn_to (D := D) (n := n + 8) (nt := 7) (rs := pc42_r) (c := p42c5) (L := [(0, qp 1000000 0)]) (M := [(1000000, some (.cells [lj a1, lj a2, lj a3, .ptr 1000001 0, lj a4, lj a5, lj a6, lj a7, lj a8, lj a9, lj a10, lj a11, lj a12, lj a13, lj a14, ls a15, lj a16, ls a17, lj a18, ls a19, lj a20, ls a21, lj a22, ls a23, lj a24, lj a25, lj a26, lj a27, lj a28, lj a29, lj a30, lj a31, lj a32, lj a33, vw Thing.cod a34, vw Hand.cod a35, vw Thing.cod a36, vw Command.cod a37, lj a38, lj a39, lj a40, lj a41, lj a42, vw Event.cod a43, lj a44, lj a45, lb a46, lj a47, lj a48, lj a49])), (1000001, some (.cells [lj a50, lj a51, lj a52, lj a53, lj a54, vw Thing.cod a55, .osl 1000002 0 0 (a0).length, .mp 1000003])), (1000002, some (.arr 58 Event.cod.sz 0 (a0).length (getOf Event.cod a0))), (1000003, some (.map (mapOf Key.cells Event.cod a56)))]) (k := 4) rfl rfl rfl rfl rfl rfl rfl ?_
 unfold F42s0
 exact Sim.sr 1 [(2, .one (.val (.pointer none)))] [] (.sr 5 [(2, qp 1000001 0), (6, qp 1000001 0), (5, qp 1000000 3), (4, qp 1000000 0), (3, qp 1000000 0)] [] (.ret .fn))
theorem F25_ok (n : Nat) : ∀ r, (some true : Option Bool) = some r → D 25 [] [] = some (.one (lb r), []) := by
 rintro _ ⟨⟩
 exact all_of (N := 60) (by kernel_rfl)
end Go.Proofs.Ythdabpmcojmhhaa
