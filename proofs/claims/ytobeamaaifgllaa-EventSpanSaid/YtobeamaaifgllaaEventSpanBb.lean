/- No condition. -/
import Derived.Test.YtobeamaaifgllaaProg
import Derived.Test.YtobeamaaifgllaaRxBb
namespace Go.Proofs.Ytobeamaaifgllaa
open Go Go.Rx Go.Proofs
set_option maxRecDepth 100000
def lays166_ren : Go.Shelf.Ren := ⟨fun | 166 => 64 | 240 => 102 | 276 => 115 | n => n, fun | 70 => 94 | 9 => 9 | 3 => 3 | 75 => 98 | 0 => 0 | 72 => 96 | 37 => 84 | 4 => 4 | 164 => 150 | 80 => 101 | 5 => 5 | n => n, fun | n => n⟩
theorem lays166 : Go.Proofs.Lays.n166 Try.prog lays166_ren where
 mixed := by kernel_rfl
 f166 := Try.func64.trans (congrArg some (by kernel_rfl))
 f240 := Try.func102.trans (congrArg some (by kernel_rfl))
 f276 := Try.func115.trans (congrArg some (by kernel_rfl))
 t0 := Try.underlying0
 a0 := Try.isAgg0
 z0 := Try.sizeOf0
 v0 := Try.zeroValue0
 t3 := Try.underlying3
 a3 := Try.isAgg3
 z3 := Try.sizeOf3
 v3 := Try.zeroValue3
 t4 := Try.underlying4
 a4 := Try.isAgg4
 z4 := Try.sizeOf4
 v4 := Try.zeroValue4
 t9 := Try.underlying9
 a9 := Try.isAgg9
 z9 := Try.sizeOf9
 v9 := Try.zeroValue9
 t20 := Try.underlying20
 a20 := Try.isAgg20
 z20 := Try.sizeOf20
 v20 := Try.zeroValue20
 t37 := Try.underlying84
 a37 := Try.isAgg84
 z37 := Try.sizeOf84
 v37 := Try.zeroValue84
 t70 := Try.underlying94
 a70 := Try.isAgg94
 z70 := Try.sizeOf94
 v70 := Try.zeroValue94
 t72 := Try.underlying96
 a72 := Try.isAgg96
 z72 := Try.sizeOf96
 v72 := Try.zeroValue96
 t75 := Try.underlying98
 a75 := Try.isAgg98
 z75 := Try.sizeOf98
 v75 := Try.zeroValue98
 t164 := Try.underlying150
 a164 := Try.isAgg150
 z164 := Try.sizeOf150
 v164 := Try.zeroValue150
def lays169_ren : Go.Shelf.Ren := ⟨fun | 169 => 66 | n => n, fun | 70 => 94 | 9 => 9 | 0 => 0 | 72 => 96 | 37 => 84 | 127 => 134 | 3 => 3 | 5 => 5 | n => n, fun | n => n⟩
theorem lays169 : Go.Proofs.Lays.n169 Try.prog lays169_ren where
 mixed := by kernel_rfl
 f169 := Try.func66.trans (congrArg some (by kernel_rfl))
 t0 := Try.underlying0
 a0 := Try.isAgg0
 z0 := Try.sizeOf0
 v0 := Try.zeroValue0
 t3 := Try.underlying3
 a3 := Try.isAgg3
 z3 := Try.sizeOf3
 v3 := Try.zeroValue3
 t9 := Try.underlying9
 a9 := Try.isAgg9
 z9 := Try.sizeOf9
 v9 := Try.zeroValue9
 t37 := Try.underlying84
 a37 := Try.isAgg84
 z37 := Try.sizeOf84
 v37 := Try.zeroValue84
 t70 := Try.underlying94
 a70 := Try.isAgg94
 z70 := Try.sizeOf94
 v70 := Try.zeroValue94
 t72 := Try.underlying96
 a72 := Try.isAgg96
 z72 := Try.sizeOf96
 v72 := Try.zeroValue96
 t127 := Try.underlying134
 a127 := Try.isAgg134
 z127 := Try.sizeOf134
 v127 := Try.zeroValue134
theorem extra166 : Builder.Extra Try.prog lays166_ren where
 sizeBuilder := by kernel_rfl
 liesBuilder := by kernel_rfl
 t5 := Try.underlying5
 a5 := Try.isAgg5
 z5 := Try.sizeOf5
 v5 := Try.zeroValue5
 infoByte := by kernel_rfl
 cellsByte := by kernel_rfl
 sizeByte := by kernel_rfl
 neB5 := by decide
theorem extra169 : Builder.Extra Try.prog lays169_ren where
 sizeBuilder := by kernel_rfl
 liesBuilder := by kernel_rfl
 t5 := Try.underlying5
 a5 := Try.isAgg5
 z5 := Try.sizeOf5
 v5 := Try.zeroValue5
 infoByte := by kernel_rfl
 cellsByte := by kernel_rfl
 sizeByte := by kernel_rfl
 neB5 := by decide
def Bb : Oracle := bldO 96 5 64 66
theorem eq_f166 : lays166_ren.f 166 = 64 := rfl
theorem eq_t166 : lays166_ren.t 72 = 96 := rfl
theorem eq_b166 : lays166_ren.t 5 = 5 := rfl
theorem eq_f169 : lays169_ren.f 169 = 66 := rfl
theorem eq_t169 : lays169_ren.t 72 = 96 := rfl
theorem eq_b169 : lays169_ren.t 5 = 5 := rfl
theorem bldW_ok : Meets Try.prog (bldW 96 5 64) := by
 have h := bldW_meets (Nat.le_of_ble_eq_true (by kernel_rfl)) ⟨_, lays166.f166, by kernel_rfl, by kernel_rfl⟩ lays166 extra166
 rw [eq_f166, eq_t166, eq_b166] at h
 exact h
theorem bldS_ok : Meets Try.prog (bldS 96 5 66) := by
 have h := bldS_meets (Nat.le_of_ble_eq_true (by kernel_rfl)) ⟨_, lays169.f169, by kernel_rfl, by kernel_rfl⟩ lays169 extra169
 rw [eq_f169, eq_t169, eq_b169] at h
 exact h
theorem Bb_meets : Meets Try.prog Bb := bld_meets bldW_ok bldS_ok
end Go.Proofs.Ytobeamaaifgllaa
