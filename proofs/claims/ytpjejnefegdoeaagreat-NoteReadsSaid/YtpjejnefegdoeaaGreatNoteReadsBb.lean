/- No condition. -/
import Derived.Test.YtpjejnefegdoeaaGreatProg
import Derived.Test.YtpjejnefegdoeaaGreatRxBb
namespace Go.Proofs.YtpjejnefegdoeaaGreat
open Go Go.Rx Go.Proofs
set_option maxRecDepth 100000
def lays166_ren : Go.Shelf.Ren := ⟨fun | 166 => 17 | 240 => 41 | 276 => 72 | n => n, fun | 70 => 59 | 9 => 9 | 3 => 3 | 75 => 63 | 0 => 0 | 72 => 61 | 37 => 35 | 4 => 4 | 164 => 122 | 80 => 70 | 5 => 5 | n => n, fun | n => n⟩
theorem lays166 : Go.Proofs.Lays.n166 Tryz.prog lays166_ren where
 mixed := by kernel_rfl
 f166 := Tryz.func17.trans (congrArg some (by kernel_rfl))
 f240 := Tryz.func41.trans (congrArg some (by kernel_rfl))
 f276 := Tryz.func72.trans (congrArg some (by kernel_rfl))
 t0 := Tryz.underlying0
 a0 := Tryz.isAgg0
 z0 := Tryz.sizeOf0
 v0 := Tryz.zeroValue0
 t3 := Tryz.underlying3
 a3 := Tryz.isAgg3
 z3 := Tryz.sizeOf3
 v3 := Tryz.zeroValue3
 t4 := Tryz.underlying4
 a4 := Tryz.isAgg4
 z4 := Tryz.sizeOf4
 v4 := Tryz.zeroValue4
 t9 := Tryz.underlying9
 a9 := Tryz.isAgg9
 z9 := Tryz.sizeOf9
 v9 := Tryz.zeroValue9
 t20 := Tryz.underlying20
 a20 := Tryz.isAgg20
 z20 := Tryz.sizeOf20
 v20 := Tryz.zeroValue20
 t37 := Tryz.underlying35
 a37 := Tryz.isAgg35
 z37 := Tryz.sizeOf35
 v37 := Tryz.zeroValue35
 t70 := Tryz.underlying59
 a70 := Tryz.isAgg59
 z70 := Tryz.sizeOf59
 v70 := Tryz.zeroValue59
 t72 := Tryz.underlying61
 a72 := Tryz.isAgg61
 z72 := Tryz.sizeOf61
 v72 := Tryz.zeroValue61
 t75 := Tryz.underlying63
 a75 := Tryz.isAgg63
 z75 := Tryz.sizeOf63
 v75 := Tryz.zeroValue63
 t164 := Tryz.underlying122
 a164 := Tryz.isAgg122
 z164 := Tryz.sizeOf122
 v164 := Tryz.zeroValue122
def lays169_ren : Go.Shelf.Ren := ⟨fun | 169 => 22 | n => n, fun | 70 => 59 | 9 => 9 | 0 => 0 | 72 => 61 | 37 => 35 | 127 => 98 | 3 => 3 | 5 => 5 | n => n, fun | n => n⟩
theorem lays169 : Go.Proofs.Lays.n169 Tryz.prog lays169_ren where
 mixed := by kernel_rfl
 f169 := Tryz.func22.trans (congrArg some (by kernel_rfl))
 t0 := Tryz.underlying0
 a0 := Tryz.isAgg0
 z0 := Tryz.sizeOf0
 v0 := Tryz.zeroValue0
 t3 := Tryz.underlying3
 a3 := Tryz.isAgg3
 z3 := Tryz.sizeOf3
 v3 := Tryz.zeroValue3
 t9 := Tryz.underlying9
 a9 := Tryz.isAgg9
 z9 := Tryz.sizeOf9
 v9 := Tryz.zeroValue9
 t37 := Tryz.underlying35
 a37 := Tryz.isAgg35
 z37 := Tryz.sizeOf35
 v37 := Tryz.zeroValue35
 t70 := Tryz.underlying59
 a70 := Tryz.isAgg59
 z70 := Tryz.sizeOf59
 v70 := Tryz.zeroValue59
 t72 := Tryz.underlying61
 a72 := Tryz.isAgg61
 z72 := Tryz.sizeOf61
 v72 := Tryz.zeroValue61
 t127 := Tryz.underlying98
 a127 := Tryz.isAgg98
 z127 := Tryz.sizeOf98
 v127 := Tryz.zeroValue98
theorem extra166 : Builder.Extra Tryz.prog lays166_ren where
 sizeBuilder := by kernel_rfl
 liesBuilder := by kernel_rfl
 t5 := Tryz.underlying5
 a5 := Tryz.isAgg5
 z5 := Tryz.sizeOf5
 v5 := Tryz.zeroValue5
 infoByte := by kernel_rfl
 cellsByte := by kernel_rfl
 sizeByte := by kernel_rfl
 neB5 := by decide
theorem extra169 : Builder.Extra Tryz.prog lays169_ren where
 sizeBuilder := by kernel_rfl
 liesBuilder := by kernel_rfl
 t5 := Tryz.underlying5
 a5 := Tryz.isAgg5
 z5 := Tryz.sizeOf5
 v5 := Tryz.zeroValue5
 infoByte := by kernel_rfl
 cellsByte := by kernel_rfl
 sizeByte := by kernel_rfl
 neB5 := by decide
def Bb : Oracle := bldO 61 5 17 22
theorem eq_f166 : lays166_ren.f 166 = 17 := rfl
theorem eq_t166 : lays166_ren.t 72 = 61 := rfl
theorem eq_b166 : lays166_ren.t 5 = 5 := rfl
theorem eq_f169 : lays169_ren.f 169 = 22 := rfl
theorem eq_t169 : lays169_ren.t 72 = 61 := rfl
theorem eq_b169 : lays169_ren.t 5 = 5 := rfl
theorem bldW_ok : Meets Tryz.prog (bldW 61 5 17) := by
 have h := bldW_meets (Nat.le_of_ble_eq_true (by kernel_rfl)) ⟨_, lays166.f166, by kernel_rfl, by kernel_rfl⟩ lays166 extra166
 rw [eq_f166, eq_t166, eq_b166] at h
 exact h
theorem bldS_ok : Meets Tryz.prog (bldS 61 5 22) := by
 have h := bldS_meets (Nat.le_of_ble_eq_true (by kernel_rfl)) ⟨_, lays169.f169, by kernel_rfl, by kernel_rfl⟩ lays169 extra169
 rw [eq_f169, eq_t169, eq_b169] at h
 exact h
theorem Bb_meets : Meets Tryz.prog Bb := bld_meets bldW_ok bldS_ok
end Go.Proofs.YtpjejnefegdoeaaGreat
