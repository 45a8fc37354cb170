/-
  A part of the proof.
-/
import Derived.Test.YtpoocfmphcgmkaaGreatProg
import Derived.Test.YtpoocfmphcgmkaaGreatBre7
set_option linter.unusedVariables false
set_option linter.unusedSimpArgs false
set_option linter.unusedSimpArgs false
set_option linter.unusedVariables false
namespace Go.Mt
open Go Go.Pm Go.Proofs
@[go_sem] theorem ty1 : TY Tryz.prog 1 = some ⟨1, 8, false, [.nilFunc], 0, [], false, false⟩ := by kernel_rfl
@[go_sem] theorem ty2 : TY Tryz.prog 2 = some ⟨1, 8, false, [.int .i64 0], 0, [], false, false⟩ := by kernel_rfl
@[go_sem] theorem kd2 : kindOf Tryz.prog 2 = some .i64 := by kernel_rfl
@[go_sem] theorem ty3 : TY Tryz.prog 3 = some ⟨1, 8, false, [.int .i64 0], 0, [], false, false⟩ := by kernel_rfl
@[go_sem] theorem kd3 : kindOf Tryz.prog 3 = some .i64 := by kernel_rfl
@[go_sem] theorem ty4 : TY Tryz.prog 4 = some ⟨1, 1, false, [.bool false], 0, [], false, false⟩ := by kernel_rfl
@[go_sem] theorem bl4 : isBool Tryz.prog 4 = true := by kernel_rfl
@[go_sem] theorem ty5 : TY Tryz.prog 5 = some ⟨1, 1, false, [.int .u8 0], 0, [], false, false⟩ := by kernel_rfl
@[go_sem] theorem kd5 : kindOf Tryz.prog 5 = some .u8 := by kernel_rfl
@[go_sem] theorem ty6 : TY Tryz.prog 6 = some ⟨1, 1, false, [.int .u8 0], 0, [], false, false⟩ := by kernel_rfl
@[go_sem] theorem kd6 : kindOf Tryz.prog 6 = some .u8 := by kernel_rfl
@[go_sem] theorem ty7 : TY Tryz.prog 7 = some ⟨4, 24, true, [.int .i64 0, .int .i64 0, .bool false, .int .u8 0], 0, [(0, 1), (1, 1), (2, 1), (3, 1)], false, false⟩ := by kernel_rfl
@[go_sem] theorem fo7_0 : fldOf Tryz.prog 7 0 = some (0, ⟨1, 8, false, [.int .i64 0], 0, [], false, false⟩) := by kernel_rfl
@[go_sem] theorem fo7_1 : fldOf Tryz.prog 7 1 = some (1, ⟨1, 8, false, [.int .i64 0], 0, [], false, false⟩) := by kernel_rfl
@[go_sem] theorem fo7_2 : fldOf Tryz.prog 7 2 = some (2, ⟨1, 1, false, [.bool false], 0, [], false, false⟩) := by kernel_rfl
@[go_sem] theorem fo7_3 : fldOf Tryz.prog 7 3 = some (3, ⟨1, 1, false, [.int .u8 0], 0, [], false, false⟩) := by kernel_rfl
@[go_sem] theorem ty8 : TY Tryz.prog 8 = some ⟨4, 24, true, [.int .i64 0, .int .i64 0, .bool false, .int .u8 0], 0, [(0, 1), (1, 1), (2, 1), (3, 1)], false, false⟩ := by kernel_rfl
@[go_sem] theorem fo8_0 : fldOf Tryz.prog 8 0 = some (0, ⟨1, 8, false, [.int .i64 0], 0, [], false, false⟩) := by kernel_rfl
@[go_sem] theorem fo8_1 : fldOf Tryz.prog 8 1 = some (1, ⟨1, 8, false, [.int .i64 0], 0, [], false, false⟩) := by kernel_rfl
@[go_sem] theorem fo8_2 : fldOf Tryz.prog 8 2 = some (2, ⟨1, 1, false, [.bool false], 0, [], false, false⟩) := by kernel_rfl
@[go_sem] theorem fo8_3 : fldOf Tryz.prog 8 3 = some (3, ⟨1, 1, false, [.int .u8 0], 0, [], false, false⟩) := by kernel_rfl
@[go_sem] theorem ty12 : TY Tryz.prog 12 = some ⟨1, 8, false, [.int .u64 0], 0, [], false, false⟩ := by kernel_rfl
@[go_sem] theorem kd12 : kindOf Tryz.prog 12 = some .u64 := by kernel_rfl
@[go_sem] theorem ty15 : TY Tryz.prog 15 = some ⟨1, 8, false, [.pointer none], 0, [], false, false⟩ := by kernel_rfl
@[go_sem] theorem ty16 : TY Tryz.prog 16 = some ⟨1, 8, false, [.pointer none], 0, [], false, false⟩ := by kernel_rfl
@[go_sem] theorem ty17 : TY Tryz.prog 17 = some ⟨1, 8, false, [.pointer none], 0, [], false, false⟩ := by kernel_rfl
@[go_sem] theorem ty18 : TY Tryz.prog 18 = some ⟨1, 8, true, [.pointer none], 0, [(0, 1)], false, false⟩ := by kernel_rfl
@[go_sem] theorem fo18_0 : fldOf Tryz.prog 18 0 = some (0, ⟨1, 8, false, [.pointer none], 0, [], false, false⟩) := by kernel_rfl
@[go_sem] theorem ty19 : TY Tryz.prog 19 = some ⟨1, 8, true, [.pointer none], 0, [(0, 1)], false, false⟩ := by kernel_rfl
@[go_sem] theorem fo19_0 : fldOf Tryz.prog 19 0 = some (0, ⟨1, 8, false, [.pointer none], 0, [], false, false⟩) := by kernel_rfl
@[go_sem] theorem ty21 : TY Tryz.prog 21 = some ⟨1, 4, false, [.int .i32 0], 0, [], false, false⟩ := by kernel_rfl
@[go_sem] theorem kd21 : kindOf Tryz.prog 21 = some .i32 := by kernel_rfl
@[go_sem] theorem ty22 : TY Tryz.prog 22 = some ⟨1, 24, false, [.slice none 0 0], 29, [], false, true⟩ := by kernel_rfl
@[go_sem] theorem ty23 : TY Tryz.prog 23 = some ⟨1, 24, false, [.slice none 0 0], 190, [], false, true⟩ := by kernel_rfl
@[go_sem] theorem ty24 : TY Tryz.prog 24 = some ⟨1, 24, false, [.slice none 0 0], 190, [], false, true⟩ := by kernel_rfl
@[go_sem] theorem ty25 : TY Tryz.prog 25 = some ⟨2, 32, true, [.bool false, .slice none 0 0], 0, [(0, 1), (1, 1)], false, false⟩ := by kernel_rfl
@[go_sem] theorem fo25_0 : fldOf Tryz.prog 25 0 = some (0, ⟨1, 1, false, [.bool false], 0, [], false, false⟩) := by kernel_rfl
@[go_sem] theorem fo25_1 : fldOf Tryz.prog 25 1 = some (1, ⟨1, 24, false, [.slice none 0 0], 190, [], false, true⟩) := by kernel_rfl
@[go_sem] theorem ty26 : TY Tryz.prog 26 = some ⟨2, 32, true, [.bool false, .slice none 0 0], 0, [(0, 1), (1, 1)], false, false⟩ := by kernel_rfl
@[go_sem] theorem fo26_0 : fldOf Tryz.prog 26 0 = some (0, ⟨1, 1, false, [.bool false], 0, [], false, false⟩) := by kernel_rfl
@[go_sem] theorem fo26_1 : fldOf Tryz.prog 26 1 = some (1, ⟨1, 24, false, [.slice none 0 0], 190, [], false, true⟩) := by kernel_rfl
@[go_sem] theorem ty27 : TY Tryz.prog 27 = some ⟨1, 24, false, [.slice none 0 0], 26, [], false, true⟩ := by kernel_rfl
@[go_sem] theorem ty28 : TY Tryz.prog 28 = some ⟨3, 56, true, [.bool false, .slice none 0 0, .slice none 0 0], 0, [(0, 2), (2, 1)], false, false⟩ := by kernel_rfl
@[go_sem] theorem fo28_0 : fldOf Tryz.prog 28 0 = some (0, ⟨2, 32, true, [.bool false, .slice none 0 0], 0, [(0, 1), (1, 1)], false, false⟩) := by kernel_rfl
@[go_sem] theorem fo28_1 : fldOf Tryz.prog 28 1 = some (2, ⟨1, 24, false, [.slice none 0 0], 26, [], false, true⟩) := by kernel_rfl
@[go_sem] theorem ty29 : TY Tryz.prog 29 = some ⟨3, 56, true, [.bool false, .slice none 0 0, .slice none 0 0], 0, [(0, 2), (2, 1)], false, false⟩ := by kernel_rfl
@[go_sem] theorem fo29_0 : fldOf Tryz.prog 29 0 = some (0, ⟨2, 32, true, [.bool false, .slice none 0 0], 0, [(0, 1), (1, 1)], false, false⟩) := by kernel_rfl
@[go_sem] theorem fo29_1 : fldOf Tryz.prog 29 1 = some (2, ⟨1, 24, false, [.slice none 0 0], 26, [], false, true⟩) := by kernel_rfl
@[go_sem] theorem ty30 : TY Tryz.prog 30 = some ⟨1, 8, false, [.nilFunc], 0, [], false, false⟩ := by kernel_rfl
@[go_sem] theorem ty31 : TY Tryz.prog 31 = some ⟨1, 24, false, [.slice none 0 0], 27, [], false, true⟩ := by kernel_rfl
@[go_sem] theorem ty32 : TY Tryz.prog 32 = some ⟨3, 56, true, [.bool false, .slice none 0 0, .slice none 0 0], 0, [(0, 2), (2, 1)], false, false⟩ := by kernel_rfl
@[go_sem] theorem fo32_0 : fldOf Tryz.prog 32 0 = some (0, ⟨2, 32, true, [.bool false, .slice none 0 0], 0, [(0, 1), (1, 1)], false, false⟩) := by kernel_rfl
@[go_sem] theorem fo32_1 : fldOf Tryz.prog 32 1 = some (2, ⟨1, 24, false, [.slice none 0 0], 27, [], false, true⟩) := by kernel_rfl
@[go_sem] theorem ty33 : TY Tryz.prog 33 = some ⟨3, 56, true, [.bool false, .slice none 0 0, .slice none 0 0], 0, [(0, 2), (2, 1)], false, false⟩ := by kernel_rfl
@[go_sem] theorem fo33_0 : fldOf Tryz.prog 33 0 = some (0, ⟨2, 32, true, [.bool false, .slice none 0 0], 0, [(0, 1), (1, 1)], false, false⟩) := by kernel_rfl
@[go_sem] theorem fo33_1 : fldOf Tryz.prog 33 1 = some (2, ⟨1, 24, false, [.slice none 0 0], 27, [], false, true⟩) := by kernel_rfl
@[go_sem] theorem ty34 : TY Tryz.prog 34 = some ⟨4, 64, true, [.int .i64 0, .bool false, .slice none 0 0, .slice none 0 0], 0, [(0, 1), (1, 3)], false, false⟩ := by kernel_rfl
@[go_sem] theorem fo34_0 : fldOf Tryz.prog 34 0 = some (0, ⟨1, 8, false, [.int .i64 0], 0, [], false, false⟩) := by kernel_rfl
@[go_sem] theorem fo34_1 : fldOf Tryz.prog 34 1 = some (1, ⟨3, 56, true, [.bool false, .slice none 0 0, .slice none 0 0], 0, [(0, 2), (2, 1)], false, false⟩) := by kernel_rfl
@[go_sem] theorem ty35 : TY Tryz.prog 35 = some ⟨4, 64, true, [.int .i64 0, .bool false, .slice none 0 0, .slice none 0 0], 0, [(0, 1), (1, 3)], false, false⟩ := by kernel_rfl
@[go_sem] theorem fo35_0 : fldOf Tryz.prog 35 0 = some (0, ⟨1, 8, false, [.int .i64 0], 0, [], false, false⟩) := by kernel_rfl
@[go_sem] theorem fo35_1 : fldOf Tryz.prog 35 1 = some (1, ⟨3, 56, true, [.bool false, .slice none 0 0, .slice none 0 0], 0, [(0, 2), (2, 1)], false, false⟩) := by kernel_rfl
@[go_sem] theorem ty36 : TY Tryz.prog 36 = some ⟨1, 8, false, [.int .i64 0], 0, [], false, false⟩ := by kernel_rfl
@[go_sem] theorem kd36 : kindOf Tryz.prog 36 = some .i64 := by kernel_rfl
@[go_sem] theorem ty38 : TY Tryz.prog 38 = some ⟨1, 8, false, [.nilFunc], 0, [], false, false⟩ := by kernel_rfl
@[go_sem] theorem ty40 : TY Tryz.prog 40 = some ⟨1, 8, false, [.nilFunc], 0, [], false, false⟩ := by kernel_rfl
@[go_sem] theorem ty41 : TY Tryz.prog 41 = some ⟨1, 8, false, [.nilFunc], 0, [], false, false⟩ := by kernel_rfl
@[go_sem] theorem ty42 : TY Tryz.prog 42 = some ⟨1, 8, false, [.nilFunc], 0, [], false, false⟩ := by kernel_rfl
@[go_sem] theorem ty43 : TY Tryz.prog 43 = some ⟨1, 8, false, [.nilFunc], 0, [], false, false⟩ := by kernel_rfl
@[go_sem] theorem ty44 : TY Tryz.prog 44 = some ⟨1, 8, false, [.nilFunc], 0, [], false, false⟩ := by kernel_rfl
@[go_sem] theorem ty45 : TY Tryz.prog 45 = some ⟨1, 8, false, [.nilFunc], 0, [], false, false⟩ := by kernel_rfl
@[go_sem] theorem ty46 : TY Tryz.prog 46 = some ⟨1, 24, false, [.slice none 0 0], 80, [], false, true⟩ := by kernel_rfl
@[go_sem] theorem ty47 : TY Tryz.prog 47 = some ⟨1, 8, false, [.nilFunc], 0, [], false, false⟩ := by kernel_rfl
@[go_sem] theorem ty48 : TY Tryz.prog 48 = some ⟨1, 8, false, [.nilFunc], 0, [], false, false⟩ := by kernel_rfl
@[go_sem] theorem ty49 : TY Tryz.prog 49 = some ⟨1, 8, false, [.nilFunc], 0, [], false, false⟩ := by kernel_rfl
@[go_sem] theorem ty50 : TY Tryz.prog 50 = some ⟨1, 8, false, [.nilFunc], 0, [], false, false⟩ := by kernel_rfl
@[go_sem] theorem ty51 : TY Tryz.prog 51 = some ⟨1, 8, false, [.nilFunc], 0, [], false, false⟩ := by kernel_rfl
@[go_sem] theorem ty52 : TY Tryz.prog 52 = some ⟨1, 8, false, [.nilFunc], 0, [], false, false⟩ := by kernel_rfl
@[go_sem] theorem ty54 : TY Tryz.prog 54 = some ⟨1, 8, false, [.nilFunc], 0, [], false, false⟩ := by kernel_rfl
@[go_sem] theorem ty55 : TY Tryz.prog 55 = some ⟨4, 64, true, [.bool false, .slice none 0 0, .bool false, .slice none 0 0], 0, [(0, 2), (2, 2)], false, false⟩ := by kernel_rfl
@[go_sem] theorem fo55_0 : fldOf Tryz.prog 55 0 = some (0, ⟨2, 32, true, [.bool false, .slice none 0 0], 0, [(0, 1), (1, 1)], false, false⟩) := by kernel_rfl
@[go_sem] theorem fo55_1 : fldOf Tryz.prog 55 1 = some (2, ⟨2, 32, true, [.bool false, .slice none 0 0], 0, [(0, 1), (1, 1)], false, false⟩) := by kernel_rfl
@[go_sem] theorem ty56 : TY Tryz.prog 56 = some ⟨4, 64, true, [.bool false, .slice none 0 0, .bool false, .slice none 0 0], 0, [(0, 2), (2, 2)], false, false⟩ := by kernel_rfl
@[go_sem] theorem fo56_0 : fldOf Tryz.prog 56 0 = some (0, ⟨2, 32, true, [.bool false, .slice none 0 0], 0, [(0, 1), (1, 1)], false, false⟩) := by kernel_rfl
@[go_sem] theorem fo56_1 : fldOf Tryz.prog 56 1 = some (2, ⟨2, 32, true, [.bool false, .slice none 0 0], 0, [(0, 1), (1, 1)], false, false⟩) := by kernel_rfl
@[go_sem] theorem ty58 : TY Tryz.prog 58 = some ⟨1, 8, false, [.nilFunc], 0, [], false, false⟩ := by kernel_rfl
@[go_sem] theorem ty59 : TY Tryz.prog 59 = some ⟨1, 8, false, [.nilFunc], 0, [], false, false⟩ := by kernel_rfl
@[go_sem] theorem ty60 : TY Tryz.prog 60 = some ⟨1, 8, false, [.nilFunc], 0, [], false, false⟩ := by kernel_rfl
@[go_sem] theorem ty61 : TY Tryz.prog 61 = some ⟨1, 8, false, [.nilFunc], 0, [], false, false⟩ := by kernel_rfl
@[go_sem] theorem ty63 : TY Tryz.prog 63 = some ⟨1, 8, false, [.nilFunc], 0, [], false, false⟩ := by kernel_rfl
@[go_sem] theorem ty64 : TY Tryz.prog 64 = some ⟨1, 8, false, [.nilFunc], 0, [], false, false⟩ := by kernel_rfl
@[go_sem] theorem ty65 : TY Tryz.prog 65 = some ⟨1, 8, false, [.nilFunc], 0, [], false, false⟩ := by kernel_rfl
@[go_sem] theorem ty66 : TY Tryz.prog 66 = some ⟨1, 8, false, [.nilFunc], 0, [], false, false⟩ := by kernel_rfl
@[go_sem] theorem ty67 : TY Tryz.prog 67 = some ⟨1, 24, false, [.slice none 0 0], 3, [], false, true⟩ := by kernel_rfl
@[go_sem] theorem ty69 : TY Tryz.prog 69 = some ⟨1, 8, false, [.nilFunc], 0, [], false, false⟩ := by kernel_rfl
@[go_sem] theorem ty71 : TY Tryz.prog 71 = some ⟨1, 8, false, [.nilFunc], 0, [], false, false⟩ := by kernel_rfl
@[go_sem] theorem ty72 : TY Tryz.prog 72 = some ⟨1, 8, false, [.nilFunc], 0, [], false, false⟩ := by kernel_rfl
@[go_sem] theorem ty74 : TY Tryz.prog 74 = some ⟨1, 8, false, [.nilFunc], 0, [], false, false⟩ := by kernel_rfl
@[go_sem] theorem ty75 : TY Tryz.prog 75 = some ⟨1, 8, false, [.nilFunc], 0, [], false, false⟩ := by kernel_rfl
@[go_sem] theorem ty76 : TY Tryz.prog 76 = some ⟨1, 8, false, [.nilFunc], 0, [], false, false⟩ := by kernel_rfl
@[go_sem] theorem ty77 : TY Tryz.prog 77 = some ⟨1, 8, false, [.nilFunc], 0, [], false, false⟩ := by kernel_rfl
@[go_sem] theorem ty78 : TY Tryz.prog 78 = some ⟨1, 8, false, [.nilFunc], 0, [], false, false⟩ := by kernel_rfl
@[go_sem] theorem ty79 : TY Tryz.prog 79 = some ⟨1, 8, false, [.nilFunc], 0, [], false, false⟩ := by kernel_rfl
@[go_sem] theorem ty80 : TY Tryz.prog 80 = some ⟨1, 24, false, [.slice none 0 0], 56, [], false, true⟩ := by kernel_rfl
@[go_sem] theorem ty81 : TY Tryz.prog 81 = some ⟨1, 8, false, [.nilFunc], 0, [], false, false⟩ := by kernel_rfl
@[go_sem] theorem ty82 : TY Tryz.prog 82 = some ⟨1, 8, false, [.nilFunc], 0, [], false, false⟩ := by kernel_rfl
@[go_sem] theorem ty83 : TY Tryz.prog 83 = some ⟨1, 8, false, [.nilFunc], 0, [], false, false⟩ := by kernel_rfl
@[go_sem] theorem ty85 : TY Tryz.prog 85 = some ⟨1, 8, false, [.nilFunc], 0, [], false, false⟩ := by kernel_rfl
@[go_sem] theorem ty87 : TY Tryz.prog 87 = some ⟨1, 8, false, [.nilFunc], 0, [], false, false⟩ := by kernel_rfl
@[go_sem] theorem ty88 : TY Tryz.prog 88 = some ⟨1, 8, false, [.nilFunc], 0, [], false, false⟩ := by kernel_rfl
@[go_sem] theorem ty89 : TY Tryz.prog 89 = some ⟨1, 8, false, [.nilFunc], 0, [], false, false⟩ := by kernel_rfl
@[go_sem] theorem ty90 : TY Tryz.prog 90 = some ⟨1, 8, false, [.nilFunc], 0, [], false, false⟩ := by kernel_rfl
@[go_sem] theorem ty91 : TY Tryz.prog 91 = some ⟨1, 8, false, [.nilFunc], 0, [], false, false⟩ := by kernel_rfl
@[go_sem] theorem ty92 : TY Tryz.prog 92 = some ⟨1, 8, false, [.nilFunc], 0, [], false, false⟩ := by kernel_rfl
@[go_sem] theorem ty93 : TY Tryz.prog 93 = some ⟨1, 8, false, [.nilFunc], 0, [], false, false⟩ := by kernel_rfl
@[go_sem] theorem ty95 : TY Tryz.prog 95 = some ⟨1, 8, false, [.nilFunc], 0, [], false, false⟩ := by kernel_rfl
@[go_sem] theorem ty96 : TY Tryz.prog 96 = some ⟨1, 8, false, [.nilFunc], 0, [], false, false⟩ := by kernel_rfl
@[go_sem] theorem ty97 : TY Tryz.prog 97 = some ⟨1, 8, false, [.nilFunc], 0, [], false, false⟩ := by kernel_rfl
@[go_sem] theorem ty98 : TY Tryz.prog 98 = some ⟨1, 8, false, [.nilFunc], 0, [], false, false⟩ := by kernel_rfl
@[go_sem] theorem ty99 : TY Tryz.prog 99 = some ⟨1, 8, false, [.nilFunc], 0, [], false, false⟩ := by kernel_rfl
@[go_sem] theorem ty100 : TY Tryz.prog 100 = some ⟨1, 8, false, [.nilFunc], 0, [], false, false⟩ := by kernel_rfl
@[go_sem] theorem ty101 : TY Tryz.prog 101 = some ⟨1, 8, false, [.nilFunc], 0, [], false, false⟩ := by kernel_rfl
@[go_sem] theorem ty102 : TY Tryz.prog 102 = some ⟨1, 8, false, [.nilFunc], 0, [], false, false⟩ := by kernel_rfl
@[go_sem] theorem ty103 : TY Tryz.prog 103 = some ⟨1, 8, false, [.nilFunc], 0, [], false, false⟩ := by kernel_rfl
@[go_sem] theorem ty104 : TY Tryz.prog 104 = some ⟨1, 8, false, [.nilFunc], 0, [], false, false⟩ := by kernel_rfl
@[go_sem] theorem ty105 : TY Tryz.prog 105 = some ⟨1, 8, false, [.nilFunc], 0, [], false, false⟩ := by kernel_rfl
@[go_sem] theorem ty106 : TY Tryz.prog 106 = some ⟨1, 8, false, [.nilFunc], 0, [], false, false⟩ := by kernel_rfl
@[go_sem] theorem ty107 : TY Tryz.prog 107 = some ⟨1, 8, false, [.nilFunc], 0, [], false, false⟩ := by kernel_rfl
@[go_sem] theorem ty108 : TY Tryz.prog 108 = some ⟨1, 8, false, [.nilFunc], 0, [], false, false⟩ := by kernel_rfl
@[go_sem] theorem ty109 : TY Tryz.prog 109 = some ⟨1, 8, false, [.nilFunc], 0, [], false, false⟩ := by kernel_rfl
@[go_sem] theorem ty110 : TY Tryz.prog 110 = some ⟨1, 8, false, [.nilFunc], 0, [], false, false⟩ := by kernel_rfl
@[go_sem] theorem ty111 : TY Tryz.prog 111 = some ⟨1, 8, false, [.nilFunc], 0, [], false, false⟩ := by kernel_rfl
@[go_sem] theorem ty112 : TY Tryz.prog 112 = some ⟨1, 8, false, [.nilFunc], 0, [], false, false⟩ := by kernel_rfl
@[go_sem] theorem ty113 : TY Tryz.prog 113 = some ⟨1, 8, false, [.nilFunc], 0, [], false, false⟩ := by kernel_rfl
@[go_sem] theorem ty114 : TY Tryz.prog 114 = some ⟨1, 8, false, [.nilFunc], 0, [], false, false⟩ := by kernel_rfl
@[go_sem] theorem ty115 : TY Tryz.prog 115 = some ⟨1, 8, false, [.nilFunc], 0, [], false, false⟩ := by kernel_rfl
@[go_sem] theorem ty116 : TY Tryz.prog 116 = some ⟨1, 8, false, [.nilFunc], 0, [], false, false⟩ := by kernel_rfl
@[go_sem] theorem ty117 : TY Tryz.prog 117 = some ⟨1, 8, false, [.nilFunc], 0, [], false, false⟩ := by kernel_rfl
@[go_sem] theorem ty118 : TY Tryz.prog 118 = some ⟨1, 8, false, [.nilFunc], 0, [], false, false⟩ := by kernel_rfl
@[go_sem] theorem ty119 : TY Tryz.prog 119 = some ⟨1, 8, false, [.nilFunc], 0, [], false, false⟩ := by kernel_rfl
@[go_sem] theorem ty120 : TY Tryz.prog 120 = some ⟨1, 8, false, [.nilFunc], 0, [], false, false⟩ := by kernel_rfl
@[go_sem] theorem ty121 : TY Tryz.prog 121 = some ⟨3, 24, true, [.int .i64 0, .int .i64 0, .int .i64 0], 36, [], true, false⟩ := by kernel_rfl
@[go_sem] theorem ao121 : arrOf Tryz.prog 121 = some (3, ⟨1, 8, false, [.int .i64 0], 0, [], false, false⟩) := by kernel_rfl
@[go_sem] theorem pc121 : plcs Tryz.prog ⟨3, 24, true, [.int .i64 0, .int .i64 0, .int .i64 0], 36, [], true, false⟩ = some [(0, 1), (1, 1), (2, 1)] := by kernel_rfl
@[go_sem] theorem ty122 : TY Tryz.prog 122 = some ⟨3, 56, true, [.bool false, .slice none 0 0, .slice none 0 0], 0, [(0, 3)], false, false⟩ := by kernel_rfl
@[go_sem] theorem fo122_0 : fldOf Tryz.prog 122 0 = some (0, ⟨3, 56, true, [.bool false, .slice none 0 0, .slice none 0 0], 0, [(0, 2), (2, 1)], false, false⟩) := by kernel_rfl
@[go_sem] theorem ty123 : TY Tryz.prog 123 = some ⟨3, 56, true, [.bool false, .slice none 0 0, .slice none 0 0], 0, [(0, 3)], false, false⟩ := by kernel_rfl
@[go_sem] theorem fo123_0 : fldOf Tryz.prog 123 0 = some (0, ⟨3, 56, true, [.bool false, .slice none 0 0, .slice none 0 0], 0, [(0, 2), (2, 1)], false, false⟩) := by kernel_rfl
@[go_sem] theorem ty124 : TY Tryz.prog 124 = some ⟨4, 64, true, [.bool false, .slice none 0 0, .slice none 0 0, .int .i64 0], 0, [(0, 3), (3, 1)], false, false⟩ := by kernel_rfl
@[go_sem] theorem fo124_0 : fldOf Tryz.prog 124 0 = some (0, ⟨3, 56, true, [.bool false, .slice none 0 0, .slice none 0 0], 0, [(0, 3)], false, false⟩) := by kernel_rfl
@[go_sem] theorem fo124_1 : fldOf Tryz.prog 124 1 = some (3, ⟨1, 8, false, [.int .i64 0], 0, [], false, false⟩) := by kernel_rfl
@[go_sem] theorem ty125 : TY Tryz.prog 125 = some ⟨4, 64, true, [.bool false, .slice none 0 0, .slice none 0 0, .int .i64 0], 0, [(0, 3), (3, 1)], false, false⟩ := by kernel_rfl
@[go_sem] theorem fo125_0 : fldOf Tryz.prog 125 0 = some (0, ⟨3, 56, true, [.bool false, .slice none 0 0, .slice none 0 0], 0, [(0, 3)], false, false⟩) := by kernel_rfl
@[go_sem] theorem fo125_1 : fldOf Tryz.prog 125 1 = some (3, ⟨1, 8, false, [.int .i64 0], 0, [], false, false⟩) := by kernel_rfl
@[go_sem] theorem ty126 : TY Tryz.prog 126 = some ⟨1, 8, false, [.nilFunc], 0, [], false, false⟩ := by kernel_rfl
@[go_sem] theorem ty127 : TY Tryz.prog 127 = some ⟨1, 8, false, [.nilFunc], 0, [], false, false⟩ := by kernel_rfl
@[go_sem] theorem ty129 : TY Tryz.prog 129 = some ⟨1, 8, false, [.nilFunc], 0, [], false, false⟩ := by kernel_rfl
@[go_sem] theorem ty130 : TY Tryz.prog 130 = some ⟨1, 8, false, [.nilFunc], 0, [], false, false⟩ := by kernel_rfl
@[go_sem] theorem ty131 : TY Tryz.prog 131 = some ⟨1, 8, false, [.nilFunc], 0, [], false, false⟩ := by kernel_rfl
@[go_sem] theorem ty132 : TY Tryz.prog 132 = some ⟨1, 8, false, [.nilFunc], 0, [], false, false⟩ := by kernel_rfl
@[go_sem] theorem ty133 : TY Tryz.prog 133 = some ⟨1, 8, false, [.nilFunc], 0, [], false, false⟩ := by kernel_rfl
@[go_sem] theorem ty134 : TY Tryz.prog 134 = some ⟨1, 8, false, [.nilFunc], 0, [], false, false⟩ := by kernel_rfl
@[go_sem] theorem ty135 : TY Tryz.prog 135 = some ⟨1, 8, false, [.nilFunc], 0, [], false, false⟩ := by kernel_rfl
@[go_sem] theorem ty136 : TY Tryz.prog 136 = some ⟨1, 24, false, [.slice none 0 0], 2, [], false, true⟩ := by kernel_rfl
@[go_sem] theorem ty138 : TY Tryz.prog 138 = some ⟨1, 8, false, [.nilFunc], 0, [], false, false⟩ := by kernel_rfl
@[go_sem] theorem ty139 : TY Tryz.prog 139 = some ⟨1, 8, false, [.pointer none], 0, [], false, false⟩ := by kernel_rfl
@[go_sem] theorem ty140 : TY Tryz.prog 140 = some ⟨1, 8, false, [.nilFunc], 0, [], false, false⟩ := by kernel_rfl
@[go_sem] theorem ty141 : TY Tryz.prog 141 = some ⟨1, 8, false, [.nilFunc], 0, [], false, false⟩ := by kernel_rfl
@[go_sem] theorem ty142 : TY Tryz.prog 142 = some ⟨6, 96, true, [.slice none 0 0, .int .i64 0, .bool false, .slice none 0 0, .slice none 0 0, .int .i64 0], 0, [(0, 1), (1, 1), (2, 2), (4, 1), (5, 1)], false, false⟩ := by kernel_rfl
@[go_sem] theorem fo142_0 : fldOf Tryz.prog 142 0 = some (0, ⟨1, 24, false, [.slice none 0 0], 27, [], false, true⟩) := by kernel_rfl
@[go_sem] theorem fo142_1 : fldOf Tryz.prog 142 1 = some (1, ⟨1, 8, false, [.int .i64 0], 0, [], false, false⟩) := by kernel_rfl
@[go_sem] theorem fo142_2 : fldOf Tryz.prog 142 2 = some (2, ⟨2, 32, true, [.bool false, .slice none 0 0], 0, [(0, 1), (1, 1)], false, false⟩) := by kernel_rfl
@[go_sem] theorem fo142_3 : fldOf Tryz.prog 142 3 = some (4, ⟨1, 24, false, [.slice none 0 0], 3, [], false, true⟩) := by kernel_rfl
@[go_sem] theorem fo142_4 : fldOf Tryz.prog 142 4 = some (5, ⟨1, 8, false, [.int .i64 0], 0, [], false, false⟩) := by kernel_rfl
@[go_sem] theorem ty143 : TY Tryz.prog 143 = some ⟨6, 96, true, [.slice none 0 0, .int .i64 0, .bool false, .slice none 0 0, .slice none 0 0, .int .i64 0], 0, [(0, 1), (1, 1), (2, 2), (4, 1), (5, 1)], false, false⟩ := by kernel_rfl
@[go_sem] theorem fo143_0 : fldOf Tryz.prog 143 0 = some (0, ⟨1, 24, false, [.slice none 0 0], 27, [], false, true⟩) := by kernel_rfl
@[go_sem] theorem fo143_1 : fldOf Tryz.prog 143 1 = some (1, ⟨1, 8, false, [.int .i64 0], 0, [], false, false⟩) := by kernel_rfl
@[go_sem] theorem fo143_2 : fldOf Tryz.prog 143 2 = some (2, ⟨2, 32, true, [.bool false, .slice none 0 0], 0, [(0, 1), (1, 1)], false, false⟩) := by kernel_rfl
@[go_sem] theorem fo143_3 : fldOf Tryz.prog 143 3 = some (4, ⟨1, 24, false, [.slice none 0 0], 3, [], false, true⟩) := by kernel_rfl
@[go_sem] theorem fo143_4 : fldOf Tryz.prog 143 4 = some (5, ⟨1, 8, false, [.int .i64 0], 0, [], false, false⟩) := by kernel_rfl
@[go_sem] theorem ty144 : TY Tryz.prog 144 = some ⟨1, 8, false, [.nilFunc], 0, [], false, false⟩ := by kernel_rfl
@[go_sem] theorem ty145 : TY Tryz.prog 145 = some ⟨1, 8, false, [.nilFunc], 0, [], false, false⟩ := by kernel_rfl
@[go_sem] theorem ty146 : TY Tryz.prog 146 = some ⟨1, 8, false, [.int .u64 0], 0, [], false, false⟩ := by kernel_rfl
@[go_sem] theorem kd146 : kindOf Tryz.prog 146 = some .u64 := by kernel_rfl
@[go_sem] theorem ty147 : TY Tryz.prog 147 = some ⟨1, 8, false, [.nilFunc], 0, [], false, false⟩ := by kernel_rfl
@[go_sem] theorem ty148 : TY Tryz.prog 148 = some ⟨1, 8, false, [.nilFunc], 0, [], false, false⟩ := by kernel_rfl
@[go_sem] theorem ty149 : TY Tryz.prog 149 = some ⟨1, 8, false, [.nilFunc], 0, [], false, false⟩ := by kernel_rfl
@[go_sem] theorem ty151 : TY Tryz.prog 151 = some ⟨1, 8, false, [.nilFunc], 0, [], false, false⟩ := by kernel_rfl
@[go_sem] theorem ty152 : TY Tryz.prog 152 = some ⟨1, 8, false, [.nilFunc], 0, [], false, false⟩ := by kernel_rfl
@[go_sem] theorem ty153 : TY Tryz.prog 153 = some ⟨1, 8, false, [.nilFunc], 0, [], false, false⟩ := by kernel_rfl
@[go_sem] theorem ty154 : TY Tryz.prog 154 = some ⟨1, 8, false, [.nilFunc], 0, [], false, false⟩ := by kernel_rfl
@[go_sem] theorem ty156 : TY Tryz.prog 156 = some ⟨1, 8, false, [.nilFunc], 0, [], false, false⟩ := by kernel_rfl
@[go_sem] theorem ty157 : TY Tryz.prog 157 = some ⟨1, 8, false, [.nilFunc], 0, [], false, false⟩ := by kernel_rfl
@[go_sem] theorem ty159 : TY Tryz.prog 159 = some ⟨1, 8, false, [.nilFunc], 0, [], false, false⟩ := by kernel_rfl
@[go_sem] theorem ty161 : TY Tryz.prog 161 = some ⟨1, 8, false, [.nilFunc], 0, [], false, false⟩ := by kernel_rfl
@[go_sem] theorem ty162 : TY Tryz.prog 162 = some ⟨1, 8, false, [.nilFunc], 0, [], false, false⟩ := by kernel_rfl
@[go_sem] theorem ty163 : TY Tryz.prog 163 = some ⟨1, 8, false, [.nilFunc], 0, [], false, false⟩ := by kernel_rfl
@[go_sem] theorem ty165 : TY Tryz.prog 165 = some ⟨1, 8, false, [.nilFunc], 0, [], false, false⟩ := by kernel_rfl
@[go_sem] theorem ty166 : TY Tryz.prog 166 = some ⟨1, 8, false, [.nilFunc], 0, [], false, false⟩ := by kernel_rfl
@[go_sem] theorem ty167 : TY Tryz.prog 167 = some ⟨1, 8, false, [.nilFunc], 0, [], false, false⟩ := by kernel_rfl
@[go_sem] theorem ty168 : TY Tryz.prog 168 = some ⟨1, 8, false, [.nilFunc], 0, [], false, false⟩ := by kernel_rfl
@[go_sem] theorem ty169 : TY Tryz.prog 169 = some ⟨1, 8, false, [.nilFunc], 0, [], false, false⟩ := by kernel_rfl
@[go_sem] theorem ty171 : TY Tryz.prog 171 = some ⟨1, 8, false, [.nilFunc], 0, [], false, false⟩ := by kernel_rfl
@[go_sem] theorem ty172 : TY Tryz.prog 172 = some ⟨1, 8, false, [.nilFunc], 0, [], false, false⟩ := by kernel_rfl
@[go_sem] theorem ty173 : TY Tryz.prog 173 = some ⟨1, 8, false, [.nilFunc], 0, [], false, false⟩ := by kernel_rfl
@[go_sem] theorem ty174 : TY Tryz.prog 174 = some ⟨1, 24, false, [.slice none 0 0], 4, [], false, true⟩ := by kernel_rfl
@[go_sem] theorem ty175 : TY Tryz.prog 175 = some ⟨1, 8, false, [.nilFunc], 0, [], false, false⟩ := by kernel_rfl
@[go_sem] theorem ty176 : TY Tryz.prog 176 = some ⟨1, 8, false, [.nilFunc], 0, [], false, false⟩ := by kernel_rfl
@[go_sem] theorem ty177 : TY Tryz.prog 177 = some ⟨1, 8, false, [.nilFunc], 0, [], false, false⟩ := by kernel_rfl
@[go_sem] theorem ty178 : TY Tryz.prog 178 = some ⟨1, 8, false, [.nilFunc], 0, [], false, false⟩ := by kernel_rfl
@[go_sem] theorem ty179 : TY Tryz.prog 179 = some ⟨1, 24, false, [.slice none 0 0], 136, [], false, true⟩ := by kernel_rfl
@[go_sem] theorem ty180 : TY Tryz.prog 180 = some ⟨1, 8, false, [.nilFunc], 0, [], false, false⟩ := by kernel_rfl
@[go_sem] theorem ty181 : TY Tryz.prog 181 = some ⟨1, 8, false, [.nilFunc], 0, [], false, false⟩ := by kernel_rfl
@[go_sem] theorem ty182 : TY Tryz.prog 182 = some ⟨1, 8, false, [.nilFunc], 0, [], false, false⟩ := by kernel_rfl
@[go_sem] theorem ty183 : TY Tryz.prog 183 = some ⟨1, 8, false, [.nilFunc], 0, [], false, false⟩ := by kernel_rfl
@[go_sem] theorem ty184 : TY Tryz.prog 184 = some ⟨1, 8, false, [.nilFunc], 0, [], false, false⟩ := by kernel_rfl
@[go_sem] theorem ty185 : TY Tryz.prog 185 = some ⟨1, 8, false, [.nilFunc], 0, [], false, false⟩ := by kernel_rfl
@[go_sem] theorem ty186 : TY Tryz.prog 186 = some ⟨1, 8, false, [.nilFunc], 0, [], false, false⟩ := by kernel_rfl
@[go_sem] theorem ty188 : TY Tryz.prog 188 = some ⟨1, 8, false, [.nilFunc], 0, [], false, false⟩ := by kernel_rfl
@[go_sem] theorem ty189 : TY Tryz.prog 189 = some ⟨1, 8, false, [.nilFunc], 0, [], false, false⟩ := by kernel_rfl
@[go_sem] theorem ty190 : TY Tryz.prog 190 = some ⟨1, 4, false, [.int .u32 0], 0, [], false, false⟩ := by kernel_rfl
@[go_sem] theorem kd190 : kindOf Tryz.prog 190 = some .u32 := by kernel_rfl
@[go_sem] theorem ty191 : TY Tryz.prog 191 = some ⟨1, 8, false, [.nilFunc], 0, [], false, false⟩ := by kernel_rfl
@[go_sem] theorem ty192 : TY Tryz.prog 192 = some ⟨1, 8, false, [.nilFunc], 0, [], false, false⟩ := by kernel_rfl
@[go_sem] theorem ty193 : TY Tryz.prog 193 = some ⟨1, 8, false, [.nilFunc], 0, [], false, false⟩ := by kernel_rfl
@[go_sem] theorem ty194 : TY Tryz.prog 194 = some ⟨1, 8, false, [.nilFunc], 0, [], false, false⟩ := by kernel_rfl
@[go_sem] theorem ty196 : TY Tryz.prog 196 = some ⟨1, 8, false, [.nilFunc], 0, [], false, false⟩ := by kernel_rfl
@[go_sem] theorem ty197 : TY Tryz.prog 197 = some ⟨1, 8, false, [.nilFunc], 0, [], false, false⟩ := by kernel_rfl
@[go_sem] theorem ty198 : TY Tryz.prog 198 = some ⟨1, 8, false, [.nilFunc], 0, [], false, false⟩ := by kernel_rfl
@[go_sem] theorem ty199 : TY Tryz.prog 199 = some ⟨1, 8, false, [.nilFunc], 0, [], false, false⟩ := by kernel_rfl
@[go_sem] theorem ty200 : TY Tryz.prog 200 = some ⟨1, 8, false, [.nilFunc], 0, [], false, false⟩ := by kernel_rfl
@[go_sem] theorem ty201 : TY Tryz.prog 201 = some ⟨1, 8, false, [.nilFunc], 0, [], false, false⟩ := by kernel_rfl
@[go_sem] theorem ty202 : TY Tryz.prog 202 = some ⟨1, 8, false, [.nilFunc], 0, [], false, false⟩ := by kernel_rfl
@[go_sem] theorem ty203 : TY Tryz.prog 203 = some ⟨1, 8, false, [.nilFunc], 0, [], false, false⟩ := by kernel_rfl
@[go_sem] theorem ty204 : TY Tryz.prog 204 = some ⟨1, 8, false, [.nilFunc], 0, [], false, false⟩ := by kernel_rfl
@[go_sem] theorem ty205 : TY Tryz.prog 205 = some ⟨1, 8, false, [.nilFunc], 0, [], false, false⟩ := by kernel_rfl
@[go_sem] theorem ty206 : TY Tryz.prog 206 = some ⟨1, 8, false, [.nilFunc], 0, [], false, false⟩ := by kernel_rfl
@[go_sem] theorem ty207 : TY Tryz.prog 207 = some ⟨1, 8, false, [.nilFunc], 0, [], false, false⟩ := by kernel_rfl
@[go_sem] theorem ty208 : TY Tryz.prog 208 = some ⟨1, 8, false, [.nilFunc], 0, [], false, false⟩ := by kernel_rfl
@[go_sem] theorem ty209 : TY Tryz.prog 209 = some ⟨1, 8, false, [.nilFunc], 0, [], false, false⟩ := by kernel_rfl
@[go_sem] theorem ty210 : TY Tryz.prog 210 = some ⟨1, 8, false, [.nilFunc], 0, [], false, false⟩ := by kernel_rfl
@[go_sem] theorem ty211 : TY Tryz.prog 211 = some ⟨1, 8, false, [.nilFunc], 0, [], false, false⟩ := by kernel_rfl
@[go_sem] theorem ty212 : TY Tryz.prog 212 = some ⟨1, 24, false, [.slice none 0 0], 80, [], false, true⟩ := by kernel_rfl
@[go_sem] theorem ty213 : TY Tryz.prog 213 = some ⟨1, 8, false, [.nilFunc], 0, [], false, false⟩ := by kernel_rfl
@[go_sem] theorem ty215 : TY Tryz.prog 215 = some ⟨1, 8, false, [.nilFunc], 0, [], false, false⟩ := by kernel_rfl
@[go_sem] theorem ty216 : TY Tryz.prog 216 = some ⟨1, 24, false, [.slice none 0 0], 27, [], false, true⟩ := by kernel_rfl
@[go_sem] theorem ty217 : TY Tryz.prog 217 = some ⟨1, 8, false, [.nilFunc], 0, [], false, false⟩ := by kernel_rfl
@[go_sem] theorem ty218 : TY Tryz.prog 218 = some ⟨1, 8, false, [.nilFunc], 0, [], false, false⟩ := by kernel_rfl
@[go_sem] theorem ty219 : TY Tryz.prog 219 = some ⟨1, 8, false, [.nilFunc], 0, [], false, false⟩ := by kernel_rfl
@[go_sem] theorem ty220 : TY Tryz.prog 220 = some ⟨1, 8, false, [.nilFunc], 0, [], false, false⟩ := by kernel_rfl
@[go_sem] theorem ty222 : TY Tryz.prog 222 = some ⟨1, 8, false, [.nilFunc], 0, [], false, false⟩ := by kernel_rfl
@[go_sem] theorem ty224 : TY Tryz.prog 224 = some ⟨1, 8, false, [.nilFunc], 0, [], false, false⟩ := by kernel_rfl
@[go_sem] theorem ty225 : TY Tryz.prog 225 = some ⟨1, 8, false, [.nilFunc], 0, [], false, false⟩ := by kernel_rfl
@[go_sem] theorem ty227 : TY Tryz.prog 227 = some ⟨1, 8, false, [.nilFunc], 0, [], false, false⟩ := by kernel_rfl
@[go_sem] theorem ty228 : TY Tryz.prog 228 = some ⟨1, 8, false, [.int .u64 0], 0, [], false, false⟩ := by kernel_rfl
@[go_sem] theorem kd228 : kindOf Tryz.prog 228 = some .u64 := by kernel_rfl
@[go_sem] theorem ty229 : TY Tryz.prog 229 = some ⟨1, 8, false, [.nilFunc], 0, [], false, false⟩ := by kernel_rfl
@[go_sem] theorem ty230 : TY Tryz.prog 230 = some ⟨1, 8, false, [.nilFunc], 0, [], false, false⟩ := by kernel_rfl
@[go_sem] theorem ty231 : TY Tryz.prog 231 = some ⟨1, 24, false, [.slice none 0 0], 33, [], false, true⟩ := by kernel_rfl
@[go_sem] theorem ty232 : TY Tryz.prog 232 = some ⟨1, 8, false, [.nilFunc], 0, [], false, false⟩ := by kernel_rfl
@[go_sem] theorem ty233 : TY Tryz.prog 233 = some ⟨1, 8, false, [.nilFunc], 0, [], false, false⟩ := by kernel_rfl
@[go_sem] theorem ty234 : TY Tryz.prog 234 = some ⟨3, 56, true, [.bool false, .slice none 0 0, .slice none 0 0], 0, [(0, 2), (2, 1)], false, false⟩ := by kernel_rfl
@[go_sem] theorem fo234_0 : fldOf Tryz.prog 234 0 = some (0, ⟨2, 32, true, [.bool false, .slice none 0 0], 0, [(0, 1), (1, 1)], false, false⟩) := by kernel_rfl
@[go_sem] theorem fo234_1 : fldOf Tryz.prog 234 1 = some (2, ⟨1, 24, false, [.slice none 0 0], 26, [], false, true⟩) := by kernel_rfl
@[go_sem] theorem ty235 : TY Tryz.prog 235 = some ⟨3, 56, true, [.bool false, .slice none 0 0, .slice none 0 0], 0, [(0, 2), (2, 1)], false, false⟩ := by kernel_rfl
@[go_sem] theorem fo235_0 : fldOf Tryz.prog 235 0 = some (0, ⟨2, 32, true, [.bool false, .slice none 0 0], 0, [(0, 1), (1, 1)], false, false⟩) := by kernel_rfl
@[go_sem] theorem fo235_1 : fldOf Tryz.prog 235 1 = some (2, ⟨1, 24, false, [.slice none 0 0], 26, [], false, true⟩) := by kernel_rfl
@[go_sem] theorem ty237 : TY Tryz.prog 237 = some ⟨1, 8, false, [.nilFunc], 0, [], false, false⟩ := by kernel_rfl
@[go_sem] theorem ty238 : TY Tryz.prog 238 = some ⟨1, 8, false, [.nilFunc], 0, [], false, false⟩ := by kernel_rfl
@[go_sem] theorem ty239 : TY Tryz.prog 239 = some ⟨1, 8, false, [.nilFunc], 0, [], false, false⟩ := by kernel_rfl
@[go_sem] theorem ty240 : TY Tryz.prog 240 = some ⟨1, 8, false, [.nilFunc], 0, [], false, false⟩ := by kernel_rfl
@[go_sem] theorem ty241 : TY Tryz.prog 241 = some ⟨1, 8, false, [.nilFunc], 0, [], false, false⟩ := by kernel_rfl
@[go_sem] theorem ty243 : TY Tryz.prog 243 = some ⟨1, 8, false, [.nilFunc], 0, [], false, false⟩ := by kernel_rfl
@[go_sem] theorem ty245 : TY Tryz.prog 245 = some ⟨1, 8, false, [.nilFunc], 0, [], false, false⟩ := by kernel_rfl
@[go_sem] theorem ty246 : TY Tryz.prog 246 = some ⟨1, 8, false, [.nilFunc], 0, [], false, false⟩ := by kernel_rfl
@[go_sem] theorem ty248 : TY Tryz.prog 248 = some ⟨1, 8, false, [.nilFunc], 0, [], false, false⟩ := by kernel_rfl
@[go_sem] theorem ty249 : TY Tryz.prog 249 = some ⟨1, 8, false, [.nilFunc], 0, [], false, false⟩ := by kernel_rfl
@[go_sem] theorem ty250 : TY Tryz.prog 250 = some ⟨1, 8, false, [.nilFunc], 0, [], false, false⟩ := by kernel_rfl
@[go_sem] theorem ty251 : TY Tryz.prog 251 = some ⟨1, 8, false, [.nilFunc], 0, [], false, false⟩ := by kernel_rfl
@[go_sem] theorem ty253 : TY Tryz.prog 253 = some ⟨1, 8, false, [.nilFunc], 0, [], false, false⟩ := by kernel_rfl
@[go_sem] theorem ty254 : TY Tryz.prog 254 = some ⟨1, 8, false, [.nilFunc], 0, [], false, false⟩ := by kernel_rfl
@[go_sem] theorem ty257 : TY Tryz.prog 257 = some ⟨0, 0, true, [], 16, [], true, false⟩ := by kernel_rfl
@[go_sem] theorem ao257 : arrOf Tryz.prog 257 = some (0, ⟨1, 8, false, [.pointer none], 0, [], false, false⟩) := by kernel_rfl
@[go_sem] theorem pc257 : plcs Tryz.prog ⟨0, 0, true, [], 16, [], true, false⟩ = some [] := by kernel_rfl
@[go_sem] theorem ty258 : TY Tryz.prog 258 = some ⟨0, 0, true, [], 0, [(0, 0)], false, false⟩ := by kernel_rfl
@[go_sem] theorem fo258_0 : fldOf Tryz.prog 258 0 = some (0, ⟨0, 0, true, [], 16, [], true, false⟩) := by kernel_rfl
@[go_sem] theorem ty259 : TY Tryz.prog 259 = some ⟨0, 0, true, [], 0, [(0, 0)], false, false⟩ := by kernel_rfl
@[go_sem] theorem fo259_0 : fldOf Tryz.prog 259 0 = some (0, ⟨0, 0, true, [], 16, [], true, false⟩) := by kernel_rfl
@[go_sem] theorem ty260 : TY Tryz.prog 260 = some ⟨1, 1, false, [.int .u8 0], 0, [], false, false⟩ := by kernel_rfl
@[go_sem] theorem kd260 : kindOf Tryz.prog 260 = some .u8 := by kernel_rfl
@[go_sem] theorem ty261 : TY Tryz.prog 261 = some ⟨1, 1, false, [.int .u8 0], 0, [], false, false⟩ := by kernel_rfl
@[go_sem] theorem kd261 : kindOf Tryz.prog 261 = some .u8 := by kernel_rfl
@[go_sem] theorem ty262 : TY Tryz.prog 262 = some ⟨1, 8, false, [.nilFunc], 0, [], false, false⟩ := by kernel_rfl
@[go_sem] theorem ty263 : TY Tryz.prog 263 = some ⟨1, 8, false, [.pointer none], 0, [], false, false⟩ := by kernel_rfl
@[go_sem] theorem ty264 : TY Tryz.prog 264 = some ⟨1, 4, false, [.int .i32 0], 0, [], false, false⟩ := by kernel_rfl
@[go_sem] theorem kd264 : kindOf Tryz.prog 264 = some .i32 := by kernel_rfl
@[go_sem] theorem ty265 : TY Tryz.prog 265 = some ⟨1, 4, false, [.int .i32 0], 0, [], false, false⟩ := by kernel_rfl
@[go_sem] theorem kd265 : kindOf Tryz.prog 265 = some .i32 := by kernel_rfl
@[go_sem] theorem ty266 : TY Tryz.prog 266 = some ⟨11, 48, true, [.int .u64 0, .int .u64 0, .int .u32 0, .int .u8 0, .int .u8 0, .int .u8 0, .int .u8 0, .nilFunc, .pointer none, .int .i32 0, .int .i32 0], 0, [(0, 1), (1, 1), (2, 1), (3, 1), (4, 1), (5, 1), (6, 1), (7, 1), (8, 1), (9, 1), (10, 1)], false, false⟩ := by kernel_rfl
@[go_sem] theorem fo266_0 : fldOf Tryz.prog 266 0 = some (0, ⟨1, 8, false, [.int .u64 0], 0, [], false, false⟩) := by kernel_rfl
@[go_sem] theorem fo266_1 : fldOf Tryz.prog 266 1 = some (1, ⟨1, 8, false, [.int .u64 0], 0, [], false, false⟩) := by kernel_rfl
@[go_sem] theorem fo266_2 : fldOf Tryz.prog 266 2 = some (2, ⟨1, 4, false, [.int .u32 0], 0, [], false, false⟩) := by kernel_rfl
@[go_sem] theorem fo266_3 : fldOf Tryz.prog 266 3 = some (3, ⟨1, 1, false, [.int .u8 0], 0, [], false, false⟩) := by kernel_rfl
@[go_sem] theorem fo266_4 : fldOf Tryz.prog 266 4 = some (4, ⟨1, 1, false, [.int .u8 0], 0, [], false, false⟩) := by kernel_rfl
@[go_sem] theorem fo266_5 : fldOf Tryz.prog 266 5 = some (5, ⟨1, 1, false, [.int .u8 0], 0, [], false, false⟩) := by kernel_rfl
@[go_sem] theorem fo266_6 : fldOf Tryz.prog 266 6 = some (6, ⟨1, 1, false, [.int .u8 0], 0, [], false, false⟩) := by kernel_rfl
@[go_sem] theorem fo266_7 : fldOf Tryz.prog 266 7 = some (7, ⟨1, 8, false, [.nilFunc], 0, [], false, false⟩) := by kernel_rfl
@[go_sem] theorem fo266_8 : fldOf Tryz.prog 266 8 = some (8, ⟨1, 8, false, [.pointer none], 0, [], false, false⟩) := by kernel_rfl
@[go_sem] theorem fo266_9 : fldOf Tryz.prog 266 9 = some (9, ⟨1, 4, false, [.int .i32 0], 0, [], false, false⟩) := by kernel_rfl
@[go_sem] theorem fo266_10 : fldOf Tryz.prog 266 10 = some (10, ⟨1, 4, false, [.int .i32 0], 0, [], false, false⟩) := by kernel_rfl
@[go_sem] theorem ty267 : TY Tryz.prog 267 = some ⟨11, 48, true, [.int .u64 0, .int .u64 0, .int .u32 0, .int .u8 0, .int .u8 0, .int .u8 0, .int .u8 0, .nilFunc, .pointer none, .int .i32 0, .int .i32 0], 0, [(0, 1), (1, 1), (2, 1), (3, 1), (4, 1), (5, 1), (6, 1), (7, 1), (8, 1), (9, 1), (10, 1)], false, false⟩ := by kernel_rfl
@[go_sem] theorem fo267_0 : fldOf Tryz.prog 267 0 = some (0, ⟨1, 8, false, [.int .u64 0], 0, [], false, false⟩) := by kernel_rfl
@[go_sem] theorem fo267_1 : fldOf Tryz.prog 267 1 = some (1, ⟨1, 8, false, [.int .u64 0], 0, [], false, false⟩) := by kernel_rfl
@[go_sem] theorem fo267_2 : fldOf Tryz.prog 267 2 = some (2, ⟨1, 4, false, [.int .u32 0], 0, [], false, false⟩) := by kernel_rfl
@[go_sem] theorem fo267_3 : fldOf Tryz.prog 267 3 = some (3, ⟨1, 1, false, [.int .u8 0], 0, [], false, false⟩) := by kernel_rfl
@[go_sem] theorem fo267_4 : fldOf Tryz.prog 267 4 = some (4, ⟨1, 1, false, [.int .u8 0], 0, [], false, false⟩) := by kernel_rfl
@[go_sem] theorem fo267_5 : fldOf Tryz.prog 267 5 = some (5, ⟨1, 1, false, [.int .u8 0], 0, [], false, false⟩) := by kernel_rfl
@[go_sem] theorem fo267_6 : fldOf Tryz.prog 267 6 = some (6, ⟨1, 1, false, [.int .u8 0], 0, [], false, false⟩) := by kernel_rfl
@[go_sem] theorem fo267_7 : fldOf Tryz.prog 267 7 = some (7, ⟨1, 8, false, [.nilFunc], 0, [], false, false⟩) := by kernel_rfl
@[go_sem] theorem fo267_8 : fldOf Tryz.prog 267 8 = some (8, ⟨1, 8, false, [.pointer none], 0, [], false, false⟩) := by kernel_rfl
@[go_sem] theorem fo267_9 : fldOf Tryz.prog 267 9 = some (9, ⟨1, 4, false, [.int .i32 0], 0, [], false, false⟩) := by kernel_rfl
@[go_sem] theorem fo267_10 : fldOf Tryz.prog 267 10 = some (10, ⟨1, 4, false, [.int .i32 0], 0, [], false, false⟩) := by kernel_rfl
end Go.Mt
