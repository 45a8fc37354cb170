/-
  A part of the proof.
-/
import Derived.Test.YtpoocfmphcgmkaaProg
import Derived.Test.YtpoocfmphcgmkaaQri9
set_option linter.unusedVariables false
set_option linter.unusedSimpArgs false
set_option linter.unusedSimpArgs false
set_option linter.unusedVariables false
namespace Go.Mt
open Go Go.Pm Go.Proofs
@[go_sem] theorem ty1 : TY Try.prog 1 = some ⟨1, 8, false, [.nilFunc], 0, [], false, false⟩ := by kernel_rfl
@[go_sem] theorem ty2 : TY Try.prog 2 = some ⟨1, 8, false, [.int .i64 0], 0, [], false, false⟩ := by kernel_rfl
@[go_sem] theorem kd2 : kindOf Try.prog 2 = some .i64 := by kernel_rfl
@[go_sem] theorem ty3 : TY Try.prog 3 = some ⟨1, 8, false, [.int .i64 0], 0, [], false, false⟩ := by kernel_rfl
@[go_sem] theorem kd3 : kindOf Try.prog 3 = some .i64 := by kernel_rfl
@[go_sem] theorem ty4 : TY Try.prog 4 = some ⟨1, 1, false, [.bool false], 0, [], false, false⟩ := by kernel_rfl
@[go_sem] theorem bl4 : isBool Try.prog 4 = true := by kernel_rfl
@[go_sem] theorem ty5 : TY Try.prog 5 = some ⟨1, 1, false, [.int .u8 0], 0, [], false, false⟩ := by kernel_rfl
@[go_sem] theorem kd5 : kindOf Try.prog 5 = some .u8 := by kernel_rfl
@[go_sem] theorem ty6 : TY Try.prog 6 = some ⟨1, 1, false, [.int .u8 0], 0, [], false, false⟩ := by kernel_rfl
@[go_sem] theorem kd6 : kindOf Try.prog 6 = some .u8 := by kernel_rfl
@[go_sem] theorem ty7 : TY Try.prog 7 = some ⟨4, 24, true, [.int .i64 0, .int .i64 0, .bool false, .int .u8 0], 0, [(0, 1), (1, 1), (2, 1), (3, 1)], false, false⟩ := by kernel_rfl
@[go_sem] theorem fo7_0 : fldOf Try.prog 7 0 = some (0, ⟨1, 8, false, [.int .i64 0], 0, [], false, false⟩) := by kernel_rfl
@[go_sem] theorem fo7_1 : fldOf Try.prog 7 1 = some (1, ⟨1, 8, false, [.int .i64 0], 0, [], false, false⟩) := by kernel_rfl
@[go_sem] theorem fo7_2 : fldOf Try.prog 7 2 = some (2, ⟨1, 1, false, [.bool false], 0, [], false, false⟩) := by kernel_rfl
@[go_sem] theorem fo7_3 : fldOf Try.prog 7 3 = some (3, ⟨1, 1, false, [.int .u8 0], 0, [], false, false⟩) := by kernel_rfl
@[go_sem] theorem ty8 : TY Try.prog 8 = some ⟨4, 24, true, [.int .i64 0, .int .i64 0, .bool false, .int .u8 0], 0, [(0, 1), (1, 1), (2, 1), (3, 1)], false, false⟩ := by kernel_rfl
@[go_sem] theorem fo8_0 : fldOf Try.prog 8 0 = some (0, ⟨1, 8, false, [.int .i64 0], 0, [], false, false⟩) := by kernel_rfl
@[go_sem] theorem fo8_1 : fldOf Try.prog 8 1 = some (1, ⟨1, 8, false, [.int .i64 0], 0, [], false, false⟩) := by kernel_rfl
@[go_sem] theorem fo8_2 : fldOf Try.prog 8 2 = some (2, ⟨1, 1, false, [.bool false], 0, [], false, false⟩) := by kernel_rfl
@[go_sem] theorem fo8_3 : fldOf Try.prog 8 3 = some (3, ⟨1, 1, false, [.int .u8 0], 0, [], false, false⟩) := by kernel_rfl
@[go_sem] theorem ty12 : TY Try.prog 12 = some ⟨1, 8, false, [.int .u64 0], 0, [], false, false⟩ := by kernel_rfl
@[go_sem] theorem kd12 : kindOf Try.prog 12 = some .u64 := by kernel_rfl
@[go_sem] theorem ty15 : TY Try.prog 15 = some ⟨1, 8, false, [.pointer none], 0, [], false, false⟩ := by kernel_rfl
@[go_sem] theorem ty16 : TY Try.prog 16 = some ⟨1, 8, false, [.pointer none], 0, [], false, false⟩ := by kernel_rfl
@[go_sem] theorem ty17 : TY Try.prog 17 = some ⟨1, 8, false, [.pointer none], 0, [], false, false⟩ := by kernel_rfl
@[go_sem] theorem ty18 : TY Try.prog 18 = some ⟨1, 8, true, [.pointer none], 0, [(0, 1)], false, false⟩ := by kernel_rfl
@[go_sem] theorem fo18_0 : fldOf Try.prog 18 0 = some (0, ⟨1, 8, false, [.pointer none], 0, [], false, false⟩) := by kernel_rfl
@[go_sem] theorem ty19 : TY Try.prog 19 = some ⟨1, 8, true, [.pointer none], 0, [(0, 1)], false, false⟩ := by kernel_rfl
@[go_sem] theorem fo19_0 : fldOf Try.prog 19 0 = some (0, ⟨1, 8, false, [.pointer none], 0, [], false, false⟩) := by kernel_rfl
@[go_sem] theorem ty21 : TY Try.prog 21 = some ⟨1, 4, false, [.int .i32 0], 0, [], false, false⟩ := by kernel_rfl
@[go_sem] theorem kd21 : kindOf Try.prog 21 = some .i32 := by kernel_rfl
@[go_sem] theorem ty22 : TY Try.prog 22 = some ⟨1, 24, false, [.slice none 0 0], 80, [], false, true⟩ := by kernel_rfl
@[go_sem] theorem ty23 : TY Try.prog 23 = some ⟨1, 24, false, [.slice none 0 0], 80, [], false, true⟩ := by kernel_rfl
@[go_sem] theorem ty24 : TY Try.prog 24 = some ⟨2, 32, true, [.bool false, .slice none 0 0], 0, [(0, 1), (1, 1)], false, false⟩ := by kernel_rfl
@[go_sem] theorem fo24_0 : fldOf Try.prog 24 0 = some (0, ⟨1, 1, false, [.bool false], 0, [], false, false⟩) := by kernel_rfl
@[go_sem] theorem fo24_1 : fldOf Try.prog 24 1 = some (1, ⟨1, 24, false, [.slice none 0 0], 80, [], false, true⟩) := by kernel_rfl
@[go_sem] theorem ty25 : TY Try.prog 25 = some ⟨2, 32, true, [.bool false, .slice none 0 0], 0, [(0, 1), (1, 1)], false, false⟩ := by kernel_rfl
@[go_sem] theorem fo25_0 : fldOf Try.prog 25 0 = some (0, ⟨1, 1, false, [.bool false], 0, [], false, false⟩) := by kernel_rfl
@[go_sem] theorem fo25_1 : fldOf Try.prog 25 1 = some (1, ⟨1, 24, false, [.slice none 0 0], 80, [], false, true⟩) := by kernel_rfl
@[go_sem] theorem ty26 : TY Try.prog 26 = some ⟨1, 24, false, [.slice none 0 0], 46, [], false, true⟩ := by kernel_rfl
@[go_sem] theorem ty27 : TY Try.prog 27 = some ⟨3, 56, true, [.bool false, .slice none 0 0, .slice none 0 0], 0, [(0, 2), (2, 1)], false, false⟩ := by kernel_rfl
@[go_sem] theorem fo27_0 : fldOf Try.prog 27 0 = some (0, ⟨2, 32, true, [.bool false, .slice none 0 0], 0, [(0, 1), (1, 1)], false, false⟩) := by kernel_rfl
@[go_sem] theorem fo27_1 : fldOf Try.prog 27 1 = some (2, ⟨1, 24, false, [.slice none 0 0], 46, [], false, true⟩) := by kernel_rfl
@[go_sem] theorem ty28 : TY Try.prog 28 = some ⟨3, 56, true, [.bool false, .slice none 0 0, .slice none 0 0], 0, [(0, 2), (2, 1)], false, false⟩ := by kernel_rfl
@[go_sem] theorem fo28_0 : fldOf Try.prog 28 0 = some (0, ⟨2, 32, true, [.bool false, .slice none 0 0], 0, [(0, 1), (1, 1)], false, false⟩) := by kernel_rfl
@[go_sem] theorem fo28_1 : fldOf Try.prog 28 1 = some (2, ⟨1, 24, false, [.slice none 0 0], 46, [], false, true⟩) := by kernel_rfl
@[go_sem] theorem ty29 : TY Try.prog 29 = some ⟨9, 168, true, [.bool false, .slice none 0 0, .slice none 0 0, .bool false, .slice none 0 0, .slice none 0 0, .bool false, .slice none 0 0, .slice none 0 0], 28, [], true, false⟩ := by kernel_rfl
@[go_sem] theorem ao29 : arrOf Try.prog 29 = some (3, ⟨3, 56, true, [.bool false, .slice none 0 0, .slice none 0 0], 0, [(0, 2), (2, 1)], false, false⟩) := by kernel_rfl
@[go_sem] theorem pc29 : plcs Try.prog ⟨9, 168, true, [.bool false, .slice none 0 0, .slice none 0 0, .bool false, .slice none 0 0, .slice none 0 0, .bool false, .slice none 0 0, .slice none 0 0], 28, [], true, false⟩ = some [(0, 3), (3, 3), (6, 3), (9, 3), (12, 3), (15, 3), (18, 3), (21, 3), (24, 3)] := by kernel_rfl
@[go_sem] theorem ty31 : TY Try.prog 31 = some ⟨1, 8, false, [.nilFunc], 0, [], false, false⟩ := by kernel_rfl
@[go_sem] theorem ty32 : TY Try.prog 32 = some ⟨1, 8, false, [.nilFunc], 0, [], false, false⟩ := by kernel_rfl
@[go_sem] theorem ty33 : TY Try.prog 33 = some ⟨1, 8, false, [.nilFunc], 0, [], false, false⟩ := by kernel_rfl
@[go_sem] theorem ty34 : TY Try.prog 34 = some ⟨1, 8, false, [.int .i64 0], 0, [], false, false⟩ := by kernel_rfl
@[go_sem] theorem kd34 : kindOf Try.prog 34 = some .i64 := by kernel_rfl
@[go_sem] theorem ty36 : TY Try.prog 36 = some ⟨1, 8, false, [.nilFunc], 0, [], false, false⟩ := by kernel_rfl
@[go_sem] theorem ty37 : TY Try.prog 37 = some ⟨1, 8, false, [.nilFunc], 0, [], false, false⟩ := by kernel_rfl
@[go_sem] theorem ty38 : TY Try.prog 38 = some ⟨4, 64, true, [.bool false, .slice none 0 0, .bool false, .slice none 0 0], 0, [(0, 2), (2, 2)], false, false⟩ := by kernel_rfl
@[go_sem] theorem fo38_0 : fldOf Try.prog 38 0 = some (0, ⟨2, 32, true, [.bool false, .slice none 0 0], 0, [(0, 1), (1, 1)], false, false⟩) := by kernel_rfl
@[go_sem] theorem fo38_1 : fldOf Try.prog 38 1 = some (2, ⟨2, 32, true, [.bool false, .slice none 0 0], 0, [(0, 1), (1, 1)], false, false⟩) := by kernel_rfl
@[go_sem] theorem ty39 : TY Try.prog 39 = some ⟨4, 64, true, [.bool false, .slice none 0 0, .bool false, .slice none 0 0], 0, [(0, 2), (2, 2)], false, false⟩ := by kernel_rfl
@[go_sem] theorem fo39_0 : fldOf Try.prog 39 0 = some (0, ⟨2, 32, true, [.bool false, .slice none 0 0], 0, [(0, 1), (1, 1)], false, false⟩) := by kernel_rfl
@[go_sem] theorem fo39_1 : fldOf Try.prog 39 1 = some (2, ⟨2, 32, true, [.bool false, .slice none 0 0], 0, [(0, 1), (1, 1)], false, false⟩) := by kernel_rfl
@[go_sem] theorem ty41 : TY Try.prog 41 = some ⟨1, 8, false, [.nilFunc], 0, [], false, false⟩ := by kernel_rfl
@[go_sem] theorem ty42 : TY Try.prog 42 = some ⟨1, 8, false, [.nilFunc], 0, [], false, false⟩ := by kernel_rfl
@[go_sem] theorem ty43 : TY Try.prog 43 = some ⟨1, 8, false, [.nilFunc], 0, [], false, false⟩ := by kernel_rfl
@[go_sem] theorem ty44 : TY Try.prog 44 = some ⟨1, 8, false, [.nilFunc], 0, [], false, false⟩ := by kernel_rfl
@[go_sem] theorem ty45 : TY Try.prog 45 = some ⟨1, 8, false, [.nilFunc], 0, [], false, false⟩ := by kernel_rfl
@[go_sem] theorem ty46 : TY Try.prog 46 = some ⟨1, 24, false, [.slice none 0 0], 25, [], false, true⟩ := by kernel_rfl
@[go_sem] theorem ty47 : TY Try.prog 47 = some ⟨1, 8, false, [.nilFunc], 0, [], false, false⟩ := by kernel_rfl
@[go_sem] theorem ty48 : TY Try.prog 48 = some ⟨1, 8, false, [.nilFunc], 0, [], false, false⟩ := by kernel_rfl
@[go_sem] theorem ty49 : TY Try.prog 49 = some ⟨1, 8, false, [.nilFunc], 0, [], false, false⟩ := by kernel_rfl
@[go_sem] theorem ty50 : TY Try.prog 50 = some ⟨1, 24, false, [.slice none 0 0], 2, [], false, true⟩ := by kernel_rfl
@[go_sem] theorem ty51 : TY Try.prog 51 = some ⟨1, 8, false, [.nilFunc], 0, [], false, false⟩ := by kernel_rfl
@[go_sem] theorem ty52 : TY Try.prog 52 = some ⟨1, 8, false, [.nilFunc], 0, [], false, false⟩ := by kernel_rfl
@[go_sem] theorem ty53 : TY Try.prog 53 = some ⟨1, 8, false, [.nilFunc], 0, [], false, false⟩ := by kernel_rfl
@[go_sem] theorem ty54 : TY Try.prog 54 = some ⟨1, 8, false, [.nilFunc], 0, [], false, false⟩ := by kernel_rfl
@[go_sem] theorem ty55 : TY Try.prog 55 = some ⟨1, 8, false, [.nilFunc], 0, [], false, false⟩ := by kernel_rfl
@[go_sem] theorem ty56 : TY Try.prog 56 = some ⟨1, 8, false, [.nilFunc], 0, [], false, false⟩ := by kernel_rfl
@[go_sem] theorem ty57 : TY Try.prog 57 = some ⟨1, 8, false, [.nilFunc], 0, [], false, false⟩ := by kernel_rfl
@[go_sem] theorem ty58 : TY Try.prog 58 = some ⟨1, 8, false, [.nilFunc], 0, [], false, false⟩ := by kernel_rfl
@[go_sem] theorem ty59 : TY Try.prog 59 = some ⟨1, 8, false, [.nilFunc], 0, [], false, false⟩ := by kernel_rfl
@[go_sem] theorem ty61 : TY Try.prog 61 = some ⟨1, 8, false, [.nilFunc], 0, [], false, false⟩ := by kernel_rfl
@[go_sem] theorem ty62 : TY Try.prog 62 = some ⟨1, 8, false, [.nilFunc], 0, [], false, false⟩ := by kernel_rfl
@[go_sem] theorem ty63 : TY Try.prog 63 = some ⟨1, 8, false, [.nilFunc], 0, [], false, false⟩ := by kernel_rfl
@[go_sem] theorem ty64 : TY Try.prog 64 = some ⟨1, 8, false, [.nilFunc], 0, [], false, false⟩ := by kernel_rfl
@[go_sem] theorem ty65 : TY Try.prog 65 = some ⟨1, 8, false, [.int .u64 0], 0, [], false, false⟩ := by kernel_rfl
@[go_sem] theorem kd65 : kindOf Try.prog 65 = some .u64 := by kernel_rfl
@[go_sem] theorem ty66 : TY Try.prog 66 = some ⟨1, 24, false, [.slice none 0 0], 50, [], false, true⟩ := by kernel_rfl
@[go_sem] theorem ty67 : TY Try.prog 67 = some ⟨1, 24, false, [.slice none 0 0], 28, [], false, true⟩ := by kernel_rfl
@[go_sem] theorem ty69 : TY Try.prog 69 = some ⟨1, 8, false, [.nilFunc], 0, [], false, false⟩ := by kernel_rfl
@[go_sem] theorem ty70 : TY Try.prog 70 = some ⟨1, 24, false, [.slice none 0 0], 46, [], false, true⟩ := by kernel_rfl
@[go_sem] theorem ty71 : TY Try.prog 71 = some ⟨1, 8, false, [.nilFunc], 0, [], false, false⟩ := by kernel_rfl
@[go_sem] theorem ty72 : TY Try.prog 72 = some ⟨1, 8, false, [.nilFunc], 0, [], false, false⟩ := by kernel_rfl
@[go_sem] theorem ty73 : TY Try.prog 73 = some ⟨1, 8, false, [.nilFunc], 0, [], false, false⟩ := by kernel_rfl
@[go_sem] theorem ty74 : TY Try.prog 74 = some ⟨1, 8, false, [.nilFunc], 0, [], false, false⟩ := by kernel_rfl
@[go_sem] theorem ty75 : TY Try.prog 75 = some ⟨1, 8, false, [.nilFunc], 0, [], false, false⟩ := by kernel_rfl
@[go_sem] theorem ty76 : TY Try.prog 76 = some ⟨1, 8, false, [.nilFunc], 0, [], false, false⟩ := by kernel_rfl
@[go_sem] theorem ty77 : TY Try.prog 77 = some ⟨1, 8, false, [.nilFunc], 0, [], false, false⟩ := by kernel_rfl
@[go_sem] theorem ty78 : TY Try.prog 78 = some ⟨1, 8, false, [.nilFunc], 0, [], false, false⟩ := by kernel_rfl
@[go_sem] theorem ty79 : TY Try.prog 79 = some ⟨1, 8, false, [.nilFunc], 0, [], false, false⟩ := by kernel_rfl
@[go_sem] theorem ty80 : TY Try.prog 80 = some ⟨1, 4, false, [.int .u32 0], 0, [], false, false⟩ := by kernel_rfl
@[go_sem] theorem kd80 : kindOf Try.prog 80 = some .u32 := by kernel_rfl
@[go_sem] theorem ty81 : TY Try.prog 81 = some ⟨1, 8, false, [.nilFunc], 0, [], false, false⟩ := by kernel_rfl
@[go_sem] theorem ty83 : TY Try.prog 83 = some ⟨1, 8, false, [.nilFunc], 0, [], false, false⟩ := by kernel_rfl
@[go_sem] theorem ty84 : TY Try.prog 84 = some ⟨1, 8, false, [.nilFunc], 0, [], false, false⟩ := by kernel_rfl
@[go_sem] theorem ty85 : TY Try.prog 85 = some ⟨1, 8, false, [.nilFunc], 0, [], false, false⟩ := by kernel_rfl
@[go_sem] theorem ty86 : TY Try.prog 86 = some ⟨1, 8, false, [.nilFunc], 0, [], false, false⟩ := by kernel_rfl
@[go_sem] theorem ty87 : TY Try.prog 87 = some ⟨1, 8, false, [.nilFunc], 0, [], false, false⟩ := by kernel_rfl
@[go_sem] theorem ty88 : TY Try.prog 88 = some ⟨1, 8, false, [.int .u64 0], 0, [], false, false⟩ := by kernel_rfl
@[go_sem] theorem kd88 : kindOf Try.prog 88 = some .u64 := by kernel_rfl
@[go_sem] theorem ty89 : TY Try.prog 89 = some ⟨1, 8, false, [.nilFunc], 0, [], false, false⟩ := by kernel_rfl
@[go_sem] theorem ty91 : TY Try.prog 91 = some ⟨1, 8, false, [.nilFunc], 0, [], false, false⟩ := by kernel_rfl
@[go_sem] theorem ty92 : TY Try.prog 92 = some ⟨1, 8, false, [.nilFunc], 0, [], false, false⟩ := by kernel_rfl
@[go_sem] theorem ty93 : TY Try.prog 93 = some ⟨1, 8, false, [.nilFunc], 0, [], false, false⟩ := by kernel_rfl
@[go_sem] theorem ty95 : TY Try.prog 95 = some ⟨1, 8, false, [.nilFunc], 0, [], false, false⟩ := by kernel_rfl
@[go_sem] theorem ty96 : TY Try.prog 96 = some ⟨1, 8, false, [.nilFunc], 0, [], false, false⟩ := by kernel_rfl
@[go_sem] theorem ty98 : TY Try.prog 98 = some ⟨1, 8, false, [.nilFunc], 0, [], false, false⟩ := by kernel_rfl
@[go_sem] theorem ty99 : TY Try.prog 99 = some ⟨1, 8, false, [.nilFunc], 0, [], false, false⟩ := by kernel_rfl
@[go_sem] theorem ty101 : TY Try.prog 101 = some ⟨1, 8, false, [.nilFunc], 0, [], false, false⟩ := by kernel_rfl
@[go_sem] theorem ty103 : TY Try.prog 103 = some ⟨1, 8, false, [.nilFunc], 0, [], false, false⟩ := by kernel_rfl
@[go_sem] theorem ty104 : TY Try.prog 104 = some ⟨1, 8, false, [.nilFunc], 0, [], false, false⟩ := by kernel_rfl
@[go_sem] theorem ty105 : TY Try.prog 105 = some ⟨1, 8, false, [.nilFunc], 0, [], false, false⟩ := by kernel_rfl
@[go_sem] theorem ty106 : TY Try.prog 106 = some ⟨1, 8, false, [.nilFunc], 0, [], false, false⟩ := by kernel_rfl
@[go_sem] theorem ty109 : TY Try.prog 109 = some ⟨0, 0, true, [], 16, [], true, false⟩ := by kernel_rfl
@[go_sem] theorem ao109 : arrOf Try.prog 109 = some (0, ⟨1, 8, false, [.pointer none], 0, [], false, false⟩) := by kernel_rfl
@[go_sem] theorem pc109 : plcs Try.prog ⟨0, 0, true, [], 16, [], true, false⟩ = some [] := by kernel_rfl
@[go_sem] theorem ty110 : TY Try.prog 110 = some ⟨0, 0, true, [], 0, [(0, 0)], false, false⟩ := by kernel_rfl
@[go_sem] theorem fo110_0 : fldOf Try.prog 110 0 = some (0, ⟨0, 0, true, [], 16, [], true, false⟩) := by kernel_rfl
@[go_sem] theorem ty111 : TY Try.prog 111 = some ⟨0, 0, true, [], 0, [(0, 0)], false, false⟩ := by kernel_rfl
@[go_sem] theorem fo111_0 : fldOf Try.prog 111 0 = some (0, ⟨0, 0, true, [], 16, [], true, false⟩) := by kernel_rfl
@[go_sem] theorem ty112 : TY Try.prog 112 = some ⟨1, 1, false, [.int .u8 0], 0, [], false, false⟩ := by kernel_rfl
@[go_sem] theorem kd112 : kindOf Try.prog 112 = some .u8 := by kernel_rfl
@[go_sem] theorem ty113 : TY Try.prog 113 = some ⟨1, 1, false, [.int .u8 0], 0, [], false, false⟩ := by kernel_rfl
@[go_sem] theorem kd113 : kindOf Try.prog 113 = some .u8 := by kernel_rfl
@[go_sem] theorem ty114 : TY Try.prog 114 = some ⟨1, 8, false, [.nilFunc], 0, [], false, false⟩ := by kernel_rfl
@[go_sem] theorem ty115 : TY Try.prog 115 = some ⟨1, 8, false, [.pointer none], 0, [], false, false⟩ := by kernel_rfl
@[go_sem] theorem ty116 : TY Try.prog 116 = some ⟨1, 4, false, [.int .i32 0], 0, [], false, false⟩ := by kernel_rfl
@[go_sem] theorem kd116 : kindOf Try.prog 116 = some .i32 := by kernel_rfl
@[go_sem] theorem ty117 : TY Try.prog 117 = some ⟨1, 4, false, [.int .i32 0], 0, [], false, false⟩ := by kernel_rfl
@[go_sem] theorem kd117 : kindOf Try.prog 117 = some .i32 := by kernel_rfl
@[go_sem] theorem ty118 : TY Try.prog 118 = some ⟨11, 48, true, [.int .u64 0, .int .u64 0, .int .u32 0, .int .u8 0, .int .u8 0, .int .u8 0, .int .u8 0, .nilFunc, .pointer none, .int .i32 0, .int .i32 0], 0, [(0, 1), (1, 1), (2, 1), (3, 1), (4, 1), (5, 1), (6, 1), (7, 1), (8, 1), (9, 1), (10, 1)], false, false⟩ := by kernel_rfl
@[go_sem] theorem fo118_0 : fldOf Try.prog 118 0 = some (0, ⟨1, 8, false, [.int .u64 0], 0, [], false, false⟩) := by kernel_rfl
@[go_sem] theorem fo118_1 : fldOf Try.prog 118 1 = some (1, ⟨1, 8, false, [.int .u64 0], 0, [], false, false⟩) := by kernel_rfl
@[go_sem] theorem fo118_2 : fldOf Try.prog 118 2 = some (2, ⟨1, 4, false, [.int .u32 0], 0, [], false, false⟩) := by kernel_rfl
@[go_sem] theorem fo118_3 : fldOf Try.prog 118 3 = some (3, ⟨1, 1, false, [.int .u8 0], 0, [], false, false⟩) := by kernel_rfl
@[go_sem] theorem fo118_4 : fldOf Try.prog 118 4 = some (4, ⟨1, 1, false, [.int .u8 0], 0, [], false, false⟩) := by kernel_rfl
@[go_sem] theorem fo118_5 : fldOf Try.prog 118 5 = some (5, ⟨1, 1, false, [.int .u8 0], 0, [], false, false⟩) := by kernel_rfl
@[go_sem] theorem fo118_6 : fldOf Try.prog 118 6 = some (6, ⟨1, 1, false, [.int .u8 0], 0, [], false, false⟩) := by kernel_rfl
@[go_sem] theorem fo118_7 : fldOf Try.prog 118 7 = some (7, ⟨1, 8, false, [.nilFunc], 0, [], false, false⟩) := by kernel_rfl
@[go_sem] theorem fo118_8 : fldOf Try.prog 118 8 = some (8, ⟨1, 8, false, [.pointer none], 0, [], false, false⟩) := by kernel_rfl
@[go_sem] theorem fo118_9 : fldOf Try.prog 118 9 = some (9, ⟨1, 4, false, [.int .i32 0], 0, [], false, false⟩) := by kernel_rfl
@[go_sem] theorem fo118_10 : fldOf Try.prog 118 10 = some (10, ⟨1, 4, false, [.int .i32 0], 0, [], false, false⟩) := by kernel_rfl
@[go_sem] theorem ty119 : TY Try.prog 119 = some ⟨11, 48, true, [.int .u64 0, .int .u64 0, .int .u32 0, .int .u8 0, .int .u8 0, .int .u8 0, .int .u8 0, .nilFunc, .pointer none, .int .i32 0, .int .i32 0], 0, [(0, 1), (1, 1), (2, 1), (3, 1), (4, 1), (5, 1), (6, 1), (7, 1), (8, 1), (9, 1), (10, 1)], false, false⟩ := by kernel_rfl
@[go_sem] theorem fo119_0 : fldOf Try.prog 119 0 = some (0, ⟨1, 8, false, [.int .u64 0], 0, [], false, false⟩) := by kernel_rfl
@[go_sem] theorem fo119_1 : fldOf Try.prog 119 1 = some (1, ⟨1, 8, false, [.int .u64 0], 0, [], false, false⟩) := by kernel_rfl
@[go_sem] theorem fo119_2 : fldOf Try.prog 119 2 = some (2, ⟨1, 4, false, [.int .u32 0], 0, [], false, false⟩) := by kernel_rfl
@[go_sem] theorem fo119_3 : fldOf Try.prog 119 3 = some (3, ⟨1, 1, false, [.int .u8 0], 0, [], false, false⟩) := by kernel_rfl
@[go_sem] theorem fo119_4 : fldOf Try.prog 119 4 = some (4, ⟨1, 1, false, [.int .u8 0], 0, [], false, false⟩) := by kernel_rfl
@[go_sem] theorem fo119_5 : fldOf Try.prog 119 5 = some (5, ⟨1, 1, false, [.int .u8 0], 0, [], false, false⟩) := by kernel_rfl
@[go_sem] theorem fo119_6 : fldOf Try.prog 119 6 = some (6, ⟨1, 1, false, [.int .u8 0], 0, [], false, false⟩) := by kernel_rfl
@[go_sem] theorem fo119_7 : fldOf Try.prog 119 7 = some (7, ⟨1, 8, false, [.nilFunc], 0, [], false, false⟩) := by kernel_rfl
@[go_sem] theorem fo119_8 : fldOf Try.prog 119 8 = some (8, ⟨1, 8, false, [.pointer none], 0, [], false, false⟩) := by kernel_rfl
@[go_sem] theorem fo119_9 : fldOf Try.prog 119 9 = some (9, ⟨1, 4, false, [.int .i32 0], 0, [], false, false⟩) := by kernel_rfl
@[go_sem] theorem fo119_10 : fldOf Try.prog 119 10 = some (10, ⟨1, 4, false, [.int .i32 0], 0, [], false, false⟩) := by kernel_rfl
end Go.Mt
