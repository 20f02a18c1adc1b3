/- Texts of the law LockWaits, part 4: lemmas; what is proved stands in the last text. -/
import Derived.Test.YteebiklebedneaaDoorProg
import Derived.Test.YteebiklebedneaaDoorZz3
import Derived.Test.YteebiklebedneaaDoorZz1
import Derived.Below
import Derived.OpenShut
import Derived.WalkKit
import Derived.ProofKit
import Derived.ChangeOld
import Derived.Deep.Strs
import Derived.Sort.Grow
import Derived.Sort.Row
import Derived.Shelf.Sort.Plain
import Derived.Shelf.Slices.CompactI
import Derived.Shelf.Slices.In.SortNone
import Derived.Ground.Names2Prog
import Derived.Lib.SlicesCompact
import Derived.Test.YteebiklebedneaaDoorCards
import Derived.Test.YteebiklebedneaaDoorTie
import Derived.ShutString
import Derived.Lib.SmallJoins
import Derived.Deep.DeepHandedRow
import Derived.Lib.LaidTab
import Derived.Test.YteebiklebedneaaDoorRows
import Derived.JoinedCond
import Derived.SizedLaws
set_option linter.unusedSimpArgs false
set_option linter.unusedVariables false
/- The program's types, as a table. -/
namespace Go.AM
open Go
theorem mixed : Go.Proofs.Tryd.prog.follows .mixedOrders = true := by kernel_rfl
@[go_sem] theorem ty_2 : tyOf Go.Proofs.Tryd.prog 2 = some ⟨.int .i64, 1, 8, some [.int .i64 0]⟩ := by kernel_rfl
@[go_sem] theorem ty_3 : tyOf Go.Proofs.Tryd.prog 3 = some ⟨.int .i64, 1, 8, some [.int .i64 0]⟩ := by kernel_rfl
@[go_sem] theorem ty_4 : tyOf Go.Proofs.Tryd.prog 4 = some ⟨.bool, 1, 1, some [.bool false]⟩ := by kernel_rfl
@[go_sem] theorem ty_5 : tyOf Go.Proofs.Tryd.prog 5 = some ⟨.int .u8, 1, 1, some [.int .u8 0]⟩ := by kernel_rfl
@[go_sem] theorem ty_6 : tyOf Go.Proofs.Tryd.prog 6 = some ⟨.int .u8, 1, 1, some [.int .u8 0]⟩ := by kernel_rfl
@[go_sem] theorem ty_7 : tyOf Go.Proofs.Tryd.prog 7 = some ⟨.struct [(0, 1), (1, 1), (2, 1), (3, 1)], 4, 24, some [.int .i64 0, .int .i64 0, .bool false, .int .u8 0]⟩ := by kernel_rfl
@[go_sem] theorem ty_8 : tyOf Go.Proofs.Tryd.prog 8 = some ⟨.struct [(0, 1), (1, 1), (2, 1), (3, 1)], 4, 24, some [.int .i64 0, .int .i64 0, .bool false, .int .u8 0]⟩ := by kernel_rfl
@[go_sem] theorem ty_9 : tyOf Go.Proofs.Tryd.prog 9 = some ⟨.str, 1, 16, some [.string ⟨#[]⟩]⟩ := by kernel_rfl
@[go_sem] theorem ty_10 : tyOf Go.Proofs.Tryd.prog 10 = some ⟨.str, 1, 16, some [.string ⟨#[]⟩]⟩ := by kernel_rfl
@[go_sem] theorem ty_11 : tyOf Go.Proofs.Tryd.prog 11 = some ⟨.str, 1, 16, some [.string ⟨#[]⟩]⟩ := by kernel_rfl
@[go_sem] theorem ty_12 : tyOf Go.Proofs.Tryd.prog 12 = some ⟨.int .u64, 1, 8, some [.int .u64 0]⟩ := by kernel_rfl
@[go_sem] theorem ty_13 : tyOf Go.Proofs.Tryd.prog 13 = some ⟨.struct [(0, 1), (1, 1)], 2, 24, some [.string ⟨#[]⟩, .int .u64 0]⟩ := by kernel_rfl
@[go_sem] theorem ty_14 : tyOf Go.Proofs.Tryd.prog 14 = some ⟨.struct [(0, 1), (1, 1)], 2, 24, some [.string ⟨#[]⟩, .int .u64 0]⟩ := by kernel_rfl
@[go_sem] theorem ty_15 : tyOf Go.Proofs.Tryd.prog 15 = some ⟨.ptr 187, 1, 8, some [.pointer none]⟩ := by kernel_rfl
@[go_sem] theorem ty_16 : tyOf Go.Proofs.Tryd.prog 16 = some ⟨.ptr 190, 1, 8, some [.pointer none]⟩ := by kernel_rfl
@[go_sem] theorem ty_17 : tyOf Go.Proofs.Tryd.prog 17 = some ⟨.ptr 197, 1, 8, some [.pointer none]⟩ := by kernel_rfl
@[go_sem] theorem ty_18 : tyOf Go.Proofs.Tryd.prog 18 = some ⟨.struct [(0, 1)], 1, 8, some [.pointer none]⟩ := by kernel_rfl
@[go_sem] theorem ty_19 : tyOf Go.Proofs.Tryd.prog 19 = some ⟨.struct [(0, 1)], 1, 8, some [.pointer none]⟩ := by kernel_rfl
@[go_sem] theorem ty_20 : tyOf Go.Proofs.Tryd.prog 20 = some ⟨.ifc, 1, 16, some [.nilIface]⟩ := by kernel_rfl
@[go_sem] theorem ty_21 : tyOf Go.Proofs.Tryd.prog 21 = some ⟨.int .i32, 1, 4, some [.int .i32 0]⟩ := by kernel_rfl
@[go_sem] theorem ty_22 : tyOf Go.Proofs.Tryd.prog 22 = some ⟨.slice 57, 1, 24, some [.slice none 0 0]⟩ := by kernel_rfl
@[go_sem] theorem ty_24 : tyOf Go.Proofs.Tryd.prog 24 = some ⟨.slice 5, 1, 24, some [.slice none 0 0]⟩ := by kernel_rfl
@[go_sem] theorem ty_25 : tyOf Go.Proofs.Tryd.prog 25 = some ⟨.int .i64, 1, 8, some [.int .i64 0]⟩ := by kernel_rfl
@[go_sem] theorem ty_30 : tyOf Go.Proofs.Tryd.prog 30 = some ⟨.slice 66, 1, 24, some [.slice none 0 0]⟩ := by kernel_rfl
@[go_sem] theorem ty_39 : tyOf Go.Proofs.Tryd.prog 39 = some ⟨.slice 82, 1, 24, some [.slice none 0 0]⟩ := by kernel_rfl
@[go_sem] theorem ty_40 : tyOf Go.Proofs.Tryd.prog 40 = some ⟨.struct [(0, 1), (1, 1)], 2, 48, some [.slice none 0 0, .slice none 0 0]⟩ := by kernel_rfl
@[go_sem] theorem ty_41 : tyOf Go.Proofs.Tryd.prog 41 = some ⟨.struct [(0, 1), (1, 1)], 2, 48, some [.slice none 0 0, .slice none 0 0]⟩ := by kernel_rfl
@[go_sem] theorem ty_43 : tyOf Go.Proofs.Tryd.prog 43 = some ⟨.slice 3, 1, 24, some [.slice none 0 0]⟩ := by kernel_rfl
@[go_sem] theorem ty_49 : tyOf Go.Proofs.Tryd.prog 49 = some ⟨.slice 43, 1, 24, some [.slice none 0 0]⟩ := by kernel_rfl
@[go_sem] theorem ty_56 : tyOf Go.Proofs.Tryd.prog 56 = some ⟨.struct [(0, 1), (1, 1), (2, 1)], 3, 32, some [.int .i64 0, .int .i64 0, .string ⟨#[]⟩]⟩ := by kernel_rfl
@[go_sem] theorem ty_57 : tyOf Go.Proofs.Tryd.prog 57 = some ⟨.struct [(0, 1), (1, 1), (2, 1)], 3, 32, some [.int .i64 0, .int .i64 0, .string ⟨#[]⟩]⟩ := by kernel_rfl
@[go_sem] theorem ty_59 : tyOf Go.Proofs.Tryd.prog 59 = some ⟨.int .u64, 1, 8, some [.int .u64 0]⟩ := by kernel_rfl
@[go_sem] theorem ty_62 : tyOf Go.Proofs.Tryd.prog 62 = some ⟨.ptr 64, 1, 8, some [.pointer none]⟩ := by kernel_rfl
@[go_sem] theorem ty_63 : tyOf Go.Proofs.Tryd.prog 63 = some ⟨.struct [(0, 1), (1, 1)], 2, 32, some [.pointer none, .slice none 0 0]⟩ := by kernel_rfl
@[go_sem] theorem ty_64 : tyOf Go.Proofs.Tryd.prog 64 = some ⟨.struct [(0, 1), (1, 1)], 2, 32, some [.pointer none, .slice none 0 0]⟩ := by kernel_rfl
@[go_sem] theorem ty_65 : tyOf Go.Proofs.Tryd.prog 65 = some ⟨.struct [(0, 1), (1, 1), (2, 1)], 3, 32, some [.int .i64 0, .string ⟨#[]⟩, .int .i64 0]⟩ := by kernel_rfl
@[go_sem] theorem ty_66 : tyOf Go.Proofs.Tryd.prog 66 = some ⟨.struct [(0, 1), (1, 1), (2, 1)], 3, 32, some [.int .i64 0, .string ⟨#[]⟩, .int .i64 0]⟩ := by kernel_rfl
@[go_sem] theorem ty_68 : tyOf Go.Proofs.Tryd.prog 68 = some ⟨.ifc, 1, 16, some [.nilIface]⟩ := by kernel_rfl
@[go_sem] theorem ty_69 : tyOf Go.Proofs.Tryd.prog 69 = some ⟨.ifc, 1, 16, some [.nilIface]⟩ := by kernel_rfl
@[go_sem] theorem ty_81 : tyOf Go.Proofs.Tryd.prog 81 = some ⟨.struct [(0, 1), (1, 1), (2, 1)], 3, 32, some [.int .i64 0, .string ⟨#[]⟩, .int .i64 0]⟩ := by kernel_rfl
@[go_sem] theorem ty_82 : tyOf Go.Proofs.Tryd.prog 82 = some ⟨.struct [(0, 1), (1, 1), (2, 1)], 3, 32, some [.int .i64 0, .string ⟨#[]⟩, .int .i64 0]⟩ := by kernel_rfl
@[go_sem] theorem ty_88 : tyOf Go.Proofs.Tryd.prog 88 = some ⟨.ptr 41, 1, 8, some [.pointer none]⟩ := by kernel_rfl
@[go_sem] theorem ty_94 : tyOf Go.Proofs.Tryd.prog 94 = some ⟨.map 3 95, 1, 8, some [.map none]⟩ := by kernel_rfl
@[go_sem] theorem ty_95 : tyOf Go.Proofs.Tryd.prog 95 = some ⟨.struct [], 0, 0, some []⟩ := by kernel_rfl
@[go_sem] theorem ty_98 : tyOf Go.Proofs.Tryd.prog 98 = some ⟨.slice 99, 1, 24, some [.slice none 0 0]⟩ := by kernel_rfl
@[go_sem] theorem ty_99 : tyOf Go.Proofs.Tryd.prog 99 = some ⟨.slice 4, 1, 24, some [.slice none 0 0]⟩ := by kernel_rfl
@[go_sem] theorem ty_102 : tyOf Go.Proofs.Tryd.prog 102 = some ⟨.slice 9, 1, 24, some [.slice none 0 0]⟩ := by kernel_rfl
@[go_sem] theorem ty_103 : tyOf Go.Proofs.Tryd.prog 103 = some ⟨.arr 12 9, 12, 192, some [.string ⟨#[]⟩, .string ⟨#[]⟩, .string ⟨#[]⟩, .string ⟨#[]⟩, .string ⟨#[]⟩, .string ⟨#[]⟩, .string ⟨#[]⟩, .string ⟨#[]⟩, .string ⟨#[]⟩, .string ⟨#[]⟩, .string ⟨#[]⟩, .string ⟨#[]⟩]⟩ := by kernel_rfl
@[go_sem] theorem ty_104 : tyOf Go.Proofs.Tryd.prog 104 = some ⟨.ptr 5, 1, 8, some [.pointer none]⟩ := by kernel_rfl
@[go_sem] theorem ty_111 : tyOf Go.Proofs.Tryd.prog 111 = some ⟨.arr 6 3, 6, 48, some [.int .i64 0, .int .i64 0, .int .i64 0, .int .i64 0, .int .i64 0, .int .i64 0]⟩ := by kernel_rfl
@[go_sem] theorem ty_112 : tyOf Go.Proofs.Tryd.prog 112 = some ⟨.arr 6 111, 36, 288, some [.int .i64 0, .int .i64 0, .int .i64 0, .int .i64 0, .int .i64 0, .int .i64 0, .int .i64 0, .int .i64 0, .int .i64 0, .int .i64 0, .int .i64 0, .int .i64 0, .int .i64 0, .int .i64 0, .int .i64 0, .int .i64 0, .int .i64 0, .int .i64 0, .int .i64 0, .int .i64 0, .int .i64 0, .int .i64 0, .int .i64 0, .int .i64 0, .int .i64 0, .int .i64 0, .int .i64 0, .int .i64 0, .int .i64 0, .int .i64 0, .int .i64 0, .int .i64 0, .int .i64 0, .int .i64 0, .int .i64 0, .int .i64 0]⟩ := by kernel_rfl
@[go_sem] theorem ty_116 : tyOf Go.Proofs.Tryd.prog 116 = some ⟨.arr 6 4, 6, 6, some [.bool false, .bool false, .bool false, .bool false, .bool false, .bool false]⟩ := by kernel_rfl
@[go_sem] theorem ty_117 : tyOf Go.Proofs.Tryd.prog 117 = some ⟨.arr 6 116, 36, 36, some [.bool false, .bool false, .bool false, .bool false, .bool false, .bool false, .bool false, .bool false, .bool false, .bool false, .bool false, .bool false, .bool false, .bool false, .bool false, .bool false, .bool false, .bool false, .bool false, .bool false, .bool false, .bool false, .bool false, .bool false, .bool false, .bool false, .bool false, .bool false, .bool false, .bool false, .bool false, .bool false, .bool false, .bool false, .bool false, .bool false]⟩ := by kernel_rfl
@[go_sem] theorem ty_120 : tyOf Go.Proofs.Tryd.prog 120 = some ⟨.int .u64, 1, 8, some [.int .u64 0]⟩ := by kernel_rfl
@[go_sem] theorem ty_133 : tyOf Go.Proofs.Tryd.prog 133 = some ⟨.int .i64, 1, 8, some [.int .i64 0]⟩ := by kernel_rfl
@[go_sem] theorem ty_141 : tyOf Go.Proofs.Tryd.prog 141 = some ⟨.int .u32, 1, 4, some [.int .u32 0]⟩ := by kernel_rfl
@[go_sem] theorem ty_145 : tyOf Go.Proofs.Tryd.prog 145 = some ⟨.arr 24 5, 24, 24, some [.int .u8 0, .int .u8 0, .int .u8 0, .int .u8 0, .int .u8 0, .int .u8 0, .int .u8 0, .int .u8 0, .int .u8 0, .int .u8 0, .int .u8 0, .int .u8 0, .int .u8 0, .int .u8 0, .int .u8 0, .int .u8 0, .int .u8 0, .int .u8 0, .int .u8 0, .int .u8 0, .int .u8 0, .int .u8 0, .int .u8 0, .int .u8 0]⟩ := by kernel_rfl
@[go_sem] theorem ty_149 : tyOf Go.Proofs.Tryd.prog 149 = some ⟨.int .i64, 1, 8, some [.int .i64 0]⟩ := by kernel_rfl
@[go_sem] theorem ty_152 : tyOf Go.Proofs.Tryd.prog 152 = some ⟨.ptr 173, 1, 8, some [.pointer none]⟩ := by kernel_rfl
@[go_sem] theorem ty_156 : tyOf Go.Proofs.Tryd.prog 156 = some ⟨.int .u64, 1, 8, some [.int .u64 0]⟩ := by kernel_rfl
@[go_sem] theorem ty_160 : tyOf Go.Proofs.Tryd.prog 160 = some ⟨.ptr 3, 1, 8, some [.pointer none]⟩ := by kernel_rfl
@[go_sem] theorem ty_163 : tyOf Go.Proofs.Tryd.prog 163 = some ⟨.struct [(0, 1), (1, 1)], 2, 2, some [.int .u8 0, .int .u8 0]⟩ := by kernel_rfl
@[go_sem] theorem ty_164 : tyOf Go.Proofs.Tryd.prog 164 = some ⟨.struct [(0, 1), (1, 1)], 2, 2, some [.int .u8 0, .int .u8 0]⟩ := by kernel_rfl
@[go_sem] theorem ty_165 : tyOf Go.Proofs.Tryd.prog 165 = some ⟨.arr 16 164, 32, 32, some [.int .u8 0, .int .u8 0, .int .u8 0, .int .u8 0, .int .u8 0, .int .u8 0, .int .u8 0, .int .u8 0, .int .u8 0, .int .u8 0, .int .u8 0, .int .u8 0, .int .u8 0, .int .u8 0, .int .u8 0, .int .u8 0, .int .u8 0, .int .u8 0, .int .u8 0, .int .u8 0, .int .u8 0, .int .u8 0, .int .u8 0, .int .u8 0, .int .u8 0, .int .u8 0, .int .u8 0, .int .u8 0, .int .u8 0, .int .u8 0, .int .u8 0, .int .u8 0]⟩ := by kernel_rfl
@[go_sem] theorem ty_167 : tyOf Go.Proofs.Tryd.prog 167 = some ⟨.arr 20 59, 20, 160, some [.int .u64 0, .int .u64 0, .int .u64 0, .int .u64 0, .int .u64 0, .int .u64 0, .int .u64 0, .int .u64 0, .int .u64 0, .int .u64 0, .int .u64 0, .int .u64 0, .int .u64 0, .int .u64 0, .int .u64 0, .int .u64 0, .int .u64 0, .int .u64 0, .int .u64 0, .int .u64 0]⟩ := by kernel_rfl
@[go_sem] theorem ty_172 : tyOf Go.Proofs.Tryd.prog 172 = some ⟨.struct [(0, 1), (1, 1), (2, 1)], 3, 48, some [.string ⟨#[]⟩, .string ⟨#[]⟩, .nilIface]⟩ := by kernel_rfl
@[go_sem] theorem ty_173 : tyOf Go.Proofs.Tryd.prog 173 = some ⟨.struct [(0, 1), (1, 1), (2, 1)], 3, 48, some [.string ⟨#[]⟩, .string ⟨#[]⟩, .nilIface]⟩ := by kernel_rfl
@[go_sem] theorem ty_175 : tyOf Go.Proofs.Tryd.prog 175 = some ⟨.ptr 156, 1, 8, some [.pointer none]⟩ := by kernel_rfl
@[go_sem] theorem ty_181 : tyOf Go.Proofs.Tryd.prog 181 = some ⟨.ptr 183, 1, 8, some [.pointer none]⟩ := by kernel_rfl
@[go_sem] theorem ty_182 : tyOf Go.Proofs.Tryd.prog 182 = some ⟨.struct [(0, 1)], 1, 16, some [.string ⟨#[]⟩]⟩ := by kernel_rfl
@[go_sem] theorem ty_183 : tyOf Go.Proofs.Tryd.prog 183 = some ⟨.struct [(0, 1)], 1, 16, some [.string ⟨#[]⟩]⟩ := by kernel_rfl
@[go_sem] theorem ty_184 : tyOf Go.Proofs.Tryd.prog 184 = some ⟨.arr 32 5, 32, 32, some [.int .u8 0, .int .u8 0, .int .u8 0, .int .u8 0, .int .u8 0, .int .u8 0, .int .u8 0, .int .u8 0, .int .u8 0, .int .u8 0, .int .u8 0, .int .u8 0, .int .u8 0, .int .u8 0, .int .u8 0, .int .u8 0, .int .u8 0, .int .u8 0, .int .u8 0, .int .u8 0, .int .u8 0, .int .u8 0, .int .u8 0, .int .u8 0, .int .u8 0, .int .u8 0, .int .u8 0, .int .u8 0, .int .u8 0, .int .u8 0, .int .u8 0, .int .u8 0]⟩ := by kernel_rfl
@[go_sem] theorem ty_186 : tyOf Go.Proofs.Tryd.prog 186 = some ⟨.struct [(0, 1), (1, 1), (2, 1), (3, 1)], 4, 40, some [.pointer none, .pointer none, .pointer none, .string ⟨#[]⟩]⟩ := by kernel_rfl
@[go_sem] theorem ty_187 : tyOf Go.Proofs.Tryd.prog 187 = some ⟨.struct [(0, 1), (1, 1), (2, 1), (3, 1)], 4, 40, some [.pointer none, .pointer none, .pointer none, .string ⟨#[]⟩]⟩ := by kernel_rfl
@[go_sem] theorem ty_188 : tyOf Go.Proofs.Tryd.prog 188 = some ⟨.arr 0 16, 0, 0, some []⟩ := by kernel_rfl
@[go_sem] theorem ty_189 : tyOf Go.Proofs.Tryd.prog 189 = some ⟨.struct [(0, 0)], 0, 0, some []⟩ := by kernel_rfl
@[go_sem] theorem ty_190 : tyOf Go.Proofs.Tryd.prog 190 = some ⟨.struct [(0, 0)], 0, 0, some []⟩ := by kernel_rfl
@[go_sem] theorem ty_191 : tyOf Go.Proofs.Tryd.prog 191 = some ⟨.int .u8, 1, 1, some [.int .u8 0]⟩ := by kernel_rfl
@[go_sem] theorem ty_192 : tyOf Go.Proofs.Tryd.prog 192 = some ⟨.int .u8, 1, 1, some [.int .u8 0]⟩ := by kernel_rfl
@[go_sem] theorem ty_194 : tyOf Go.Proofs.Tryd.prog 194 = some ⟨.int .i32, 1, 4, some [.int .i32 0]⟩ := by kernel_rfl
@[go_sem] theorem ty_195 : tyOf Go.Proofs.Tryd.prog 195 = some ⟨.int .i32, 1, 4, some [.int .i32 0]⟩ := by kernel_rfl
@[go_sem] theorem ty_196 : tyOf Go.Proofs.Tryd.prog 196 = some ⟨.struct [(0, 1), (1, 1), (2, 1), (3, 1), (4, 1), (5, 1), (6, 1), (7, 1), (8, 1), (9, 1), (10, 1)], 11, 48, some [.int .u64 0, .int .u64 0, .int .u32 0, .int .u8 0, .int .u8 0, .int .u8 0, .int .u8 0, .nilFunc, .pointer none, .int .i32 0, .int .i32 0]⟩ := by kernel_rfl
@[go_sem] theorem ty_197 : tyOf Go.Proofs.Tryd.prog 197 = some ⟨.struct [(0, 1), (1, 1), (2, 1), (3, 1), (4, 1), (5, 1), (6, 1), (7, 1), (8, 1), (9, 1), (10, 1)], 11, 48, some [.int .u64 0, .int .u64 0, .int .u32 0, .int .u8 0, .int .u8 0, .int .u8 0, .int .u8 0, .nilFunc, .pointer none, .int .i32 0, .int .i32 0]⟩ := by kernel_rfl
@[go_sem] theorem et_7 : etTop Go.Proofs.Tryd.prog 7 = some (.str [(0, 1, .prim (.int .i64)), (1, 1, .prim (.int .i64)), (2, 1, .prim .bool), (3, 1, .prim (.int .u8))]) := by kernel_rfl
@[go_sem] theorem et_8 : etTop Go.Proofs.Tryd.prog 8 = some (.str [(0, 1, .prim (.int .i64)), (1, 1, .prim (.int .i64)), (2, 1, .prim .bool), (3, 1, .prim (.int .u8))]) := by kernel_rfl
@[go_sem] theorem et_56 : etTop Go.Proofs.Tryd.prog 56 = some (.str [(0, 1, .prim (.int .i64)), (1, 1, .prim (.int .i64)), (2, 1, .prim .str)]) := by kernel_rfl
@[go_sem] theorem et_57 : etTop Go.Proofs.Tryd.prog 57 = some (.str [(0, 1, .prim (.int .i64)), (1, 1, .prim (.int .i64)), (2, 1, .prim .str)]) := by kernel_rfl
@[go_sem] theorem et_65 : etTop Go.Proofs.Tryd.prog 65 = some (.str [(0, 1, .prim (.int .i64)), (1, 1, .prim .str), (2, 1, .prim (.int .i64))]) := by kernel_rfl
@[go_sem] theorem et_66 : etTop Go.Proofs.Tryd.prog 66 = some (.str [(0, 1, .prim (.int .i64)), (1, 1, .prim .str), (2, 1, .prim (.int .i64))]) := by kernel_rfl
@[go_sem] theorem et_81 : etTop Go.Proofs.Tryd.prog 81 = some (.str [(0, 1, .prim (.int .i64)), (1, 1, .prim .str), (2, 1, .prim (.int .i64))]) := by kernel_rfl
@[go_sem] theorem et_82 : etTop Go.Proofs.Tryd.prog 82 = some (.str [(0, 1, .prim (.int .i64)), (1, 1, .prim .str), (2, 1, .prim (.int .i64))]) := by kernel_rfl
@[go_sem] theorem et_95 : etTop Go.Proofs.Tryd.prog 95 = some (.str []) := by kernel_rfl
@[go_sem] theorem et_163 : etTop Go.Proofs.Tryd.prog 163 = some (.str [(0, 1, .prim (.int .u8)), (1, 1, .prim (.int .u8))]) := by kernel_rfl
@[go_sem] theorem et_164 : etTop Go.Proofs.Tryd.prog 164 = some (.str [(0, 1, .prim (.int .u8)), (1, 1, .prim (.int .u8))]) := by kernel_rfl
@[go_sem] theorem et_182 : etTop Go.Proofs.Tryd.prog 182 = some (.str [(0, 1, .prim .str)]) := by kernel_rfl
@[go_sem] theorem et_183 : etTop Go.Proofs.Tryd.prog 183 = some (.str [(0, 1, .prim .str)]) := by kernel_rfl
end Go.AM
/- The abstract machine, 19: slices that came in, as what is read. -/
namespace Go.AM
open Go Go.ChangeShapes Go.WideShapes Go.ChangeAt Go.RowKit
theorem add_none_ (a : Addr) (n : Nat) (h : a.spot = none) : a.add n = ⟨a.block, a.off + n, none⟩ := by
  unfold Addr.add
  split
  · rename_i h0; subst h0; cases a; simp_all
  · rfl
/-- All that lies. -/
def zAll (w : World) : Zone := fun _ b => b < w.heap.size
theorem open_ro {H α : Type} {E : TypeId × Value → H} {P : Program} {w : World} {base : Nat} {spare : Nat → Bool} {held : Bool} {k fuel : Nat} {t e : TypeId} {cs : List Value} {x : DataW H × List MemPlace}
    (enc : α → List AV) (R : α → DataW H → Prop) (tt : Bool) (ht : P.underlying t = some (.slice e)) (hk : P.cellsOf e = k) (hk0 : 0 < k)
    (leaf : ∀ fuel cs x, DataW.trod E P w base spare held fuel e cs = some x → ∃ y, Reps w (zAll w) [] (enc y) cs ∧ (∀ v ∈ cs, v.oneCell' = true) ∧ R y x.1)
    (h : DataW.trod E P w base spare held fuel t cs = some x) :
    ∃ (v : Value) (l : List α), cs = [v] ∧ Rep w (zAll w) [] (.ro tt k (l.map enc)) v ∧ v.oneCell' = true ∧
      ((l = [] ∧ x.1 = .nil) ∨ ∃ ds rest, x.1 = .slice ds rest ∧ ds.length = l.length ∧ ∀ (i : Nat) y, l[i]? = some y → ∃ d, ds[i]? = some d ∧ R y d) := by
  rcases DataW.trod_slice ht h with ⟨rfl, rfl⟩ | ⟨a, len, cap, elems, rest, n, _, rfl, rfl, hb, hl, hm, hlen, hel, -, -⟩
  · exact ⟨_, [], rfl, .nil _ _ _ _ _, rfl, .inl ⟨rfl, rfl⟩⟩
  have hy : ∀ i : Fin len, ∃ y cs', w.cells? base (a.add (i.1 * k)) k = some cs' ∧ Reps w (zAll w) [] (enc y) cs' ∧ (∀ v ∈ cs', v.oneCell' = true) ∧ ∃ d, (elems.map (·.1))[i.1]? = some d ∧ R y d := fun ⟨i, hi⟩ => by
    have h1 := hel i hi
    rw [List.getElem?_eq_getElem (by omega), hk] at h1
    obtain ⟨cs', h2, h3⟩ := Option.bind_eq_some_iff.1 h1
    obtain ⟨y, h4, h5, hR⟩ := leaf _ _ _ h3
    exact ⟨y, cs', h2, h4, h5, _, by simp [show i < elems.length by omega], hR⟩
  obtain ⟨f, hf⟩ := Classical.axiomOfChoice hy
  obtain ⟨g, hg⟩ := Classical.axiomOfChoice hf
  refine ⟨_, List.ofFn f, rfl, ?_, rfl, .inr ⟨_, _, rfl, by simp [hlen], fun i y hi => ?_⟩⟩
  · by_cases h0 : len = 0
    · subst h0; simp only [List.ofFn_zero, List.map_nil]; exact .nil _ _ _ _ _
    have c0 := hg ⟨0, by omega⟩
    obtain ⟨_, l0, g0⟩ := World.cells?_some c0.1
    have g1 := g0 0 hk0
    rw [List.getElem?_eq_getElem (by omega)] at g1
    have hs : a.spot = none := by
      simp only [Nat.zero_mul] at g1
      have e0 : (a.add 0).add 0 = a := by simp [Addr.add]
      rw [e0] at g1
      unfold World.cell? at g1
      split at g1
      · split at g1
        · cases g1
        · rename_i h5; simpa using h5
      · cases g1
    have hlt : a.block < w.heap.size := by
      have := World.block_lt_of_cell? _ _ g1
      simpa [Addr.add] using this
    have ha : a = ⟨a.block, a.off, none⟩ := by cases a; simp_all
    have hlk : ∀ i : Fin len, (g i).length = k := fun i => (World.cells?_some (hg i).1).2.1
    have hmem : ∀ (i : Nat) (e : List AV), ((List.ofFn f).map enc)[i]? = some e → ∃ h : i < len, e = enc (f ⟨i, h⟩) := by
      intro i e hi
      rw [List.getElem?_map, List.getElem?_ofFn] at hi
      split at hi
      · rename_i h; exact ⟨h, by simpa using hi.symm⟩
      · simp at hi
    have key : ∀ (i : Nat) (e : List AV) (j : Nat) (x : AV), ((List.ofFn f).map enc)[i]? = some e → e[j]? = some x → ∃ (h : i < len) (y : Value), (g ⟨i, h⟩)[j]? = some y ∧ Rep w (zAll w) [] x y ∧ w.cell? ⟨a.block, a.off + i * k + j, none⟩ = some y := by
      intro i e j x hi hj
      obtain ⟨h, rfl⟩ := hmem i e hi
      obtain ⟨y, h1, h2⟩ := (hg ⟨i, h⟩).2.1.get hj
      refine ⟨h, y, h1, h2, ?_⟩
      obtain ⟨_, l1, g2⟩ := World.cells?_some (hg ⟨i, h⟩).1
      have hj' : j < k := by rw [← hlk ⟨i, h⟩]; exact (List.getElem?_eq_some_iff.1 h1).1
      have g3 := g2 j hj'
      rw [add_none_ a _ hs, add_none_ _ _ rfl] at g3
      rw [← h1, ← g3]
    have hlen2 : ((List.ofFn f).map enc).length = len := by simp
    let ys : Nat → Nat → Value := fun i j => if h : i < len then ((g ⟨i, h⟩)[j]?).getD undef else undef
    have hys : ∀ {i j : Nat} (h : i < len) {y : Value}, (g ⟨i, h⟩)[j]? = some y → ys i j = y := by
      intro i j h y hy; simp only [ys]; rw [dif_pos h, hy]; rfl
    have hro := Rep.ro (w := w) (z := zAll w) [] tt k ((List.ofFn f).map enc) a.block a.off cap ys hlt (by rw [hlen2]; exact hl) (fun i e hi => by obtain ⟨h, rfl⟩ := hmem i e hi; rw [← (hg ⟨i, h⟩).2.1.1]; exact hlk _)
      (fun i e j x hi hj => by obtain ⟨h, y, h1, _, h3⟩ := key i e j x hi hj; rw [hys h h1]; exact h3)
      (fun i e j x hi hj => by obtain ⟨h, y, h1, _, _⟩ := key i e j x hi hj; rw [hys h h1]; exact (hg ⟨i, h⟩).2.2.1 y (List.mem_of_getElem? h1))
      (fun i e j x hi hj => by obtain ⟨h, y, h1, h2, _⟩ := key i e j x hi hj; rw [hys h h1]; exact h2)
    rw [hlen2, ← ha] at hro
    exact hro
  · obtain ⟨hi', rfl⟩ : ∃ h : i < len, f ⟨i, h⟩ = y := by
      rw [List.getElem?_ofFn] at hi
      split at hi
      · rename_i h; exact ⟨h, by simpa using hi⟩
      · cases hi
    exact (hg ⟨i, hi'⟩).2.2.2
theorem rep1 {w : World} {z : Zone} {th : List NLoc} {x : AV} {v : Value} (h : Rep w z th x v) : Reps w z th [x] [v] := .cons h .nil
end Go.AM
/- The abstract machine, 20: contracts of the old form; arguments that say less. -/
namespace Go.AM
open Go
section
variable {P : Program}
/-- What lies in the tables. -/
def Globs (G : List (Nat × List Value)) (w : World) : Prop := ∀ g cs, (g, cs) ∈ G → g < w.heap.size ∧ ∀ (j : Nat) u, cs[j]? = some u → w.cell? ⟨g, j, none⟩ = some u
/-- A contract of the old form: a plain value; what was there is as it was. -/
theorem con_of_calls {f : Nat} {G : List (Nat × List Value)} {xs : List AV} {v : Value} (hok : okFn P f = true)
    (h : ∀ (w : World) (z : Zone) (vs : List Value), (∀ t b, z t b → b < w.heap.size) → Reps w z [] xs vs → Globs G w → Calls P f vs.toArray w (fun e w' => e = .returned v ∧ Go.RowKit.Below w.heap.size w w')) : Con P G f xs [] 0 (Is (.r v) [] 0) No := by
  refine ⟨hok, fun w th z own vs ho hm hr => ?_⟩
  have hth : th = [] := List.length_eq_zero_iff.1 hm.len
  subst hth
  refine (h w z vs hm.zlt hr (fun g cs hg => ⟨hm.zlt _ _ (hm.globs g cs hg).1, (hm.globs g cs hg).2⟩)).mono ?_
  rintro e w' ⟨rfl, hb⟩
  refine ⟨v, .r v, [], 0, [], z, .inl ⟨rfl, rfl, rfl, rfl⟩, ?_, .r _ _⟩
  refine ⟨rfl, fun i nd hi => by simp [lk] at hi, fun i j x y L M hi => by simp [lk] at hi, fun t b hz => Nat.lt_of_lt_of_le (hm.zlt t b hz) hb.size, hb.size, fun b hlt _ => hb.block b hlt, fun t b h => h, fun b h => .inl h, fun b h => h, ?_, fun i L hi => by simp at hi, ⟨hb.os, hb.tape, hb.output⟩⟩
  intro g cs hg
  obtain ⟨h1, h2⟩ := hm.globs g cs hg
  exact ⟨h1, fun j u hu => (cell_heap (hb.block g (hm.zlt _ _ h1)) j).trans (h2 j u hu)⟩
mutual
/-- The second says no more than the first: a nil slice is a slice without elements; what is read for good is read. -/
def wk : AV → AV → Prop
  | .r (.slice none 0 0), .ro _ _ [] => True
  | .agg a, .agg b => wkL a b
  | x, y => x = y
def wkL : List AV → List AV → Prop
  | [], [] => True
  | x :: a, y :: b => wk x y ∧ wkL a b
  | _, _ => False
end
variable {w : World} {z : Zone} {th : List NLoc}
mutual
theorem wk_rep : ∀ {x y : AV} {v : Value}, wk x y → Rep w z th x v → Rep w z th y v
  | .r u, y, v, h, hr => by
    unfold wk at h
    split at h
    · rename_i t k e; cases e; exact nil_ro _ _ hr
    · rename_i a b e; cases e
    · subst h; exact hr
  | .agg a, y, v, h, hr => by
    unfold wk at h
    split at h
    · rename_i e; cases e
    · rename_i a' b e; cases e
      obtain ⟨ys, rfl, hc⟩ := hr.agg_inv
      have := wkL_rep h hc
      exact .agg _ _ _ this.1 this.2
    · subst h; exact hr
  | .ro t k e, y, v, h, hr => by simp [wk] at h; subst h; exact hr
  | .re t c o, y, v, h, hr => by simp [wk] at h; subst h; exact hr
  | .s n l k, y, v, h, hr => by simp [wk] at h; subst h; exact hr
  | .p n i o, y, v, h, hr => by simp [wk] at h; subst h; exact hr
  | .tup c, y, v, h, hr => by simp [wk] at h; subst h; exact hr
  | .fn f c, y, v, h, hr => by simp [wk] at h; subst h; exact hr
  | .ifc t c, y, v, h, hr => by simp [wk] at h; subst h; exact hr
theorem wkL_rep : ∀ {x y : List AV} {vs : List Value}, wkL x y → Reps w z th x vs → Reps w z th y vs
  | [], [], vs, _, hr => hr
  | x :: a, y :: b, vs, h, hr => by
    unfold wkL at h
    obtain ⟨v, r, rfl, h1, h2⟩ := hr.head
    exact .cons (wk_rep h.1 h1) (wkL_rep h.2 h2)
  | [], _ :: _, _, h, _ => by simp [wkL] at h
  | _ :: _, [], _, h, _ => by simp [wkL] at h
end
theorem Con.weak {G : List (Nat × List Value)} {f : Nat} {xs xs' : List AV} {o : List (Nat × Nd)} {n : Nat} {Q R : AV → List (Nat × Nd) → Nat → Prop} (hc : Con P G f xs' o n Q R) (h : wkL xs xs') : Con P G f xs o n Q R :=
  hc.args (fun _ _ _ _ hr => wkL_rep h hr)
end
end Go.AM
/- Plain data of the program, as cells. -/
namespace Go.AM
open Go
structure V where
  k : Int
  n : Int
  s : ByteArray
def eV (x : V) : List AV := [.r (.int .i64 x.k), .r (.int .i64 x.n), .r (.string x.s)]
def sameV (x y : V) : Bool := x.k == y.k && (x.n == y.n && x.s.toList == y.s.toList)
def sameVs : List V → List V → Bool
  | [], [] => true
  | x :: r, y :: q => sameV x y && sameVs r q
  | _, _ => false
theorem drop_at {α : Type} {l : List α} {k : Nat} {x : α} (h : l[k]? = some x) : l.drop k = x :: l.drop (k + 1) := by
  obtain ⟨hk, rfl⟩ := List.getElem?_eq_some_iff.1 h
  exact List.drop_eq_getElem_cons hk
theorem sameVs_len : ∀ {a b : List V}, sameVs a b = true → a.length = b.length
  | [], [], _ => rfl
  | x :: r, y :: q, h => by simp [sameVs] at h; simp [sameVs_len h.2]
  | [], _ :: _, h => by simp [sameVs] at h
  | _ :: _, [], h => by simp [sameVs] at h
def eI (n : Int) : List AV := [.r (.int .i64 n)]
def eStr (s : ByteArray) : List AV := [.r (.string s)]
/-- A column. -/
structure CO where
  nm : ByteArray
  k : Int
def eC (c : CO) : List AV := [.r (.string c.nm), .r (.int .i64 c.k)]
/-- A token. -/
structure TK0 where
  k : Int
  s : ByteArray
  n : Int
def eT (t : TK0) : List AV := [.r (.int .i64 t.k), .r (.string t.s), .r (.int .i64 t.n)]
@[simp] theorem ptA_eV (a : V) : (∀ x, x ∈ eV a → PT x) = True := eq_true (by intro x hx; simp [eV] at hx; rcases hx with rfl | rfl | rfl <;> exact .r _)
@[simp] theorem ptA_eT (a : TK0) : (∀ x, x ∈ eT a → PT x) = True := eq_true (by intro x hx; simp [eT] at hx; rcases hx with rfl | rfl | rfl <;> exact .r _)
@[simp] theorem ptA_eI (a : Int) : (∀ x, x ∈ eI a → PT x) = True := eq_true (by intro x hx; simp [eI] at hx; subst hx; exact .r _)
@[simp] theorem ptA_eC (a : CO) : (∀ x, x ∈ eC a → PT x) = True := eq_true (by intro x hx; simp [eC] at hx; rcases hx with rfl | rfl <;> exact .r _)
@[simp] theorem ptA_eStr (a : ByteArray) : (∀ x, x ∈ eStr a → PT x) = True := eq_true (by intro x hx; simp [eStr] at hx; subst hx; exact .r _)
instance : PTf eV := ⟨fun a => of_eq_true (ptA_eV a)⟩
instance : PTf eT := ⟨fun a => of_eq_true (ptA_eT a)⟩
instance : PTf eI := ⟨fun a => of_eq_true (ptA_eI a)⟩
instance : PTf eC := ⟨fun a => of_eq_true (ptA_eC a)⟩
instance : PTf eStr := ⟨fun a => of_eq_true (ptA_eStr a)⟩
theorem pt_eV : ∀ {l : List V}, ∀ e ∈ l.map eV, ∀ x ∈ e, PT x := by
  intro l e he x hx
  obtain ⟨a, _, rfl⟩ := List.mem_map.1 he
  simp [eV] at hx; rcases hx with rfl | rfl | rfl <;> exact .r _
theorem pt_eT {l : List TK0} : ∀ e ∈ l.map eT, ∀ x ∈ e, PT x := by
  intro e he x hx
  obtain ⟨a, _, rfl⟩ := List.mem_map.1 he
  simp [eT] at hx; rcases hx with rfl | rfl | rfl <;> exact .r _
theorem pt_eByte {l : List UInt8} : ∀ e ∈ l.map eByte, ∀ x ∈ e, PT x := by
  intro e he x hx
  obtain ⟨a, _, rfl⟩ := List.mem_map.1 he
  simp [eByte] at hx; subst hx; exact .r _
theorem pt_eI {l : List Int} : ∀ e ∈ l.map eI, ∀ x ∈ e, PT x := by
  intro e he x hx
  obtain ⟨a, _, rfl⟩ := List.mem_map.1 he
  simp [eI] at hx; subst hx; exact .r _
end Go.AM
/- Locks by the abstract machine: plain data; what the walks of old have shown, as contracts. -/
namespace Go.AM
open Go Go.RowKit
open Go.Proofs.YteebiklebedneaaDoor (LK SlAt LksAt TabFits TabJoins fitB joinB modeB shapeM findM agK agR agM ahM wfM modeM firstM lockGood chkM isK sameT sameX fitsL joinsL fittingM)
attribute [local irreducible] AWP retA
def eK (x : LK) : List AV := [.r (.int .i64 x.t), .r (.string x.s), .r (.int .i64 x.m)]
@[simp] theorem ptA_eK (a : LK) : (∀ x, x ∈ eK a → PT x) = True := eq_true (by intro x hx; simp [eK] at hx; rcases hx with rfl | rfl | rfl <;> exact .r _)
instance : PTf eK := ⟨fun a => of_eq_true (ptA_eK a)⟩
def fitsV : List Value := fitsL.flatten.map .bool
def joinsV : List Value := joinsL.flatten.map (.int .i64)
/-- The package's tables. -/
structure TabsL (G : List (Nat × List Value)) : Prop where
  fits : lk G 2 = some fitsV
  joins : lk G 1 = some joinsV
theorem lk_in {α : Type} : ∀ {G : List (Nat × α)} {g : Nat} {c : α}, lk G g = some c → (g, c) ∈ G
  | (i, x) :: r, g, c, h => by
    rw [lk] at h
    split at h
    · rename_i e; cases h; subst e; exact List.mem_cons_self ..
    · exact List.mem_cons_of_mem _ (lk_in h)
theorem fitsV_at {i j : Nat} (hi : i < 6) (hj : j < 6) : fitsV[i * 6 + j]? = some (.bool ((fitsL.getD i []).getD j false)) := by
  have h : ∀ i < 6, ∀ j < 6, fitsL.flatten[i * 6 + j]? = some ((fitsL.getD i []).getD j false) := by decide
  rw [fitsV, List.getElem?_map, h i hi j hj]; rfl
theorem joinsV_at {i j : Nat} (hi : i < 6) (hj : j < 6) : joinsV[i * 6 + j]? = some (.int .i64 ((joinsL.getD i []).getD j 0)) := by
  have h : ∀ i < 6, ∀ j < 6, joinsL.flatten[i * 6 + j]? = some ((joinsL.getD i []).getD j 0) := by decide
  rw [joinsV, List.getElem?_map, h i hi j hj]; rfl
theorem tabFits_of {G : List (Nat × List Value)} {w : World} (T : TabsL G) (h : Globs G w) : TabFits w := fun _ _ hi hj => (h _ _ (lk_in T.fits)).2 _ _ (fitsV_at hi hj)
theorem tabJoins_of {G : List (Nat × List Value)} {w : World} (T : TabsL G) (h : Globs G w) : TabJoins w := fun _ _ hi hj => (h _ _ (lk_in T.joins)).2 _ _ (joinsV_at hi hj)
theorem lks_of_ro {w : World} {z : Zone} {t : Bool} {l : List LK} {v : Value} (hz : ∀ t b, z t b → b < w.heap.size) (h : Rep w z [] (.ro t 3 (l.map eK)) v) : ∃ a cap, v = .slice a l.length cap ∧ LksAt w a l ∧ l.length ≤ cap := by
  obtain ⟨ad, c, rfl, hc, hn | ⟨b, o, rfl, hzb, hcell⟩⟩ := h.ro_inv
  · have : l = [] := by simpa using hn
    subst this; exact ⟨ad, c, rfl, .inl rfl, Nat.zero_le _⟩
  · refine ⟨_, c, by simp, .inr ⟨b, o, rfl, hz _ _ hzb, fun j x hj i u hi => ?_⟩, by simpa using hc⟩
    obtain ⟨h1, h2⟩ := hcell j (eK x) (by rw [List.getElem?_map, hj]; rfl)
    obtain ⟨y, hy, hr⟩ := h2 i (.r u) (by rw [show eK x = (LK.cells x).map .r from rfl, List.getElem?_map, hi]; rfl)
    rw [hy, show y = u from hr.1.r_inv]
/-- Two rows of locks. -/
def eKs (t1 t2 : Bool) (l1 l2 : List LK) : AV := .agg [.ro t1 3 (l1.map eK), .ro t2 3 (l2.map eK)]
theorem locks_open {w : World} {z : Zone} {t1 t2 : Bool} {l1 l2 : List LK} {v : Value} (hz : ∀ t b, z t b → b < w.heap.size) (h : Rep w z [] (.agg [.ro t1 3 (l1.map eK), .ro t2 3 (l2.map eK)]) v) :
    ∃ a1 c1 a2 c2, v = .agg #[.slice a1 l1.length c1, .slice a2 l2.length c2] ∧ LksAt w a1 l1 ∧ LksAt w a2 l2 ∧ l1.length ≤ c1 ∧ l2.length ≤ c2 := by
  obtain ⟨ys, rfl, hy⟩ := h.agg_inv
  obtain ⟨u1, r1, rfl, g1, hy2⟩ := hy.head
  obtain ⟨u2, r2, rfl, g2, hy3⟩ := hy2.head
  obtain rfl := hy3.of_nil
  obtain ⟨a1, c1, rfl, k1, b1⟩ := lks_of_ro hz g1
  obtain ⟨a2, c2, rfl, k2, b2⟩ := lks_of_ro hz g2
  exact ⟨a1, c1, a2, c2, rfl, k1, k2, b1, b2⟩
/-- What may be the size of the things of locks. -/
def okKs (l : List LK) : Prop := l.length ≤ 1048576 ∧ ∀ x ∈ l, x.s.size ≤ maxLen
theorem check_con {G : List (Nat × List Value)} (T : TabsL G) (t1 t2 : Bool) (l1 l2 : List LK) (o1 : okKs l1) (o2 : okKs l2) : Con Go.Proofs.Tryd.prog G 45 [.agg [.ro t1 3 (l1.map eK), .ro t2 3 (l2.map eK)]] [] 0 (Is (.r (.int .i64 (chkM l1 l2))) [] 0) No :=
  con_of_calls (by kernel_rfl) (fun w z vs hz hr hG => by
    obtain ⟨v, r, rfl, h1, h2⟩ := hr.head
    obtain rfl := h2.of_nil
    obtain ⟨a1, c1, a2, c2, rfl, k1, k2, b1, b2⟩ := locks_open hz h1
    exact Go.Proofs.YteebiklebedneaaDoor.check_any a1 a2 l1 l2 c1 c2 w k1 k2 o1.1 o2.1 b1 b2 o1.2 o2.2 (tabFits_of T hG) (tabJoins_of T hG))
theorem locksFault_con (G : List (Nat × List Value)) (t1 t2 : Bool) (l1 l2 : List LK) (o1 : okKs l1) (o2 : okKs l2) : Con Go.Proofs.Tryd.prog G 52 [.agg [.ro t1 3 (l1.map eK), .ro t2 3 (l2.map eK)]] [] 0 (Is (.r (.int .i64 (chkM l1 l2))) [] 0) No :=
  con_of_calls (by kernel_rfl) (fun w z vs hz hr hG => by
    obtain ⟨v, r, rfl, h1, h2⟩ := hr.head
    obtain rfl := h2.of_nil
    obtain ⟨a1, c1, a2, c2, rfl, k1, k2, b1, b2⟩ := locks_open hz h1
    exact Go.Proofs.YteebiklebedneaaDoor.locksFault_any a1 a2 l1 l2 c1 c2 w k1 k2 o1.1 o2.1 b1 b2 o1.2 o2.2)
theorem find_con (G : List (Nat × List Value)) (t : Bool) (l : List LK) (hl : l.length ≤ 1048576) (txn : Int) (s : ByteArray) : Con Go.Proofs.Tryd.prog G 79 [.ro t 3 (l.map eK), .r (.int .i64 txn), .r (.string s)] [] 0 (Is (.r (.int .i64 (findM txn s l))) [] 0) No :=
  con_of_calls (by kernel_rfl) (fun w z vs hz hr hG => by
    obtain ⟨v, r, rfl, h1, h2⟩ := hr.head
    obtain ⟨v2, r2, rfl, h3, h4⟩ := h2.head
    obtain ⟨v3, r3, rfl, h5, h6⟩ := h4.head
    obtain rfl := h3.r_inv
    obtain rfl := h5.r_inv
    obtain rfl := h6.of_nil
    obtain ⟨a, c, rfl, k, b⟩ := lks_of_ro hz h1
    exact Go.Proofs.YteebiklebedneaaDoor.find_any a l c txn s w k (by omega))
theorem first_con {G : List (Nat × List Value)} (T : TabsL G) (t1 t2 : Bool) (l1 l2 : List LK) (n1 : l1.length ≤ 1048576) (n2 : l2.length ≤ 1048576) (i : Nat) (q : LK) (hi : l2[i]? = some q) (hq : modeB q.m = true) (hm : ∀ y ∈ l1, modeB y.m = true) :
    Con Go.Proofs.Tryd.prog G 49 [.agg [.ro t1 3 (l1.map eK), .ro t2 3 (l2.map eK)], .r (.int .i64 i)] [] 0 (Is (.r (.bool (firstM l1 l2 i q))) [] 0) No :=
  con_of_calls (by kernel_rfl) (fun w z vs hz hr hG => by
    obtain ⟨v, r, rfl, h1, h2⟩ := hr.head
    obtain ⟨v2, r2, rfl, h3, h4⟩ := h2.head
    obtain rfl := h3.r_inv
    obtain rfl := h4.of_nil
    obtain ⟨a1, c1, a2, c2, rfl, k1, k2, b1, b2⟩ := locks_open hz h1
    exact Go.Proofs.YteebiklebedneaaDoor.first_any a1 a2 l1 l2 c1 c2 i q w k1 k2 (by omega) (by omega) b2 (tabFits_of T hG) hi hq hm)
theorem fitting_con (G : List (Nat × List Value)) (a b : Int) : Con Go.Proofs.Tryd.prog G 104 [.r (.int .i64 a), .r (.int .i64 b)] [] 0 (Is (.r (.bool (fittingM a b))) [] 0) No :=
  con_of_calls (by kernel_rfl) (fun w z vs hz hr hG => by
    obtain ⟨v, r, rfl, h1, h2⟩ := hr.head
    obtain ⟨v2, r2, rfl, h3, h4⟩ := h2.head
    obtain rfl := h1.r_inv
    obtain rfl := h3.r_inv
    obtain rfl := h4.of_nil
    exact (Go.Proofs.YteebiklebedneaaDoor.fitting_any a b w).mono (fun e w' ⟨he, hw⟩ => by subst hw; exact ⟨he, Below.refl _ _⟩))
theorem modeOf_con (G : List (Nat × List Value)) (t : Bool) (l : List LK) (hl : l.length ≤ 1048576) (txn : Int) (s : ByteArray) : Con Go.Proofs.Tryd.prog G 85 [.ro t 3 (l.map eK), .r (.int .i64 txn), .r (.string s)] [] 0 (Is (.r (.int .i64 (modeM txn s l))) [] 0) No :=
  con_of_calls (by kernel_rfl) (fun w z vs hz hr hG => by
    obtain ⟨v, r, rfl, h1, h2⟩ := hr.head
    obtain ⟨v2, r2, rfl, h3, h4⟩ := h2.head
    obtain ⟨v3, r3, rfl, h5, h6⟩ := h4.head
    obtain rfl := h3.r_inv
    obtain rfl := h5.r_inv
    obtain rfl := h6.of_nil
    obtain ⟨a, c, rfl, k, b⟩ := lks_of_ro hz h1
    exact (Go.Proofs.YteebiklebedneaaDoor.modeOf_any a l c txn s w k (by omega)).mono (fun e w' ⟨he, hw⟩ => by subst hw; exact ⟨he, Below.refl _ _⟩))
end Go.AM
/- Rows of numbers: the same lists are the same. -/
namespace Go.AM
open Go Go.RowKit
attribute [local irreducible] AWP retA
def eIs (l : List Int) : List AV := [.ro true 1 (l.map eI)]
@[simp] theorem ptA_eIs (a : List Int) : (∀ x, x ∈ eIs a → PT x) = True := eq_true (by intro x hx; simp [eIs] at hx; subst hx; simp)
instance : PTf eIs := ⟨fun a => of_eq_true (ptA_eIs a)⟩
set_option maxRecDepth 100000 in
set_option maxHeartbeats 4000000 in
theorem sameI_con (G : List (Nat × List Value)) (t t' : Bool) (l : List Int) (hl : l.length ≤ 1048576) : Con Go.Proofs.Tryd.prog G 22 [.ro t 1 (l.map eI), .ro t' 1 (l.map eI)] [] 0 (Is (.r (.bool true)) [] 0) No := by
  refine con_of_awp Go.Proofs.Tryd.func22 rfl (by kernel_rfl) (of_decide_eq_true (by kernel_rfl)) ?_; intro E hG hE; subst hG; simp only [ent]
  (repeat' (first | refine awp_seq ?_ | refine awp_block ?_ | refine awp_skip ?_ | refine awp_exit ?_ | ((first | refine rR (fun K kp hK hkp => ?_) | refine rD (id := 6) mixed 9 [0,1,2,3,4,5,6,7,8] (fun K kp hK hkp => ?_) | refine iG ?_ | refine iD ?_); simp (implicitDefEqProofs := false) (maxSteps := 2000000) (disch := omega) only [go_sem, bne_self_eq_false]; (repeat' (first | (refine hK _ ?_; clear hK hkp kp K) | (with_reducible refine And.intro ?_ ?_) | omega))) | ((first | refine aG (fun h => ?_) (fun h => ?_) | refine aD (fun h => ?_) (fun h => ?_) | refine aX (fun h => ?_) (fun h => ?_)) <;> simp only [h]) | refine awp_cond_t rfl ?_ | refine awp_cond_f rfl ?_ | ((refine awp_cond rfl (fun h => ?_) (fun h => ?_) <;> try simp only [ifs] at h) <;> (try (exfalso; omega))) | refine awp_ret ?_))
  refine awp_loop (fun k : Nat => ⟨[(5, .r (.int .i64 k)), (0, .ro t 1 (l.map eI)), (1, .ro t' 1 (l.map eI))], [], 0⟩) (fun k => k ≤ l.length) (fun k => l.length - k) 0 ?_ ?_ ?_
  · simp
  · (refine emb [] ?_ ?_ rfl ?_ ?_ ?_ ?_ <;> simp [okM, okO, lk, ren, renL, renNd, by_, hE] <;> (try omega))
  intro k hk
  by_cases hlt : k < l.length
  · obtain ⟨x, hx⟩ : ∃ x, l[k]? = some x := ⟨l[k], by simp [hlt]⟩
    have d1 : decide ((k : Int) < (l.length : Int)) = true := decide_eq_true (by omega)
    (repeat' (first | refine awp_seq ?_ | refine awp_block ?_ | refine awp_skip ?_ | refine awp_exit ?_ | ((first | refine rR (fun K kp hK hkp => ?_) | refine rD (id := 6) mixed 9 [0,1,2,3,4,5,6,7,8] (fun K kp hK hkp => ?_) | refine iG ?_ | refine iD ?_); simp (implicitDefEqProofs := false) (maxSteps := 2000000) (disch := omega) only [go_sem, hx, eI, d1, bne_self_eq_false]; (repeat' (first | (refine hK _ ?_; clear hK hkp kp K) | (with_reducible refine And.intro ?_ ?_) | omega))) | ((first | refine aG (fun h => ?_) (fun h => ?_) | refine aD (fun h => ?_) (fun h => ?_) | refine aX (fun h => ?_) (fun h => ?_)) <;> simp only [h]) | refine awp_cond_t rfl ?_ | refine awp_cond_f rfl ?_ | ((refine awp_cond rfl (fun h => ?_) (fun h => ?_) <;> try simp only [ifs] at h) <;> (try (exfalso; omega))) | refine awp_ret ?_))
    ((first | (refine nextB (k + 1) ?_ ?_ ?_) | (refine nextA (k + 1) ?_ ?_ ?_)); rotate_left; (· (try dsimp only); (first | omega | (simp only [List.length_drop, List.length_cons, List.length_append]; omega) | (simp; done) | (simp; omega))); (· (refine emb [] ?_ ?_ rfl ?_ ?_ ?_ ?_ <;> simp [okM, okO, lk, ren, renL, renNd, by_, hE] <;> (try omega))))
    omega
  · have d1 : decide ((k : Int) < (l.length : Int)) = false := decide_eq_false (by omega)
    (repeat' (first | refine awp_seq ?_ | refine awp_block ?_ | refine awp_skip ?_ | refine awp_exit ?_ | ((first | refine rR (fun K kp hK hkp => ?_) | refine rD (id := 6) mixed 9 [0,1,2,3,4,5,6,7,8] (fun K kp hK hkp => ?_) | refine iG ?_ | refine iD ?_); simp (implicitDefEqProofs := false) (maxSteps := 2000000) (disch := omega) only [go_sem, d1]; (repeat' (first | (refine hK _ ?_; clear hK hkp kp K) | (with_reducible refine And.intro ?_ ?_) | omega))) | ((first | refine aG (fun h => ?_) (fun h => ?_) | refine aD (fun h => ?_) (fun h => ?_) | refine aX (fun h => ?_) (fun h => ?_)) <;> simp only [h]) | refine awp_cond_t rfl ?_ | refine awp_cond_f rfl ?_ | ((refine awp_cond rfl (fun h => ?_) (fun h => ?_) <;> try simp only [ifs] at h) <;> (try (exfalso; omega))) | refine awp_ret ?_))
    (refine retA_is (by (simp (implicitDefEqProofs := false) (maxSteps := 2000000) (disch := omega) only [go_sem, Go.Proofs.Tryd.results22]); rfl) ?_; refine eN hE ?_; simp [oneA, ren, renL])
set_option maxRecDepth 100000 in
set_option maxHeartbeats 4000000 in
theorem sameLs_con (G : List (Nat × List Value)) (t t' : Bool) (l : List (List Int)) (hl : l.length ≤ 1048576) (hs : ∀ x ∈ l, x.length ≤ 1048576) : Con Go.Proofs.Tryd.prog G 26 [.ro t 1 (l.map eIs), .ro t' 1 (l.map eIs)] [] 0 (Is (.r (.bool true)) [] 0) No := by
  refine con_of_awp Go.Proofs.Tryd.func26 rfl (by kernel_rfl) (of_decide_eq_true (by kernel_rfl)) ?_; intro E hG hE; subst hG; simp only [ent]
  (repeat' (first | refine awp_seq ?_ | refine awp_block ?_ | refine awp_skip ?_ | refine awp_exit ?_ | ((first | refine rR (fun K kp hK hkp => ?_) | refine rD (id := 6) mixed 10 [0,1,2,3,4,5,6,7,8,9] (fun K kp hK hkp => ?_) | refine iG ?_ | refine iD ?_); simp (implicitDefEqProofs := false) (maxSteps := 2000000) (disch := omega) only [go_sem, bne_self_eq_false]; (repeat' (first | (refine hK _ ?_; clear hK hkp kp K) | (with_reducible refine And.intro ?_ ?_) | omega))) | ((first | refine aG (fun h => ?_) (fun h => ?_) | refine aD (fun h => ?_) (fun h => ?_) | refine aX (fun h => ?_) (fun h => ?_)) <;> simp only [h]) | refine awp_cond_t rfl ?_ | refine awp_cond_f rfl ?_ | ((refine awp_cond rfl (fun h => ?_) (fun h => ?_) <;> try simp only [ifs] at h) <;> (try (exfalso; omega))) | refine awp_ret ?_))
  refine awp_loop (fun k : Nat => ⟨[(5, .r (.int .i64 k)), (0, .ro t 1 (l.map eIs)), (1, .ro t' 1 (l.map eIs))], [], 0⟩) (fun k => k ≤ l.length) (fun k => l.length - k) 0 ?_ ?_ ?_
  · simp
  · (refine emb [] ?_ ?_ rfl ?_ ?_ ?_ ?_ <;> simp [okM, okO, lk, ren, renL, renNd, by_, hE] <;> (try omega))
  intro k hk
  by_cases hlt : k < l.length
  · obtain ⟨x, hx⟩ : ∃ x, l[k]? = some x := ⟨l[k], by simp [hlt]⟩
    have d1 : decide ((k : Int) < (l.length : Int)) = true := decide_eq_true (by omega)
    have sc := sameI_con E.G true true x (hs x (List.mem_of_getElem? hx))
    (repeat' (first | refine awp_seq ?_ | refine awp_block ?_ | refine awp_skip ?_ | refine awp_exit ?_ | ((first | refine rR (fun K kp hK hkp => ?_) | refine rD (id := 6) mixed 10 [0,1,2,3,4,5,6,7,8,9] (fun K kp hK hkp => ?_) | refine cR sc ?_ | refine cD sc ?_ | refine iG ?_ | refine iD ?_); simp (implicitDefEqProofs := false) (maxSteps := 2000000) (disch := omega) only [go_sem, hx, eIs, d1]; (repeat' (first | (refine hK _ ?_; clear hK hkp kp K) | (with_reducible refine And.intro ?_ ?_) | omega))) | ((first | refine aG (fun h => ?_) (fun h => ?_) | refine aD (fun h => ?_) (fun h => ?_) | refine aX (fun h => ?_) (fun h => ?_)) <;> simp only [h]) | refine awp_cond_t rfl ?_ | refine awp_cond_f rfl ?_ | ((refine awp_cond rfl (fun h => ?_) (fun h => ?_) <;> try simp only [ifs] at h) <;> (try (exfalso; omega))) | refine awp_ret ?_))
    ((first | (refine nextB (k + 1) ?_ ?_ ?_) | (refine nextA (k + 1) ?_ ?_ ?_)); rotate_left; (· (try dsimp only); (first | omega | (simp only [List.length_drop, List.length_cons, List.length_append]; omega) | (simp; done) | (simp; omega))); (· (refine emb [] ?_ ?_ rfl ?_ ?_ ?_ ?_ <;> simp [okM, okO, lk, ren, renL, renNd, by_, hE] <;> (try omega))))
    omega
  · have d1 : decide ((k : Int) < (l.length : Int)) = false := decide_eq_false (by omega)
    (repeat' (first | refine awp_seq ?_ | refine awp_block ?_ | refine awp_skip ?_ | refine awp_exit ?_ | ((first | refine rR (fun K kp hK hkp => ?_) | refine rD (id := 6) mixed 10 [0,1,2,3,4,5,6,7,8,9] (fun K kp hK hkp => ?_) | refine iG ?_ | refine iD ?_); simp (implicitDefEqProofs := false) (maxSteps := 2000000) (disch := omega) only [go_sem, d1]; (repeat' (first | (refine hK _ ?_; clear hK hkp kp K) | (with_reducible refine And.intro ?_ ?_) | omega))) | ((first | refine aG (fun h => ?_) (fun h => ?_) | refine aD (fun h => ?_) (fun h => ?_) | refine aX (fun h => ?_) (fun h => ?_)) <;> simp only [h]) | refine awp_cond_t rfl ?_ | refine awp_cond_f rfl ?_ | ((refine awp_cond rfl (fun h => ?_) (fun h => ?_) <;> try simp only [ifs] at h) <;> (try (exfalso; omega))) | refine awp_ret ?_))
    (refine retA_is (by (simp (implicitDefEqProofs := false) (maxSteps := 2000000) (disch := omega) only [go_sem, Go.Proofs.Tryd.results26]); rfl) ?_; refine eN hE ?_; simp [oneA, ren, renL])
end Go.AM
/- Locks: for whom what stands at a place of the queue waits: the program's side. -/
namespace Go.AM
open Go Go.RowKit
open Go.Proofs.YteebiklebedneaaDoor (LK SlAt LksAt TabFits TabJoins fitB joinB modeB shapeM findM agK agR agM ahM wfM modeM firstM lockGood chkM isK sameT sameX fitsL joinsL fittingM)
attribute [local irreducible] AWP retA
def akM (x : LK) (l : List LK) : List Int := (l.filter (agK x)).map (·.t)
theorem filter_eq' {p q : LK → Bool} : ∀ {l : List LK}, (∀ y ∈ l, p y = q y) → l.filter p = l.filter q
  | [], _ => rfl
  | y :: r, h => by
    rw [List.filter_cons, List.filter_cons, h y (by simp), filter_eq' fun z hz => h z (by simp [hz])]
theorem akM_eq {x : LK} {l : List LK} (hx : modeB x.m = true) (hl : ∀ y ∈ l, modeB y.m = true) : akM x l = agM x l := by
  unfold akM agM
  rw [filter_eq' fun y hy => (Go.Proofs.YteebiklebedneaaDoor.agR_eq hx (hl y hy)).symm]
theorem filt_succ {p : LK → Bool} {l : List LK} {k : Nat} {h : LK} (hh : l[k]? = some h) : ((l.take (k + 1)).filter p).map (·.t) = ((l.take k).filter p).map (·.t) ++ (if p h = true then [h.t] else []) := by
  rw [List.take_add_one, hh]
  simp only [Option.toList_some, List.filter_append, List.map_append]
  congr 1
  cases e : p h <;> simp [List.filter, e]
theorem filt_len {p : LK → Bool} (l : List LK) : ((l.filter p).map (·.t)).length ≤ l.length := by rw [List.length_map]; exact List.length_filter_le _ _
theorem fits_get {a b : Int} (h1 : a < 6) (h2 : b < 6) : fitsV[a.toNat * 6 + b.toNat * 1]? = some (.bool (fitB a b)) := by
  rw [Nat.mul_one, fitsV_at (by omega) (by omega)]; rfl
theorem joins_get {a b : Int} (h1 : a < 6) (h2 : b < 6) : joinsV[a.toNat * 6 + b.toNat * 1]? = some (.int .i64 (joinB a b)) := by
  rw [Nat.mul_one, joinsV_at (by omega) (by omega)]; rfl
set_option maxRecDepth 100000 in
set_option maxHeartbeats 8000000 in
theorem waits_con {G : List (Nat × List Value)} (T : TabsL G) (t1 t2 : Bool) (l1 l2 : List LK) (n1 : l1.length ≤ 1048576) (n2 : l2.length ≤ 1048576) (i : Nat) (q : LK) (hi : l2[i]? = some q) (hq : modeB q.m = true) (hm : ∀ y ∈ l1, modeB y.m = true) :
    Con Go.Proofs.Tryd.prog G 56 [.agg [.ro t1 3 (l1.map eK), .ro t2 3 (l2.map eK)], .r (.int .i64 i)] [] 0 (Is (.s 0 0 (wfM l1 l2 i q).length) [(0, .lst 3 1 ((wfM l1 l2 i q).map eI))] 1) No := by
  have hil : i < l2.length := (List.getElem?_eq_some_iff.1 hi).1
  obtain ⟨q1, q2⟩ := Go.Proofs.YteebiklebedneaaDoor.modeB_iff.1 hq
  refine con_of_awp Go.Proofs.Tryd.func56 rfl (by kernel_rfl) (of_decide_eq_true (by kernel_rfl)) ?_; intro E hG hE; subst hG; simp only [ent]
  (repeat' (first | refine awp_seq ?_ | refine awp_block ?_ | refine awp_skip ?_ | refine awp_exit ?_ | ((first | refine rR (fun K kp hK hkp => ?_) | refine rD (id := 6) mixed 22 [0,1,2,3,4,5,6,7,8,9,10,11,12,13,14,15,16,17,18,19,20,21] (fun K kp hK hkp => ?_) | refine iG ?_ | refine iD ?_); simp (implicitDefEqProofs := false) (maxSteps := 2000000) (disch := omega) only [go_sem, hi, eK]; (repeat' (first | (refine hK _ ?_; clear hK hkp kp K) | (with_reducible refine And.intro ?_ ?_) | omega))) | ((first | refine aG (fun h => ?_) (fun h => ?_) | refine aD (fun h => ?_) (fun h => ?_) | refine aX (fun h => ?_) (fun h => ?_)) <;> simp only [h]) | refine awp_cond_t rfl ?_ | refine awp_cond_f rfl ?_ | ((refine awp_cond rfl (fun h => ?_) (fun h => ?_) <;> try simp only [ifs] at h) <;> (try (exfalso; omega))) | refine awp_ret ?_))
  (refine AWP.emb (emb_nil 6 3 1 ?_) ?_; (· rfl); dsimp only)
  refine awp_loop (fun k : Nat => ⟨[(19, .r (.int .i64 k)), (18, .r (.int .i64 l1.length)), (17, .ro t1 3 (l1.map eK)), (6, .s 2 0 (akM q (l1.take k)).length), (5, .p 1 0 0), (2, .p 0 0 0), (1, .r (.int .i64 i))], [(0, .box 41 [.ro t1 3 (l1.map eK), .ro t2 3 (l2.map eK)]), (1, .box 82 (eK q)), (2, .lst 3 1 ((akM q (l1.take k)).map eI))], 3⟩) (fun k => k ≤ l1.length) (fun k => l1.length - k) 0 ?_ ?_ ?_
  · simp
  · (refine emb [0, 1, 2] ?_ ?_ rfl ?_ ?_ ?_ ?_ <;> simp [okM, okO, lk, ren, renL, renNd, by_, hE, eK, akM] <;> (try omega))
  intro k hk
  by_cases hlt : k < l1.length
  · obtain ⟨y, hx⟩ : ∃ x, l1[k]? = some x := ⟨l1[k], by simp [hlt]⟩
    obtain ⟨y1, y2⟩ := Go.Proofs.YteebiklebedneaaDoor.modeB_iff.1 (hm y (List.mem_of_getElem? hx))
    have ht : akM q (l1.take (k + 1)) = akM q (l1.take k) ++ (if agK q y = true then [y.t] else []) := filt_succ hx
    have hle : (akM q (l1.take k)).length ≤ 1048576 := by
      have := filt_len (p := agK q) (l1.take k); have := List.length_take_le k l1; simp only [akM]; omega
    have fg := fits_get (a := y.m) (b := q.m) (by omega) (by omega)
    have z1 : ((0 : Int) ≤ y.m) = True := eq_true (by omega)
    have z2 : (y.m < 6) = True := eq_true (by omega)
    have z3 : ((0 : Int) ≤ q.m) = True := eq_true (by omega)
    have z4 : (q.m < 6) = True := eq_true (by omega)
    cases e1 : (y.s.toList == q.s.toList)
    · (repeat' (first | refine awp_seq ?_ | refine awp_block ?_ | refine awp_skip ?_ | refine awp_exit ?_ | ((first | refine rR (fun K kp hK hkp => ?_) | refine rD (id := 6) mixed 22 [0,1,2,3,4,5,6,7,8,9,10,11,12,13,14,15,16,17,18,19,20,21] (fun K kp hK hkp => ?_) | refine iG ?_ | refine iD ?_); simp (implicitDefEqProofs := false) (maxSteps := 2000000) (disch := omega) only [go_sem, hx, eK, e1]; (repeat' (first | (refine hK _ ?_; clear hK hkp kp K) | (with_reducible refine And.intro ?_ ?_) | omega))) | ((first | refine aG (fun h => ?_) (fun h => ?_) | refine aD (fun h => ?_) (fun h => ?_) | refine aX (fun h => ?_) (fun h => ?_)) <;> simp only [h]) | refine awp_cond_t rfl ?_ | refine awp_cond_f rfl ?_ | ((refine awp_cond rfl (fun h => ?_) (fun h => ?_) <;> try simp only [ifs] at h) <;> (try (exfalso; omega))) | refine awp_ret ?_))
      ((first | (refine nextB (k + 1) ?_ ?_ ?_) | (refine nextA (k + 1) ?_ ?_ ?_)); rotate_left; (· (try dsimp only); (first | omega | (simp only [List.length_drop, List.length_cons, List.length_append]; omega) | (simp; done) | (simp; omega))); (· (refine emb [0, 1, 2] ?_ ?_ rfl ?_ ?_ ?_ ?_ <;> simp [okM, okO, lk, ren, renL, renNd, by_, hE, eK, ht, agK, e1] <;> (try omega))))
      omega
    cases e2 : (y.t != q.t)
    · (repeat' (first | refine awp_seq ?_ | refine awp_block ?_ | refine awp_skip ?_ | refine awp_exit ?_ | ((first | refine rR (fun K kp hK hkp => ?_) | refine rD (id := 6) mixed 22 [0,1,2,3,4,5,6,7,8,9,10,11,12,13,14,15,16,17,18,19,20,21] (fun K kp hK hkp => ?_) | refine iG ?_ | refine iD ?_); simp (implicitDefEqProofs := false) (maxSteps := 2000000) (disch := omega) only [go_sem, hx, eK, e1, e2]; (repeat' (first | (refine hK _ ?_; clear hK hkp kp K) | (with_reducible refine And.intro ?_ ?_) | omega))) | ((first | refine aG (fun h => ?_) (fun h => ?_) | refine aD (fun h => ?_) (fun h => ?_) | refine aX (fun h => ?_) (fun h => ?_)) <;> simp only [h]) | refine awp_cond_t rfl ?_ | refine awp_cond_f rfl ?_ | ((refine awp_cond rfl (fun h => ?_) (fun h => ?_) <;> try simp only [ifs] at h) <;> (try (exfalso; omega))) | refine awp_ret ?_))
      ((first | (refine nextB (k + 1) ?_ ?_ ?_) | (refine nextA (k + 1) ?_ ?_ ?_)); rotate_left; (· (try dsimp only); (first | omega | (simp only [List.length_drop, List.length_cons, List.length_append]; omega) | (simp; done) | (simp; omega))); (· (refine emb [0, 1, 2] ?_ ?_ rfl ?_ ?_ ?_ ?_ <;> simp [okM, okO, lk, ren, renL, renNd, by_, hE, eK, ht, agK, e1, e2] <;> (try omega))))
      omega
    cases e3 : fitB y.m q.m
    · rw [e3] at fg
      (repeat' (first | refine awp_seq ?_ | refine awp_block ?_ | refine awp_skip ?_ | refine awp_exit ?_ | ((first | refine rR (fun K kp hK hkp => ?_) | refine rD (id := 6) mixed 22 [0,1,2,3,4,5,6,7,8,9,10,11,12,13,14,15,16,17,18,19,20,21] (fun K kp hK hkp => ?_) | refine iG ?_ | refine iD ?_); simp (implicitDefEqProofs := false) (maxSteps := 2000000) (disch := omega) only [go_sem, hx, eK, e1, e2, T.fits, z1, z2, z3, z4, fg]; (repeat' (first | (refine hK _ ?_; clear hK hkp kp K) | (with_reducible refine And.intro ?_ ?_) | omega))) | ((first | refine aG (fun h => ?_) (fun h => ?_) | refine aD (fun h => ?_) (fun h => ?_) | refine aX (fun h => ?_) (fun h => ?_)) <;> simp only [h]) | refine awp_cond_t rfl ?_ | refine awp_cond_f rfl ?_ | ((refine awp_cond rfl (fun h => ?_) (fun h => ?_) <;> try simp only [ifs] at h) <;> (try (exfalso; omega))) | refine awp_ret ?_))
      ((first | (refine nextB (k + 1) ?_ ?_ ?_) | (refine nextA (k + 1) ?_ ?_ ?_)); rotate_left; (· (try dsimp only); (first | omega | (simp only [List.length_drop, List.length_cons, List.length_append]; omega) | (simp; done) | (simp; omega))); (· (refine emb [0, 1, 5] ?_ ?_ rfl ?_ ?_ ?_ ?_ <;> simp [okM, okO, lk, ren, renL, renNd, by_, hE, eK, eI, ht, agK, e1, e2, e3] <;> (try omega))))
      omega
    · rw [e3] at fg
      (repeat' (first | refine awp_seq ?_ | refine awp_block ?_ | refine awp_skip ?_ | refine awp_exit ?_ | ((first | refine rR (fun K kp hK hkp => ?_) | refine rD (id := 6) mixed 22 [0,1,2,3,4,5,6,7,8,9,10,11,12,13,14,15,16,17,18,19,20,21] (fun K kp hK hkp => ?_) | refine iG ?_ | refine iD ?_); simp (implicitDefEqProofs := false) (maxSteps := 2000000) (disch := omega) only [go_sem, hx, eK, e1, e2, T.fits, z1, z2, z3, z4, fg]; (repeat' (first | (refine hK _ ?_; clear hK hkp kp K) | (with_reducible refine And.intro ?_ ?_) | omega))) | ((first | refine aG (fun h => ?_) (fun h => ?_) | refine aD (fun h => ?_) (fun h => ?_) | refine aX (fun h => ?_) (fun h => ?_)) <;> simp only [h]) | refine awp_cond_t rfl ?_ | refine awp_cond_f rfl ?_ | ((refine awp_cond rfl (fun h => ?_) (fun h => ?_) <;> try simp only [ifs] at h) <;> (try (exfalso; omega))) | refine awp_ret ?_))
      ((first | (refine nextB (k + 1) ?_ ?_ ?_) | (refine nextA (k + 1) ?_ ?_ ?_)); rotate_left; (· (try dsimp only); (first | omega | (simp only [List.length_drop, List.length_cons, List.length_append]; omega) | (simp; done) | (simp; omega))); (· (refine emb [0, 1, 2] ?_ ?_ rfl ?_ ?_ ?_ ?_ <;> simp [okM, okO, lk, ren, renL, renNd, by_, hE, eK, ht, agK, e1, e2, e3] <;> (try omega))))
      omega
  · obtain rfl : k = l1.length := by omega
    have mm := Go.Proofs.YteebiklebedneaaDoor.modeM_mem (t := q.t) (s := q.s) hm
    have HW : akM q (l1.take l1.length) = agM q l1 := by rw [List.take_length, akM_eq hq hm]
    rw [HW]
    have fc := find_con E.G t1 l1 n1 q.t q.s
    have hle : (agM q l1).length ≤ 1048576 := by have := filt_len (p := agR q) l1; simp only [agM] at this ⊢; omega
    by_cases e2 : 0 ≤ findM q.t q.s l1
    · have MZ : modeM q.t q.s l1 ≠ 0 := by rcases mm with h | h <;> omega
      have d2 : decide (findM q.t q.s l1 < 0) = false := decide_eq_false (by omega)
      have W : wfM l1 l2 i q = agM q l1 := by rw [wfM, if_neg MZ, List.append_nil]
      rw [W]
      (repeat' (first | refine awp_seq ?_ | refine awp_block ?_ | refine awp_skip ?_ | refine awp_exit ?_ | ((first | refine rR (fun K kp hK hkp => ?_) | refine rD (id := 6) mixed 22 [0,1,2,3,4,5,6,7,8,9,10,11,12,13,14,15,16,17,18,19,20,21] (fun K kp hK hkp => ?_) | refine cR fc ?_ | refine cD fc ?_ | refine iG ?_ | refine iD ?_); simp (implicitDefEqProofs := false) (maxSteps := 2000000) (disch := omega) only [go_sem, eK, d2]; (repeat' (first | (refine hK _ ?_; clear hK hkp kp K) | (with_reducible refine And.intro ?_ ?_) | omega))) | ((first | refine aG (fun h => ?_) (fun h => ?_) | refine aD (fun h => ?_) (fun h => ?_) | refine aX (fun h => ?_) (fun h => ?_)) <;> simp only [h]) | refine awp_cond_t rfl ?_ | refine awp_cond_f rfl ?_ | ((refine awp_cond rfl (fun h => ?_) (fun h => ?_) <;> try simp only [ifs] at h) <;> (try (exfalso; omega))) | refine awp_ret ?_))
      (refine retA_is (by (simp (implicitDefEqProofs := false) (maxSteps := 2000000) (disch := omega) only [go_sem, Go.Proofs.Tryd.results56]); rfl) ?_; refine (embV [2] ?_ ?_ ?_ ?_ ?_ ?_).s <;> simp [oneA, okO, lk, ren, renL, renNd, by_, hE])
    · have MZ : modeM q.t q.s l1 = 0 := by rcases mm with h | h <;> omega
      have d2 : decide (findM q.t q.s l1 < 0) = true := decide_eq_true (by omega)
      have W : wfM l1 l2 i q = agM q l1 ++ ahM q (l2.take i) := by rw [wfM, if_pos MZ]
      rw [W]
      (repeat' (first | refine awp_seq ?_ | refine awp_block ?_ | refine awp_skip ?_ | refine awp_exit ?_ | ((first | refine rR (fun K kp hK hkp => ?_) | refine rD (id := 6) mixed 22 [0,1,2,3,4,5,6,7,8,9,10,11,12,13,14,15,16,17,18,19,20,21] (fun K kp hK hkp => ?_) | refine cR fc ?_ | refine cD fc ?_ | refine iG ?_ | refine iD ?_); simp (implicitDefEqProofs := false) (maxSteps := 2000000) (disch := omega) only [go_sem, eK, d2]; (repeat' (first | (refine hK _ ?_; clear hK hkp kp K) | (with_reducible refine And.intro ?_ ?_) | omega))) | ((first | refine aG (fun h => ?_) (fun h => ?_) | refine aD (fun h => ?_) (fun h => ?_) | refine aX (fun h => ?_) (fun h => ?_)) <;> simp only [h]) | refine awp_cond_t rfl ?_ | refine awp_cond_f rfl ?_ | ((refine awp_cond rfl (fun h => ?_) (fun h => ?_) <;> try simp only [ifs] at h) <;> (try (exfalso; omega))) | refine awp_ret ?_))
      have h62 : (l2.take i).length = i := by rw [List.length_take]; omega
      refine awp_loop (fun k : Nat => ⟨[(64, .r (.int .i64 k)), (63, .r (.int .i64 i)), (62, .ro t2 3 ((l2.take i).map eK)), (6, .s 2 0 (agM q l1 ++ ahM q (l2.take k)).length), (5, .p 1 0 0), (2, .p 0 0 0), (1, .r (.int .i64 i))], [(0, .box 41 [.ro t1 3 (l1.map eK), .ro t2 3 (l2.map eK)]), (1, .box 82 (eK q)), (2, .lst 3 1 ((agM q l1 ++ ahM q (l2.take k)).map eI))], 3⟩) (fun k => k ≤ i) (fun k => i - k) 0 ?_ ?_ ?_
      · simp
      · (refine emb [0, 1, 2] ?_ ?_ rfl ?_ ?_ ?_ ?_ <;> simp [okM, okO, lk, ren, renL, renNd, by_, hE, eK, ahM, h62, List.map_take] <;> (try omega))
      intro k hk
      by_cases hlt : k < i
      · obtain ⟨y, hx⟩ : ∃ x, l2[k]? = some x := ⟨l2[k], by simp [show k < l2.length by omega]⟩
        have hx' : (l2.take i)[k]? = some y := by rw [List.getElem?_take_of_lt hlt]; exact hx
        have ht : ahM q (l2.take (k + 1)) = ahM q (l2.take k) ++ (if sameT q y = true then [y.t] else []) := filt_succ hx
        have hle2 : (ahM q (l2.take k)).length ≤ 1048576 := by
          have := filt_len (p := sameT q) (l2.take k); have := List.length_take_le k l2; simp only [ahM] at this ⊢; omega
        have hap : (agM q l1 ++ ahM q (l2.take k)).length = (agM q l1).length + (ahM q (l2.take k)).length := List.length_append
        cases e1 : (y.s.toList == q.s.toList)
        · (repeat' (first | refine awp_seq ?_ | refine awp_block ?_ | refine awp_skip ?_ | refine awp_exit ?_ | ((first | refine rR (fun K kp hK hkp => ?_) | refine rD (id := 6) mixed 22 [0,1,2,3,4,5,6,7,8,9,10,11,12,13,14,15,16,17,18,19,20,21] (fun K kp hK hkp => ?_) | refine iG ?_ | refine iD ?_); simp (implicitDefEqProofs := false) (maxSteps := 2000000) (disch := omega) only [go_sem, hx', eK, e1]; (repeat' (first | (refine hK _ ?_; clear hK hkp kp K) | (with_reducible refine And.intro ?_ ?_) | omega))) | ((first | refine aG (fun h => ?_) (fun h => ?_) | refine aD (fun h => ?_) (fun h => ?_) | refine aX (fun h => ?_) (fun h => ?_)) <;> simp only [h]) | refine awp_cond_t rfl ?_ | refine awp_cond_f rfl ?_ | ((refine awp_cond rfl (fun h => ?_) (fun h => ?_) <;> try simp only [ifs] at h) <;> (try (exfalso; omega))) | refine awp_ret ?_))
          ((first | (refine nextB (k + 1) ?_ ?_ ?_) | (refine nextA (k + 1) ?_ ?_ ?_)); rotate_left; (· (try dsimp only); (first | omega | (simp only [List.length_drop, List.length_cons, List.length_append]; omega) | (simp; done) | (simp; omega))); (· (refine emb [0, 1, 2] ?_ ?_ rfl ?_ ?_ ?_ ?_ <;> simp [okM, okO, lk, ren, renL, renNd, by_, hE, eK, ht, sameT, e1] <;> (try omega))))
          omega
        · (repeat' (first | refine awp_seq ?_ | refine awp_block ?_ | refine awp_skip ?_ | refine awp_exit ?_ | ((first | refine rR (fun K kp hK hkp => ?_) | refine rD (id := 6) mixed 22 [0,1,2,3,4,5,6,7,8,9,10,11,12,13,14,15,16,17,18,19,20,21] (fun K kp hK hkp => ?_) | refine iG ?_ | refine iD ?_); simp (implicitDefEqProofs := false) (maxSteps := 2000000) (disch := omega) only [go_sem, hx', eK, e1]; (repeat' (first | (refine hK _ ?_; clear hK hkp kp K) | (with_reducible refine And.intro ?_ ?_) | omega))) | ((first | refine aG (fun h => ?_) (fun h => ?_) | refine aD (fun h => ?_) (fun h => ?_) | refine aX (fun h => ?_) (fun h => ?_)) <;> simp only [h]) | refine awp_cond_t rfl ?_ | refine awp_cond_f rfl ?_ | ((refine awp_cond rfl (fun h => ?_) (fun h => ?_) <;> try simp only [ifs] at h) <;> (try (exfalso; omega))) | refine awp_ret ?_))
          ((first | (refine nextB (k + 1) ?_ ?_ ?_) | (refine nextA (k + 1) ?_ ?_ ?_)); rotate_left; (· (try dsimp only); (first | omega | (simp only [List.length_drop, List.length_cons, List.length_append]; omega) | (simp; done) | (simp; omega))); (· (refine emb [0, 1, 5] ?_ ?_ rfl ?_ ?_ ?_ ?_ <;> simp [okM, okO, lk, ren, renL, renNd, by_, hE, eK, eI, ht, sameT, e1, take_appm] <;> (try omega))))
          omega
      · obtain rfl : k = i := by omega
        (repeat' (first | refine awp_seq ?_ | refine awp_block ?_ | refine awp_skip ?_ | refine awp_exit ?_ | ((first | refine rR (fun K kp hK hkp => ?_) | refine rD (id := 6) mixed 22 [0,1,2,3,4,5,6,7,8,9,10,11,12,13,14,15,16,17,18,19,20,21] (fun K kp hK hkp => ?_) | refine iG ?_ | refine iD ?_); simp (implicitDefEqProofs := false) (maxSteps := 2000000) (disch := omega) only [go_sem]; (repeat' (first | (refine hK _ ?_; clear hK hkp kp K) | (with_reducible refine And.intro ?_ ?_) | omega))) | ((first | refine aG (fun h => ?_) (fun h => ?_) | refine aD (fun h => ?_) (fun h => ?_) | refine aX (fun h => ?_) (fun h => ?_)) <;> simp only [h]) | refine awp_cond_t rfl ?_ | refine awp_cond_f rfl ?_ | ((refine awp_cond rfl (fun h => ?_) (fun h => ?_) <;> try simp only [ifs] at h) <;> (try (exfalso; omega))) | refine awp_ret ?_))
        (refine retA_is (by (simp (implicitDefEqProofs := false) (maxSteps := 2000000) (disch := omega) only [go_sem, Go.Proofs.Tryd.results56]); rfl) ?_; refine (embV [2] ?_ ?_ ?_ ?_ ?_ ?_).s <;> simp [oneA, okO, lk, ren, renL, renNd, by_, hE])
end Go.AM
/- Locks: for whom what stands at a place of the queue waits: the reference's side. -/
namespace Go.AM
open Go Go.RowKit
open Go.Proofs.YteebiklebedneaaDoor (LK SlAt LksAt TabFits TabJoins fitB joinB modeB shapeM findM agK agR agM ahM wfM modeM firstM lockGood chkM isK sameT sameX fitsL joinsL fittingM)
attribute [local irreducible] AWP retA
set_option maxRecDepth 100000 in
set_option maxHeartbeats 4000000 in
theorem against_con (G : List (Nat × List Value)) (t : Bool) (l : List LK) (x : LK) (hl : l.length ≤ 1048576) : Con Go.Proofs.Tryd.prog G 86 [.ro t 3 (l.map eK), .agg (eK x)] [] 0 (Is (.s 0 0 (agM x l).length) [(0, .lst 3 1 ((agM x l).map eI))] 1) No := by
  refine con_of_awp Go.Proofs.Tryd.func86 rfl (by kernel_rfl) (of_decide_eq_true (by kernel_rfl)) ?_; intro E hG hE; subst hG; simp only [ent]
  (repeat' (first | refine awp_seq ?_ | refine awp_block ?_ | refine awp_skip ?_ | refine awp_exit ?_ | ((first | refine rR (fun K kp hK hkp => ?_) | refine rD (id := 5) mixed 29 [0,1,2,3,4,5,6,7,8,9,10,11,12,13,14,15,16,17,18,19,20,21,22,23,24,25,26,27,28] (fun K kp hK hkp => ?_) | refine iG ?_ | refine iD ?_); simp (implicitDefEqProofs := false) (maxSteps := 2000000) (disch := omega) only [go_sem, eK]; (repeat' (first | (refine hK _ ?_; clear hK hkp kp K) | (with_reducible refine And.intro ?_ ?_) | omega))) | ((first | refine aG (fun h => ?_) (fun h => ?_) | refine aD (fun h => ?_) (fun h => ?_) | refine aX (fun h => ?_) (fun h => ?_)) <;> simp only [h]) | refine awp_cond_t rfl ?_ | refine awp_cond_f rfl ?_ | ((refine awp_cond rfl (fun h => ?_) (fun h => ?_) <;> try simp only [ifs] at h) <;> (try (exfalso; omega))) | refine awp_ret ?_))
  (refine AWP.emb (emb_nil 5 3 1 ?_) ?_; (· rfl); dsimp only)
  refine awp_loop (fun k : Nat => ⟨[(6, .r (.int .i64 k)), (5, .s 1 0 (agM x (l.take k)).length), (0, .ro t 3 (l.map eK)), (3, .p 0 0 0)], [(0, .box 82 (eK x)), (1, .lst 3 1 ((agM x (l.take k)).map eI))], 2⟩) (fun k => k ≤ l.length) (fun k => l.length - k) 0 ?_ ?_ ?_
  · simp
  · (refine emb [0, 1] ?_ ?_ rfl ?_ ?_ ?_ ?_ <;> simp [okM, okO, lk, ren, renL, renNd, by_, hE, eK, agM] <;> (try omega))
  intro k hk
  by_cases hk' : k < l.length
  · obtain ⟨y, hx⟩ : ∃ x, l[k]? = some x := ⟨l[k], by simp [hk']⟩
    have ht : agM x (l.take (k + 1)) = agM x (l.take k) ++ (if agR x y = true then [y.t] else []) := filt_succ hx
    have hle : (agM x (l.take k)).length ≤ 1048576 := by
      have := filt_len (p := agR x) (l.take k); have := List.length_take_le k l; simp only [agM] at this ⊢; omega
    cases h1 : (y.s.toList == x.s.toList)
    · (repeat' (first | refine awp_seq ?_ | refine awp_block ?_ | refine awp_skip ?_ | refine awp_exit ?_ | ((first | refine rR (fun K kp hK hkp => ?_) | refine rD (id := 5) mixed 29 [0,1,2,3,4,5,6,7,8,9,10,11,12,13,14,15,16,17,18,19,20,21,22,23,24,25,26,27,28] (fun K kp hK hkp => ?_) | refine iG ?_ | refine iD ?_); simp (implicitDefEqProofs := false) (maxSteps := 2000000) (disch := omega) only [go_sem, hx, eK, h1]; (repeat' (first | (refine hK _ ?_; clear hK hkp kp K) | (with_reducible refine And.intro ?_ ?_) | omega))) | ((first | refine aG (fun h => ?_) (fun h => ?_) | refine aD (fun h => ?_) (fun h => ?_) | refine aX (fun h => ?_) (fun h => ?_)) <;> simp only [h]) | refine awp_cond_t rfl ?_ | refine awp_cond_f rfl ?_ | ((refine awp_cond rfl (fun h => ?_) (fun h => ?_) <;> try simp only [ifs] at h) <;> (try (exfalso; omega))) | refine awp_ret ?_))
      ((first | (refine nextB (k + 1) ?_ ?_ ?_) | (refine nextA (k + 1) ?_ ?_ ?_)); rotate_left; (· (try dsimp only); (first | omega | (simp only [List.length_drop, List.length_cons, List.length_append]; omega) | (simp; done) | (simp; omega))); (· (refine emb [0, 1] ?_ ?_ rfl ?_ ?_ ?_ ?_ <;> simp [okM, okO, lk, ren, renL, renNd, by_, hE, eK, ht, agR, h1] <;> (try omega))))
      omega
    cases h2 : (y.t != x.t)
    · (repeat' (first | refine awp_seq ?_ | refine awp_block ?_ | refine awp_skip ?_ | refine awp_exit ?_ | ((first | refine rR (fun K kp hK hkp => ?_) | refine rD (id := 5) mixed 29 [0,1,2,3,4,5,6,7,8,9,10,11,12,13,14,15,16,17,18,19,20,21,22,23,24,25,26,27,28] (fun K kp hK hkp => ?_) | refine iG ?_ | refine iD ?_); simp (implicitDefEqProofs := false) (maxSteps := 2000000) (disch := omega) only [go_sem, hx, eK, h1, h2]; (repeat' (first | (refine hK _ ?_; clear hK hkp kp K) | (with_reducible refine And.intro ?_ ?_) | omega))) | ((first | refine aG (fun h => ?_) (fun h => ?_) | refine aD (fun h => ?_) (fun h => ?_) | refine aX (fun h => ?_) (fun h => ?_)) <;> simp only [h]) | refine awp_cond_t rfl ?_ | refine awp_cond_f rfl ?_ | ((refine awp_cond rfl (fun h => ?_) (fun h => ?_) <;> try simp only [ifs] at h) <;> (try (exfalso; omega))) | refine awp_ret ?_))
      ((first | (refine nextB (k + 1) ?_ ?_ ?_) | (refine nextA (k + 1) ?_ ?_ ?_)); rotate_left; (· (try dsimp only); (first | omega | (simp only [List.length_drop, List.length_cons, List.length_append]; omega) | (simp; done) | (simp; omega))); (· (refine emb [0, 1] ?_ ?_ rfl ?_ ?_ ?_ ?_ <;> simp [okM, okO, lk, ren, renL, renNd, by_, hE, eK, ht, agR, h1, h2] <;> (try omega))))
      omega
    · cases h3 : fittingM y.m x.m
      · have fc := fitting_con E.G y.m x.m
        rw [h3] at fc
        (repeat' (first | refine awp_seq ?_ | refine awp_block ?_ | refine awp_skip ?_ | refine awp_exit ?_ | ((first | refine rR (fun K kp hK hkp => ?_) | refine rD (id := 5) mixed 29 [0,1,2,3,4,5,6,7,8,9,10,11,12,13,14,15,16,17,18,19,20,21,22,23,24,25,26,27,28] (fun K kp hK hkp => ?_) | refine cR fc ?_ | refine cD fc ?_ | refine iG ?_ | refine iD ?_); simp (implicitDefEqProofs := false) (maxSteps := 2000000) (disch := omega) only [go_sem, hx, eK, h1, h2]; (repeat' (first | (refine hK _ ?_; clear hK hkp kp K) | (with_reducible refine And.intro ?_ ?_) | omega))) | ((first | refine aG (fun h => ?_) (fun h => ?_) | refine aD (fun h => ?_) (fun h => ?_) | refine aX (fun h => ?_) (fun h => ?_)) <;> simp only [h]) | refine awp_cond_t rfl ?_ | refine awp_cond_f rfl ?_ | ((refine awp_cond rfl (fun h => ?_) (fun h => ?_) <;> try simp only [ifs] at h) <;> (try (exfalso; omega))) | refine awp_ret ?_))
        ((first | (refine nextB (k + 1) ?_ ?_ ?_) | (refine nextA (k + 1) ?_ ?_ ?_)); rotate_left; (· (try dsimp only); (first | omega | (simp only [List.length_drop, List.length_cons, List.length_append]; omega) | (simp; done) | (simp; omega))); (· (refine emb [0, 3] ?_ ?_ rfl ?_ ?_ ?_ ?_ <;> simp [okM, okO, lk, ren, renL, renNd, by_, hE, eK, eI, ht, agR, h1, h2, h3] <;> (try omega))))
        omega
      · have fc := fitting_con E.G y.m x.m
        rw [h3] at fc
        (repeat' (first | refine awp_seq ?_ | refine awp_block ?_ | refine awp_skip ?_ | refine awp_exit ?_ | ((first | refine rR (fun K kp hK hkp => ?_) | refine rD (id := 5) mixed 29 [0,1,2,3,4,5,6,7,8,9,10,11,12,13,14,15,16,17,18,19,20,21,22,23,24,25,26,27,28] (fun K kp hK hkp => ?_) | refine cR fc ?_ | refine cD fc ?_ | refine iG ?_ | refine iD ?_); simp (implicitDefEqProofs := false) (maxSteps := 2000000) (disch := omega) only [go_sem, hx, eK, h1, h2]; (repeat' (first | (refine hK _ ?_; clear hK hkp kp K) | (with_reducible refine And.intro ?_ ?_) | omega))) | ((first | refine aG (fun h => ?_) (fun h => ?_) | refine aD (fun h => ?_) (fun h => ?_) | refine aX (fun h => ?_) (fun h => ?_)) <;> simp only [h]) | refine awp_cond_t rfl ?_ | refine awp_cond_f rfl ?_ | ((refine awp_cond rfl (fun h => ?_) (fun h => ?_) <;> try simp only [ifs] at h) <;> (try (exfalso; omega))) | refine awp_ret ?_))
        ((first | (refine nextB (k + 1) ?_ ?_ ?_) | (refine nextA (k + 1) ?_ ?_ ?_)); rotate_left; (· (try dsimp only); (first | omega | (simp only [List.length_drop, List.length_cons, List.length_append]; omega) | (simp; done) | (simp; omega))); (· (refine emb [0, 1] ?_ ?_ rfl ?_ ?_ ?_ ?_ <;> simp [okM, okO, lk, ren, renL, renNd, by_, hE, eK, ht, agR, h1, h2, h3] <;> (try omega))))
        omega
  · (repeat' (first | refine awp_seq ?_ | refine awp_block ?_ | refine awp_skip ?_ | refine awp_exit ?_ | ((first | refine rR (fun K kp hK hkp => ?_) | refine rD (id := 5) mixed 29 [0,1,2,3,4,5,6,7,8,9,10,11,12,13,14,15,16,17,18,19,20,21,22,23,24,25,26,27,28] (fun K kp hK hkp => ?_) | refine iG ?_ | refine iD ?_); simp (implicitDefEqProofs := false) (maxSteps := 2000000) (disch := omega) only [go_sem]; (repeat' (first | (refine hK _ ?_; clear hK hkp kp K) | (with_reducible refine And.intro ?_ ?_) | omega))) | ((first | refine aG (fun h => ?_) (fun h => ?_) | refine aD (fun h => ?_) (fun h => ?_) | refine aX (fun h => ?_) (fun h => ?_)) <;> simp only [h]) | refine awp_cond_t rfl ?_ | refine awp_cond_f rfl ?_ | ((refine awp_cond rfl (fun h => ?_) (fun h => ?_) <;> try simp only [ifs] at h) <;> (try (exfalso; omega))) | refine awp_ret ?_))
    rw [show l.take k = l from List.take_of_length_le (by omega)]
    (refine retA_is (by (simp (implicitDefEqProofs := false) (maxSteps := 2000000) (disch := omega) only [go_sem, Go.Proofs.Tryd.results86]); rfl) ?_; refine (embV [1] ?_ ?_ ?_ ?_ ?_ ?_).s <;> simp [oneA, okO, lk, ren, renL, renNd, by_, hE])
set_option maxRecDepth 100000 in
set_option maxHeartbeats 4000000 in
theorem aheadOf_con (G : List (Nat × List Value)) (t1 t2 : Bool) (l1 l2 : List LK) (n2 : l2.length ≤ 1048576) (i : Nat) (q : LK) (hi : l2[i]? = some q) :
    Con Go.Proofs.Tryd.prog G 88 [.agg [.ro t1 3 (l1.map eK), .ro t2 3 (l2.map eK)], .r (.int .i64 i)] [] 0 (Is (.ro true 1 ((ahM q (l2.take i)).map eI)) [] 0) No := by
  have hil : i < l2.length := (List.getElem?_eq_some_iff.1 hi).1
  refine con_of_awp Go.Proofs.Tryd.func88 rfl (by kernel_rfl) (of_decide_eq_true (by kernel_rfl)) ?_; intro E hG hE; subst hG; simp only [ent]
  (repeat' (first | refine awp_seq ?_ | refine awp_block ?_ | refine awp_skip ?_ | refine awp_exit ?_ | ((first | refine rR (fun K kp hK hkp => ?_) | refine rD (id := 5) mixed 13 [0,1,2,3,4,5,6,7,8,9,10,11,12] (fun K kp hK hkp => ?_) | refine iG ?_ | refine iD ?_); simp (implicitDefEqProofs := false) (maxSteps := 2000000) (disch := omega) only [go_sem, eK]; (repeat' (first | (refine hK _ ?_; clear hK hkp kp K) | (with_reducible refine And.intro ?_ ?_) | omega))) | ((first | refine aG (fun h => ?_) (fun h => ?_) | refine aD (fun h => ?_) (fun h => ?_) | refine aX (fun h => ?_) (fun h => ?_)) <;> simp only [h]) | refine awp_cond_t rfl ?_ | refine awp_cond_f rfl ?_ | ((refine awp_cond rfl (fun h => ?_) (fun h => ?_) <;> try simp only [ifs] at h) <;> (try (exfalso; omega))) | refine awp_ret ?_))
  (refine AWP.emb (emb_nil 5 3 1 ?_) ?_; (· rfl); dsimp only)
  refine awp_loop (fun k : Nat => ⟨[(6, .r (.int .i64 k)), (5, .s 1 0 (ahM q (l2.take k)).length), (1, .r (.int .i64 i)), (2, .p 0 0 0)], [(0, .box 41 [.ro t1 3 (l1.map eK), .ro t2 3 (l2.map eK)]), (1, .lst 3 1 ((ahM q (l2.take k)).map eI))], 2⟩) (fun k => k ≤ i) (fun k => i - k) 0 ?_ ?_ ?_
  · simp
  · (refine emb [0, 1] ?_ ?_ rfl ?_ ?_ ?_ ?_ <;> simp [okM, okO, lk, ren, renL, renNd, by_, hE, eK, ahM] <;> (try omega))
  intro k hk
  by_cases hk' : k < i
  · obtain ⟨y, hx⟩ : ∃ x, l2[k]? = some x := ⟨l2[k], by simp [show k < l2.length by omega]⟩
    have ht : ahM q (l2.take (k + 1)) = ahM q (l2.take k) ++ (if sameT q y = true then [y.t] else []) := filt_succ hx
    have hle : (ahM q (l2.take k)).length ≤ 1048576 := by
      have := filt_len (p := sameT q) (l2.take k); have := List.length_take_le k l2; simp only [ahM] at this ⊢; omega
    cases h1 : (y.s.toList == q.s.toList)
    · (repeat' (first | refine awp_seq ?_ | refine awp_block ?_ | refine awp_skip ?_ | refine awp_exit ?_ | ((first | refine rR (fun K kp hK hkp => ?_) | refine rD (id := 5) mixed 13 [0,1,2,3,4,5,6,7,8,9,10,11,12] (fun K kp hK hkp => ?_) | refine iG ?_ | refine iD ?_); simp (implicitDefEqProofs := false) (maxSteps := 2000000) (disch := omega) only [go_sem, hx, hi, eK, h1]; (repeat' (first | (refine hK _ ?_; clear hK hkp kp K) | (with_reducible refine And.intro ?_ ?_) | omega))) | ((first | refine aG (fun h => ?_) (fun h => ?_) | refine aD (fun h => ?_) (fun h => ?_) | refine aX (fun h => ?_) (fun h => ?_)) <;> simp only [h]) | refine awp_cond_t rfl ?_ | refine awp_cond_f rfl ?_ | ((refine awp_cond rfl (fun h => ?_) (fun h => ?_) <;> try simp only [ifs] at h) <;> (try (exfalso; omega))) | refine awp_ret ?_))
      ((first | (refine nextB (k + 1) ?_ ?_ ?_) | (refine nextA (k + 1) ?_ ?_ ?_)); rotate_left; (· (try dsimp only); (first | omega | (simp only [List.length_drop, List.length_cons, List.length_append]; omega) | (simp; done) | (simp; omega))); (· (refine emb [0, 1] ?_ ?_ rfl ?_ ?_ ?_ ?_ <;> simp [okM, okO, lk, ren, renL, renNd, by_, hE, eK, ht, sameT, h1] <;> (try omega))))
      omega
    · (repeat' (first | refine awp_seq ?_ | refine awp_block ?_ | refine awp_skip ?_ | refine awp_exit ?_ | ((first | refine rR (fun K kp hK hkp => ?_) | refine rD (id := 5) mixed 13 [0,1,2,3,4,5,6,7,8,9,10,11,12] (fun K kp hK hkp => ?_) | refine iG ?_ | refine iD ?_); simp (implicitDefEqProofs := false) (maxSteps := 2000000) (disch := omega) only [go_sem, hx, hi, eK, h1]; (repeat' (first | (refine hK _ ?_; clear hK hkp kp K) | (with_reducible refine And.intro ?_ ?_) | omega))) | ((first | refine aG (fun h => ?_) (fun h => ?_) | refine aD (fun h => ?_) (fun h => ?_) | refine aX (fun h => ?_) (fun h => ?_)) <;> simp only [h]) | refine awp_cond_t rfl ?_ | refine awp_cond_f rfl ?_ | ((refine awp_cond rfl (fun h => ?_) (fun h => ?_) <;> try simp only [ifs] at h) <;> (try (exfalso; omega))) | refine awp_ret ?_))
      ((first | (refine nextB (k + 1) ?_ ?_ ?_) | (refine nextA (k + 1) ?_ ?_ ?_)); rotate_left; (· (try dsimp only); (first | omega | (simp only [List.length_drop, List.length_cons, List.length_append]; omega) | (simp; done) | (simp; omega))); (· (refine emb [0, 3] ?_ ?_ rfl ?_ ?_ ?_ ?_ <;> simp [okM, okO, lk, ren, renL, renNd, by_, hE, eK, eI, ht, sameT, h1] <;> (try omega))))
      omega
  · (repeat' (first | refine awp_seq ?_ | refine awp_block ?_ | refine awp_skip ?_ | refine awp_exit ?_ | ((first | refine rR (fun K kp hK hkp => ?_) | refine rD (id := 5) mixed 13 [0,1,2,3,4,5,6,7,8,9,10,11,12] (fun K kp hK hkp => ?_) | refine iG ?_ | refine iD ?_); simp (implicitDefEqProofs := false) (maxSteps := 2000000) (disch := omega) only [go_sem]; (repeat' (first | (refine hK _ ?_; clear hK hkp kp K) | (with_reducible refine And.intro ?_ ?_) | omega))) | ((first | refine aG (fun h => ?_) (fun h => ?_) | refine aD (fun h => ?_) (fun h => ?_) | refine aX (fun h => ?_) (fun h => ?_)) <;> simp only [h]) | refine awp_cond_t rfl ?_ | refine awp_cond_f rfl ?_ | ((refine awp_cond rfl (fun h => ?_) (fun h => ?_) <;> try simp only [ifs] at h) <;> (try (exfalso; omega))) | refine awp_ret ?_))
    obtain rfl : k = i := by omega
    (refine retA_is (by (simp (implicitDefEqProofs := false) (maxSteps := 2000000) (disch := omega) only [go_sem, Go.Proofs.Tryd.results88]); rfl) ?_; refine embS_frz (by simp only [oneA]; simp (implicitDefEqProofs := false) (maxSteps := 2000000) (disch := omega) only [go_sem]; rfl) ?_; refine (embV_nil hE (by simp) ?_).s; simp [oneA, ren, renL])
set_option maxRecDepth 100000 in
set_option maxHeartbeats 4000000 in
theorem waitsFor_con (G : List (Nat × List Value)) (t1 t2 : Bool) (l1 l2 : List LK) (n1 : l1.length ≤ 1048576) (n2 : l2.length ≤ 1048576) (i : Nat) (q : LK) (hi : l2[i]? = some q) :
    Con Go.Proofs.Tryd.prog G 54 [.agg [.ro t1 3 (l1.map eK), .ro t2 3 (l2.map eK)], .r (.int .i64 i)] [] 0 (Is (.s 0 0 (wfM l1 l2 i q).length) [(0, .lst 3 1 ((wfM l1 l2 i q).map eI))] 1) No := by
  have hil : i < l2.length := (List.getElem?_eq_some_iff.1 hi).1
  have mc := modeOf_con G t1 l1 n1 q.t q.s
  have ac := against_con G t1 l1 q n1
  have hc := aheadOf_con G t1 t2 l1 l2 n2 i q hi
  have h1 : (agM q l1).length ≤ 1048576 := by have := filt_len (p := agR q) l1; simp only [agM] at this ⊢; omega
  have h2 : (ahM q (l2.take i)).length ≤ 1048576 := by
    have := filt_len (p := sameT q) (l2.take i); have := List.length_take_le' i l2; simp only [ahM] at this ⊢; omega
  by_cases hm : modeM q.t q.s l1 = 0
  · have hW : wfM l1 l2 i q = agM q l1 ++ ahM q (l2.take i) := by rw [wfM, if_pos hm]
    rw [hm] at mc
    rw [hW]
    refine con_of_awp Go.Proofs.Tryd.func54 rfl (by kernel_rfl) (of_decide_eq_true (by kernel_rfl)) ?_; intro E hG hE; subst hG; simp only [ent]
    (repeat' (first | refine awp_seq ?_ | refine awp_block ?_ | refine awp_skip ?_ | refine awp_exit ?_ | ((first | refine rR (fun K kp hK hkp => ?_) | refine cR mc ?_ | refine cR ac ?_ | refine cR hc ?_ | refine iG ?_); simp (implicitDefEqProofs := false) (maxSteps := 2000000) (disch := omega) only [go_sem, eK, hi, eI]; (repeat' (first | (refine hK _ ?_; clear hK hkp kp K) | (with_reducible refine And.intro ?_ ?_) | omega))) | ((first | refine aG (fun h => ?_) (fun h => ?_) | refine aD (fun h => ?_) (fun h => ?_) | refine aX (fun h => ?_) (fun h => ?_)) <;> simp only [h]) | refine awp_cond_t rfl ?_ | refine awp_cond_f rfl ?_ | ((refine awp_cond rfl (fun h => ?_) (fun h => ?_) <;> try simp only [ifs] at h) <;> (try (exfalso; omega))) | refine awp_ret ?_))
    (refine retA_is (by (simp (implicitDefEqProofs := false) (maxSteps := 2000000) (disch := omega) only [go_sem, Go.Proofs.Tryd.results54]); rfl) ?_; refine (embV [3] ?_ ?_ ?_ ?_ ?_ ?_).s <;> simp [oneA, okO, lk, ren, renL, renNd, by_, hE])
  · have hW : wfM l1 l2 i q = agM q l1 := by rw [wfM, if_neg hm, List.append_nil]
    have b0 : (modeM q.t q.s l1 == 0) = false := by simpa using hm
    rw [hW]
    refine con_of_awp Go.Proofs.Tryd.func54 rfl (by kernel_rfl) (of_decide_eq_true (by kernel_rfl)) ?_; intro E hG hE; subst hG; simp only [ent]
    (repeat' (first | refine awp_seq ?_ | refine awp_block ?_ | refine awp_skip ?_ | refine awp_exit ?_ | ((first | refine rR (fun K kp hK hkp => ?_) | refine cR mc ?_ | refine cR ac ?_ | refine cR hc ?_ | refine iG ?_); simp (implicitDefEqProofs := false) (maxSteps := 2000000) (disch := omega) only [go_sem, eK, hi, eI, b0]; (repeat' (first | (refine hK _ ?_; clear hK hkp kp K) | (with_reducible refine And.intro ?_ ?_) | omega))) | ((first | refine aG (fun h => ?_) (fun h => ?_) | refine aD (fun h => ?_) (fun h => ?_) | refine aX (fun h => ?_) (fun h => ?_)) <;> simp only [h]) | refine awp_cond_t rfl ?_ | refine awp_cond_f rfl ?_ | ((refine awp_cond rfl (fun h => ?_) (fun h => ?_) <;> try simp only [ifs] at h) <;> (try (exfalso; omega))) | refine awp_ret ?_))
    (refine retA_is (by (simp (implicitDefEqProofs := false) (maxSteps := 2000000) (disch := omega) only [go_sem, Go.Proofs.Tryd.results54]); rfl) ?_; refine (embV [2] ?_ ?_ ?_ ?_ ?_ ?_).s <;> simp [oneA, okO, lk, ren, renL, renNd, by_, hE])
end Go.AM
/- The abstract machine: calls of the library that rewrite one own row of plain cells. -/
namespace Go.AM
open Go Go.RowKit Go.Sort
/-- One own thing, rewritten in its place. -/
theorem mem_one {w w' : World} {own : Nat → Prop} {z : Zone} {G : List (Nat × List Value)} {L : NLoc} {nd nd' : Nd} (hm : Mem ⟨w, own, z, G, [L]⟩ [(0, nd)] 1 [L] z w) (ho : own L.b) (hp : L.ph = false) (hs : w.heap.size ≤ w'.heap.size)
    (hb : ∀ b, b < w.heap.size → b ≠ L.b → w'.heap[b]? = w.heap[b]?) (hy : Sys w w') (hn : NdAt w' z [L] L nd') : Mem ⟨w, own, z, G, [L]⟩ [(0, nd')] 1 [L] z w' := by
  obtain ⟨M, e1, _, e3⟩ := hm.nds 0 nd rfl
  obtain rfl : L = M := by simpa using e1
  obtain ⟨e4, e5, _⟩ := e3 hp
  refine ⟨rfl, fun i x hi => ?_, fun i j x y A B hi hj hA hB _ _ _ => ?_, fun t b hz => Nat.lt_of_lt_of_le (hm.zlt t b hz) hs, hs, fun b hb1 hb2 => hb b hb1 (fun e => hb2 (e ▸ ho)), fun t b h => h, fun b h => .inl h, fun b h => h, fun g cs hg => ?_, fun i M h => h, hy⟩
  · simp only [lk] at hi
    by_cases h0 : 0 = i
    · subst h0; rw [if_pos rfl] at hi; cases hi
      exact ⟨L, rfl, hn, fun _ => ⟨Nat.lt_of_lt_of_le e4 hs, e5, .inl ho⟩⟩
    · rw [if_neg h0] at hi; cases hi
  · simp only [lk] at hi hj
    by_cases h0 : 0 = i
    · by_cases h1 : 0 = j
      · omega
      · rw [if_neg h1] at hj; cases hj
    · rw [if_neg h0] at hi; cases hi
  · obtain ⟨h1, h2⟩ := hm.globs g cs hg
    exact ⟨h1, fun j u hu => (cell_heap (hb g (hm.zlt _ _ h1) (fun e => e5 true (e ▸ h1))) j).trans (h2 j u hu)⟩
theorem reps_r {w : World} {z : Zone} {th : List NLoc} : ∀ {us vs : List Value}, Reps w z th (us.map .r) vs → vs = us
  | [], vs, h => h.of_nil
  | u :: r, vs, h => by
    obtain ⟨y, ys, rfl, h1, h2⟩ := h.head
    rw [h1.r_inv, reps_r h2]
theorem putRow_at {α : Type} [Inhabited α] {enc : α → Value} {w : World} {b off n : Nat} {d : Array α} {os : Array Obj} {cells : Array Value} {T : TypeId} {fr : Nat × Nat} (h : w.heap[b]? = some (.cells cells T fr)) :
    (grow (putRow enc (Go.Sort.ahead w n) b off d) os).heap[b]? = some (.cells (putCells enc off d cells) T fr) := by
  have hb : b < w.heap.size := (Array.getElem?_eq_some_iff.1 h).1
  simp only [grow]
  rw [Array.getElem?_append_left (by simpa [putRow, mapBlock] using hb)]
  simp [putRow, mapBlock, Array.getElem?_modify, h, onCells]
theorem putRow_else {α : Type} [Inhabited α] {enc : α → Value} {w : World} {b off n : Nat} {d : Array α} {os : Array Obj} {k : Nat} (hk : k < w.heap.size) (hn : k ≠ b) :
    (grow (putRow enc (Go.Sort.ahead w n) b off d) os).heap[k]? = w.heap[k]? := by
  simp only [grow]
  rw [Array.getElem?_append_left (by simpa [putRow, mapBlock] using hk)]
  simp [putRow, mapBlock, Array.getElem?_modify, Ne.symm hn]
theorem putRow_size {α : Type} [Inhabited α] {enc : α → Value} {w : World} {b off n : Nat} {d : Array α} {os : Array Obj} : w.heap.size ≤ (grow (putRow enc (Go.Sort.ahead w n) b off d) os).heap.size := by
  simp [grow, putRow, mapBlock]
def eEnc {α : Type} (enc : α → Value) (x : α) : List AV := [.r (enc x)]
/-- A call that rewrites an own row of plain cells in its place and gives back a head of it (or what else a function of the slice says). -/
theorem con_put {α : Type} [Inhabited α] {P : Program} {G : List (Nat × List Value)} {f : Nat} {T : TypeId} (hok : okFn P f = true) (enc : α → Value) (h1 : ∀ x, (enc x).oneCell' = true) (us : List Value) (l l' lr : List α) (hl : l'.length = l.length) (hlr : ∀ (i : Nat) y, lr[i]? = some y → l'[i]? = some y) (m : Nat) (hm : m ≤ l.length) (y : AV) (rv : Option Addr → Nat → Value) (hy : (y = .s 0 0 m ∧ rv = fun a c => .slice a m c) ∨ ∃ u, y = .r u ∧ rv = fun _ _ => u)
    (h0 : l = [] → ∀ w, Calls P f (.slice none 0 0 :: us).toArray w fun e w' => e = .returned (rv none 0) ∧ w' = w)
    (h : ∀ (w : World) (b off c : Nat), Holds enc w b off l.toArray → b < w.heap.size → l.length ≤ c → Calls P f (.slice (some ⟨b, off, none⟩) l.length c :: us).toArray w fun e w' => e = .returned (rv (some ⟨b, off, none⟩) c) ∧ ∃ n os, w' = grow (putRow enc (Go.Sort.ahead w n) b off l'.toArray) os) :
    Con P G f (.s 0 0 l.length :: us.map .r) [(0, .lst T 1 (l.map (eEnc enc)))] 1 (Is y [(0, .lst T 1 (lr.map (eEnc enc)))] 1) No := by
  refine ⟨hok, fun w th z own vs ho hmem hr => ?_⟩
  obtain ⟨v, r, rfl, g1, g2⟩ := hr.head
  obtain rfl := reps_r g2
  obtain ⟨L, rfl⟩ : ∃ L, th = [L] := List.length_eq_one_iff.1 hmem.len
  obtain ⟨M, e1, e2, e3⟩ := hmem.nds 0 _ rfl
  obtain rfl : L = M := by simpa using e1
  rcases e2 with ⟨hp, he⟩ | ⟨hp, cells, fr, hb, hf, hk, hsz, hle, hcl⟩
  · have hl0 : l = [] := by simpa using he
    subst hl0
    obtain rfl : l' = [] := List.length_eq_zero_iff.1 (by simpa using hl)
    obtain rfl : m = 0 := by simpa using hm
    obtain rfl : lr = [] := by
      cases lr with
      | nil => rfl
      | cons a r => have := hlr 0 a rfl; simp at this
    have hv : v = .slice none 0 0 := by
      cases g1 with
      | s _ _ _ _ c x M hL hp' => obtain rfl : L = M := by simpa using hL
                                  rw [hp] at hp'; cases hp'
      | sn => rfl
    subst hv
    refine (h0 rfl w).mono ?_
    rintro e w' ⟨rfl, rfl⟩
    refine ⟨_, y, _, 1, [L], z, .inl ⟨rfl, rfl, rfl, rfl⟩, by simpa using hmem, ?_⟩
    rcases hy with ⟨rfl, rfl⟩ | ⟨u, rfl, rfl⟩
    · exact .sn _ 0 0 L rfl hp
    · exact .r _ _
  · have hown : own L.b := (ho _).2 ⟨0, _, L, rfl, rfl, hp, rfl⟩
    have hlt := (e3 hp).1
    obtain ⟨c, x, rfl, hc1, hc2, hx⟩ : ∃ c x, v = .slice (some ⟨L.b, x, none⟩) l.length c ∧ l.length ≤ c ∧ c ≤ L.cap ∧ (0 < c → x = L.o) := by
      generalize hq : l.length = q at g1
      cases g1 with
      | s _ _ _ _ c x M hL hp' h3 h4 h5 =>
        obtain rfl : L = M := by simpa using hL
        exact ⟨c, x, rfl, h3, by omega, fun hc => by simpa using h5 hc⟩
      | sn _ _ _ M hL hp' => obtain rfl : L = M := by simpa using hL
                             rw [hp] at hp'; cases hp'
    have hx' : 0 < l.length → x = L.o := fun hh => hx (by omega)
    have H : Holds enc w L.b x l.toArray := by
      intro j hj
      have hj : j < l.length := by simpa using hj
      obtain rfl := hx' (by omega)
      obtain ⟨_, q2⟩ := hcl j (eEnc enc l[j]) (by rw [List.getElem?_map, List.getElem?_eq_getElem hj]; rfl)
      obtain ⟨y, q3, q4, _⟩ := q2 0 _ rfl
      rw [hk] at q3
      obtain rfl := q4.r_inv
      have q5 : cells[L.o + j]? = some (enc l[j]) := by simpa using q3
      have q6 : L.o + j < cells.size := (Array.getElem?_eq_some_iff.1 q5).1
      refine ⟨?_, ?_⟩
      · simp only [World.cell?, hb]
        simpa [hj] using q5
      · simp only [World.frozen?, hb]
        have := hf (L.o + j) q6
        simpa using this
    refine (h w L.b x c H hlt hc1).mono ?_
    rintro e w' ⟨rfl, n, os, rfl⟩
    have hcell : ∀ j, j < l.length → (putCells enc x l'.toArray cells)[L.o + j]? = (l'[j]?).map enc := by
      intro j hj
      obtain rfl := hx' (by omega)
      have hsz' : L.o + j < cells.size := by rw [hk] at hsz; have : l.length ≤ L.cap := by omega
                                             omega
      simp only [putCells, Array.getElem?_mapIdx, Array.getElem?_eq_getElem hsz', Option.map_some]
      have hj' : j < l'.length := by omega
      rw [if_pos (by simp; omega)]
      simp [show L.o + j - L.o = j by omega, hj']
    have hN : NdAt (grow (putRow enc (Go.Sort.ahead w n) L.b x l'.toArray) os) z [L] L (.lst T 1 (lr.map (eEnc enc))) := by
      have hlen : lr.length ≤ l'.length := by
        rcases Nat.lt_or_ge l'.length lr.length with hh | hh
        · have h1 := hlr l'.length lr[l'.length] (by simp [hh])
          simp at h1
        · exact hh
      refine .inr ⟨hp, _, fr, putRow_at hb, ?_, hk, ?_, ?_, ?_⟩
      · intro i hi; exact hf i (by simpa [putCells] using hi)
      · simpa [putCells] using hsz
      · simp only [List.length_map] at hle ⊢; omega
      · intro i e he
        rw [List.getElem?_map] at he
        obtain ⟨y, hy, rfl⟩ := Option.map_eq_some_iff.1 he
        have hy := hlr i y hy
        refine ⟨by simp [eEnc, hk], fun j a ha => ?_⟩
        have hi : i < l'.length := (List.getElem?_eq_some_iff.1 hy).1
        have hj0 : j = 0 := by
          have := (List.getElem?_eq_some_iff.1 ha).1
          simp [eEnc] at this; omega
        subst hj0
        simp [eEnc] at ha
        subst ha
        refine ⟨enc y, ?_, .r _ _, h1 y⟩
        have := hcell i (by omega)
        rw [hk]
        simpa [hy] using this
    refine ⟨_, y, _, 1, [L], z, .inl ⟨rfl, rfl, rfl, rfl⟩, mem_one hmem hown hp putRow_size (fun b hb1 hb2 => putRow_else hb1 hb2) ⟨rfl, rfl, rfl⟩ hN, ?_⟩
    rcases hy with ⟨rfl, rfl⟩ | ⟨u, rfl, rfl⟩
    · exact .s _ 0 0 m c x L rfl hp (by omega) (by omega) (fun hc => by simpa using hx hc)
    · exact .r _ _
end Go.AM
/-
  DERIVED: THE SHELF's CONTRACTS AT THIS DUMP, IN PLAIN WORDS (tools/lay-plain.mjs out of 'TrydSsShelf.lean', which tools/lay-shelf.mjs wrote): THE SAME DECLARATIONS UNDER THE SAME NAMES: 'import', 'namespace', 'open', 'def', 'theorem' AND NOTHING ELSE: no command of the shelf's: FOR A HAND-IN. Each laying: the table of numbers ('.._ren') and one theorem, a field a fact of the dump's own or the kernel's comparison; each contract: ONE APPLICATION.
-/
namespace Go.Proofs.YteebiklebedneaaDoor
open Go.Shelf
def Sh.lays189_ren : Go.Shelf.Ren := ⟨fun | 189 => 57 | 125 => 90 | 257 => 89 | 128 => 115 | 129 => 116 | 294 => 106 | 295 => 107 | 296 => 108 | 297 => 109 | 298 => 110 | 299 => 111 | 216 => 112 | 300 => 113 | 301 => 114 | 328 => 132 | 329 => 133 | 330 => 134 | 331 => 135 | 332 => 136 | 215 => 137 | 343 => 150 | n => n, fun | 28 => 43 | 3 => 3 | 46 => 120 | 0 => 0 | 51 => 141 | 53 => 59 | 4 => 4 | 183 => 134 | 182 => 133 | 131 => 138 | 5 => 5 | 9 => 9 | 218 => 156 | 222 => 160 | 228 => 175 | 229 => 176 | n => n, fun | n => n⟩
theorem Sh.lays189 : Go.Proofs.Lays.n189 Tryd.prog Sh.lays189_ren := {
  mixed := by kernel_rfl
  f125 := Tryd.func90.trans (congrArg some (by kernel_rfl))
  f128 := Tryd.func115.trans (congrArg some (by kernel_rfl))
  f129 := Tryd.func116.trans (congrArg some (by kernel_rfl))
  f189 := Tryd.func57.trans (congrArg some (by kernel_rfl))
  f215 := Tryd.func137.trans (congrArg some (by kernel_rfl))
  f216 := Tryd.func112.trans (congrArg some (by kernel_rfl))
  f257 := Tryd.func89.trans (congrArg some (by kernel_rfl))
  f294 := Tryd.func106.trans (congrArg some (by kernel_rfl))
  f295 := Tryd.func107.trans (congrArg some (by kernel_rfl))
  f296 := Tryd.func108.trans (congrArg some (by kernel_rfl))
  f297 := Tryd.func109.trans (congrArg some (by kernel_rfl))
  f298 := Tryd.func110.trans (congrArg some (by kernel_rfl))
  f299 := Tryd.func111.trans (congrArg some (by kernel_rfl))
  f300 := Tryd.func113.trans (congrArg some (by kernel_rfl))
  f301 := Tryd.func114.trans (congrArg some (by kernel_rfl))
  f328 := Tryd.func132.trans (congrArg some (by kernel_rfl))
  f329 := Tryd.func133.trans (congrArg some (by kernel_rfl))
  f330 := Tryd.func134.trans (congrArg some (by kernel_rfl))
  f331 := Tryd.func135.trans (congrArg some (by kernel_rfl))
  f332 := Tryd.func136.trans (congrArg some (by kernel_rfl))
  f343 := Tryd.func150.trans (congrArg some (by kernel_rfl))
  t0 := Tryd.underlying0
  a0 := Tryd.isAgg0
  z0 := Tryd.sizeOf0
  v0 := Tryd.zeroValue0
  t3 := Tryd.underlying3
  a3 := Tryd.isAgg3
  z3 := Tryd.sizeOf3
  v3 := Tryd.zeroValue3
  t4 := Tryd.underlying4
  a4 := Tryd.isAgg4
  z4 := Tryd.sizeOf4
  v4 := Tryd.zeroValue4
  t5 := Tryd.underlying5
  a5 := Tryd.isAgg5
  z5 := Tryd.sizeOf5
  v5 := Tryd.zeroValue5
  t9 := Tryd.underlying9
  a9 := Tryd.isAgg9
  z9 := Tryd.sizeOf9
  v9 := Tryd.zeroValue9
  t28 := Tryd.underlying43
  a28 := Tryd.isAgg43
  z28 := Tryd.sizeOf43
  v28 := Tryd.zeroValue43
  t46 := Tryd.underlying120
  a46 := Tryd.isAgg120
  z46 := Tryd.sizeOf120
  v46 := Tryd.zeroValue120
  t51 := Tryd.underlying141
  a51 := Tryd.isAgg141
  z51 := Tryd.sizeOf141
  v51 := Tryd.zeroValue141
  t53 := Tryd.underlying59
  a53 := Tryd.isAgg59
  z53 := Tryd.sizeOf59
  v53 := Tryd.zeroValue59
  t131 := Tryd.underlying138
  a131 := Tryd.isAgg138
  z131 := Tryd.sizeOf138
  v131 := Tryd.zeroValue138
  t182 := Tryd.underlying133
  a182 := Tryd.isAgg133
  z182 := Tryd.sizeOf133
  v182 := Tryd.zeroValue133
  t183 := Tryd.underlying134
  a183 := Tryd.isAgg134
  z183 := Tryd.sizeOf134
  v183 := Tryd.zeroValue134
  t218 := Tryd.underlying156
  a218 := Tryd.isAgg156
  z218 := Tryd.sizeOf156
  v218 := Tryd.zeroValue156
  t222 := Tryd.underlying160
  a222 := Tryd.isAgg160
  z222 := Tryd.sizeOf160
  v222 := Tryd.zeroValue160
  t228 := Tryd.underlying175
  a228 := Tryd.isAgg175
  z228 := Tryd.sizeOf175
  v228 := Tryd.zeroValue175
  t229 := Tryd.underlying176
  a229 := Tryd.isAgg176
  z229 := Tryd.sizeOf176
  v229 := Tryd.zeroValue176 }
open Go.Sort Go.RowKit in
theorem Sh.slices_Sort_int (blk off cap : Nat) (zs : List Int) (w : World) (hH : Holds (Value.int .i64) w blk off zs.toArray) (hblk : blk < w.heap.size) (hsz : zs.length < 4611686018427387904) :
    Calls Tryd.prog 57 #[.slice (some ⟨blk, off, none⟩) zs.length cap] w fun e w' =>
      e = .returned (.tuple #[]) ∧ ∃ n os, w' = grow (putRow (Value.int .i64) (Sort.ahead w n) blk off (zs.mergeSort fun x y => decide (x ≤ y)).toArray) os := Any.slices_Sort_int Sh.lays189 blk off cap zs w hH hblk hsz
def Sh.laysNm220_ren : Go.Shelf.Ren := ⟨fun | 20 => 58 | n => n, fun | 22 => 43 | 3 => 3 | 4 => 4 | 0 => 0 | n => n, fun | n => n⟩
theorem Sh.laysNm220 : Go.Proofs.Lays2.n20 Tryd.prog Sh.laysNm220_ren := {
  mixed := by kernel_rfl
  f20 := Tryd.func58.trans (congrArg some (by kernel_rfl))
  t0 := Tryd.underlying0
  a0 := Tryd.isAgg0
  z0 := Tryd.sizeOf0
  v0 := Tryd.zeroValue0
  t3 := Tryd.underlying3
  a3 := Tryd.isAgg3
  z3 := Tryd.sizeOf3
  v3 := Tryd.zeroValue3
  t4 := Tryd.underlying4
  a4 := Tryd.isAgg4
  z4 := Tryd.sizeOf4
  v4 := Tryd.zeroValue4
  t22 := Tryd.underlying43
  a22 := Tryd.isAgg43
  z22 := Tryd.sizeOf43
  v22 := Tryd.zeroValue43
  i3 := by kernel_rfl }
open Go.RowKit Go.Lib Go.Sort in
/-- slices.Compact at []int: "Compact replaces consecutive runs of equal elements with a single copy. This is like the uniq command found on Unix. Compact modifies the contents of the slice s and returns the modified slice, which may have a smaller length. Compact zeroes the elements between the new length and the original length. The result preserves the nilness of s.": IT RETURNS THE SLICE CUT TO 'Lib.compact zs'; ITS CELLS HOLD 'Lib.compact zs', THEN ZERO VALUES up to the old length; all else is as it was, but for the count of draws. IN THE WORDS OF slices.Sort's CONTRACT ('Holds', 'putRow'): so the everyday 'slices.Sort(xs); xs = slices.Compact(xs)' goes from the one contract to the other. It asks 'zs.length ≤ cap' (every slice's: the reslicing 's[:k]' looks at it). Length 0, nil: '.._empty'. (LAID: no walk: one application.) -/
theorem Sh.slices_Compact_int (blk off cap : Nat) (zs : List Int) (w : World) (hH : Holds (Value.int .i64) w blk off zs.toArray) (hsz : zs.length ≤ 9223372036854775807) (hcap : zs.length ≤ cap) :
    Calls Tryd.prog 58 #[.slice (some ⟨blk, off, none⟩) zs.length cap] w fun e w' => e = .returned (.slice (some ⟨blk, off, none⟩) (Lib.compact zs).length cap) ∧ ∃ q, w' = putRow (Value.int .i64) (Sort.ahead w q) blk off (Lib.compact zs ++ List.replicate (zs.length - (Lib.compact zs).length) 0).toArray := Any.slices_Compact_int Sh.laysNm220 blk off cap zs w hH hsz hcap
open Go.RowKit Go.Lib Go.Sort in
/-- The same at a slice of length 0, a nil one too: it comes back as it is. (LAID: no walk: one application.) -/
theorem Sh.slices_Compact_int_empty (a : Option Addr) (cap : Nat) (w : World) :
    Calls Tryd.prog 58 #[.slice a 0 cap] w fun e w' => e = .returned (.slice a 0 cap) ∧ w' = w := Any.slices_Compact_int_empty Sh.laysNm220 a cap w
open Go.RowKit Go.Sort in
/-- .. and plain. (LAID: no walk: one application.) -/
theorem Sh.slices_Sort_int_none (p : Option Addr) (cap : Nat) (w : World) :
    Calls Tryd.prog 57 #[.slice p 0 cap] w fun e w' => e = .returned (.tuple #[]) ∧ w' = w := Any.slices_Sort_int_none Sh.lays189 p cap w
end Go.Proofs.YteebiklebedneaaDoor
/- The plain law of waits: a sorted list without doubles is one. -/
namespace Go.Proofs.YteebiklebedneaaDoor
open Go.Lib
theorem strict_ext : ∀ {a b : List Int}, a.Pairwise (· < ·) → b.Pairwise (· < ·) → (∀ x, x ∈ a ↔ x ∈ b) → a = b
  | [], [], _, _, _ => rfl
  | [], y :: s, _, _, h => absurd ((h y).2 (by simp)) (by simp)
  | x :: r, [], _, _, h => absurd ((h x).1 (by simp)) (by simp)
  | x :: r, y :: s, ha, hb, h => by
    rw [List.pairwise_cons] at ha hb
    have hxy : x = y := by
      have h1 := (h x).1 (by simp)
      have h2 := (h y).2 (by simp)
      rw [List.mem_cons] at h1 h2
      rcases h1 with h1 | h1
      · exact h1
      · rcases h2 with h2 | h2
        · exact h2.symm
        · have := ha.1 y h2; have := hb.1 x h1; omega
    subst hxy
    congr 1
    refine strict_ext ha.2 hb.2 fun z => ?_
    have := h z
    rw [List.mem_cons, List.mem_cons] at this
    constructor
    · intro hz
      rcases this.1 (.inr hz) with rfl | h3
      · have := ha.1 z hz; omega
      · exact h3
    · intro hz
      rcases this.2 (.inr hz) with rfl | h3
      · have := hb.1 z hz; omega
      · exact h3
theorem compact_upto (d : Array Int) (n : Nat) (hs : ∀ i j, i ≤ j → j < n → d[i]! ≤ d[j]!) : ∀ m, m ≤ n → (compactUpTo d m).Pairwise (· < ·) ∧ ∀ x, x ∈ compactUpTo d m ↔ ∃ j, j < m ∧ d[j]! = x
  | 0, _ => ⟨by simp [compactUpTo], fun x => by simp [compactUpTo]⟩
  | m + 1, hm => by
    obtain ⟨h1, h2⟩ := compact_upto d n hs m (by omega)
    rw [compactUpTo_succ]
    by_cases hk : keeps d m = true
    · rw [if_pos hk]
      simp only [keeps, decide_eq_true_eq] at hk
      refine ⟨?_, fun x => ?_⟩
      · rw [List.pairwise_append]
        refine ⟨h1, by simp, fun a ha b hb => ?_⟩
        obtain ⟨j, hj, rfl⟩ := (h2 a).1 ha
        obtain rfl : b = d[m]! := by simpa using hb
        rcases hk with h0 | hk
        · omega
        · have q1 := hs j (m - 1) (by omega) (by omega)
          have q2 := hs (m - 1) m (by omega) (by omega)
          omega
      · rw [List.mem_append, h2]
        constructor
        · rintro (⟨j, hj, rfl⟩ | hx)
          · exact ⟨j, by omega, rfl⟩
          · exact ⟨m, by omega, (List.mem_singleton.1 hx).symm⟩
        · rintro ⟨j, hj, rfl⟩
          rcases Nat.lt_or_eq_of_le (Nat.le_of_lt_succ hj) with h | rfl
          · exact .inl ⟨j, h, rfl⟩
          · exact .inr (by simp)
    · rw [if_neg hk, List.append_nil]
      simp only [keeps, decide_eq_true_eq, not_or] at hk
      refine ⟨h1, fun x => ?_⟩
      rw [h2]
      constructor
      · rintro ⟨j, hj, rfl⟩; exact ⟨j, by omega, rfl⟩
      · rintro ⟨j, hj, rfl⟩
        rcases Nat.lt_or_eq_of_le (Nat.le_of_lt_succ hj) with h | rfl
        · exact ⟨j, h, rfl⟩
        · exact ⟨j - 1, by omega, by have := hk.2; simp only [ne_eq, Decidable.not_not] at this; exact this.symm⟩
/-- Sorted, each once. -/
def uniqS (ws : List Int) : List Int := compact (ws.mergeSort fun x y => decide (x ≤ y))
theorem uniq_spec (ws : List Int) : (uniqS ws).Pairwise (· < ·) ∧ ∀ x, x ∈ uniqS ws ↔ x ∈ ws := by
  unfold uniqS compact
  have hs := List.pairwise_mergeSort (le := fun (x y : Int) => decide (x ≤ y)) (fun a b c h1 h2 => by simp at h1 h2 ⊢; omega) (fun a b => by simp; omega) ws
  generalize hz : ws.mergeSort (fun x y => decide (x ≤ y)) = zs at hs
  have hm : ∀ x, x ∈ zs ↔ x ∈ ws := fun x => by rw [← hz]; exact List.mem_mergeSort
  have hget : ∀ i, i < zs.length → zs.toArray[i]! = zs.getD i 0 := fun i hi => by
    rw [getElem!_pos zs.toArray i (by simpa using hi), List.getD, List.getElem?_eq_getElem hi]; simp
  obtain ⟨h1, h2⟩ := compact_upto zs.toArray zs.length (fun i j hij hj => by
    rw [hget i (by omega), hget j hj]
    rcases Nat.lt_or_eq_of_le hij with h | rfl
    · have := List.pairwise_iff_getElem.1 hs i j (by omega) hj h
      simp only [List.getD, List.getElem?_eq_getElem (show i < zs.length by omega), List.getElem?_eq_getElem hj, Option.getD_some]
      simpa using this
    · exact Int.le_refl _) zs.length (Nat.le_refl _)
  refine ⟨h1, fun x => ?_⟩
  rw [h2, ← hm]
  constructor
  · rintro ⟨j, hj, rfl⟩
    rw [hget j hj, List.getD, List.getElem?_eq_getElem hj]
    exact List.getElem_mem hj
  · intro hx
    obtain ⟨j, hj, rfl⟩ := List.mem_iff_getElem.1 hx
    exact ⟨j, hj, by rw [hget j hj, List.getD, List.getElem?_eq_getElem hj]; rfl⟩
theorem uniq_of {r ws : List Int} (h1 : r.Pairwise (· < ·)) (h2 : ∀ x, x ∈ r ↔ x ∈ ws) : r = uniqS ws :=
  strict_ext h1 (uniq_spec ws).1 fun x => (h2 x).trans ((uniq_spec ws).2 x).symm
end Go.Proofs.YteebiklebedneaaDoor
/- Rows of numbers: sorted, each once; the program's Waits. -/
namespace Go.AM
open Go Go.RowKit
open Go.Proofs.YteebiklebedneaaDoor (LK SlAt LksAt TabFits TabJoins fitB joinB modeB shapeM findM agK agR agM ahM wfM modeM firstM lockGood chkM isK sameT sameX fitsL joinsL fittingM uniqS uniq_spec uniq_of)
attribute [local irreducible] AWP retA
theorem sortI_con (G : List (Nat × List Value)) (l : List Int) (hl : l.length ≤ 4194304) : Con Go.Proofs.Tryd.prog G 57 [.s 0 0 l.length] [(0, .lst 3 1 (l.map eI))] 1 (Is (.r (.tuple #[])) [(0, .lst 3 1 ((l.mergeSort fun x y => decide (x ≤ y)).map eI))] 1) No :=
  con_put (P := Go.Proofs.Tryd.prog) (by kernel_rfl) (Value.int .i64) (fun _ => rfl) [] l (l.mergeSort fun x y => decide (x ≤ y)) _ (by simp) (fun _ _ h => h) 0 (Nat.zero_le _) (.r (.tuple #[])) (fun _ _ => .tuple #[]) (.inr ⟨_, rfl, rfl⟩)
    (fun _ w => Go.Proofs.YteebiklebedneaaDoor.Sh.slices_Sort_int_none none 0 w)
    (fun w b off c H hb hc => Go.Proofs.YteebiklebedneaaDoor.Sh.slices_Sort_int b off c l w H hb (by omega))
theorem compactUpTo_le (d : Array Int) : ∀ m, (Lib.compactUpTo d m).length ≤ m
  | 0 => by simp [Lib.compactUpTo]
  | m + 1 => by
    have := compactUpTo_le d m
    rw [Lib.compactUpTo_succ]
    split <;> simp <;> omega
theorem compact_le (zs : List Int) : (Lib.compact zs).length ≤ zs.length := by
  have := compactUpTo_le zs.toArray zs.toArray.size
  simpa [Lib.compact] using this
theorem compactI_con (G : List (Nat × List Value)) (l : List Int) (hl : l.length ≤ 4194304) : Con Go.Proofs.Tryd.prog G 58 [.s 0 0 l.length] [(0, .lst 3 1 (l.map eI))] 1 (Is (.s 0 0 (Lib.compact l).length) [(0, .lst 3 1 ((Lib.compact l).map eI))] 1) No :=
  con_put (P := Go.Proofs.Tryd.prog) (by kernel_rfl) (Value.int .i64) (fun _ => rfl) [] l (Lib.compact l ++ List.replicate (l.length - (Lib.compact l).length) 0) _ (by have := compact_le l; simp; omega)
    (fun i y h => by rw [List.getElem?_append_left (List.getElem?_eq_some_iff.1 h).1]; exact h) _ (compact_le l) _ (fun a c => .slice a (Lib.compact l).length c) (.inl ⟨rfl, rfl⟩)
    (fun h w => by subst h; exact Go.Proofs.YteebiklebedneaaDoor.Sh.slices_Compact_int_empty none 0 w)
    (fun w b off c H hb hc => (Go.Proofs.YteebiklebedneaaDoor.Sh.slices_Compact_int b off c l w H (by omega) hc).mono (fun e w' ⟨h1, q, h2⟩ => ⟨h1, q, #[], by rw [h2, Go.Sort.grow_empty]⟩))
/-- For whom each waits, by the queue. -/
def rowM (l1 l2 : List LK) (i : Nat) : List Int := match l2[i]? with
  | some q => uniqS (wfM l1 l2 i q)
  | none => []
def rowsM (l1 l2 : List LK) (k : Nat) : List (List Int) := (List.range k).map (rowM l1 l2)
theorem rowM_at {l1 l2 : List LK} {i : Nat} {q : LK} (h : l2[i]? = some q) : rowM l1 l2 i = uniqS (wfM l1 l2 i q) := by simp only [rowM, h]
theorem rowsM_succ (l1 l2 : List LK) (k : Nat) : rowsM l1 l2 (k + 1) = rowsM l1 l2 k ++ [rowM l1 l2 k] := by simp [rowsM, List.range_succ]
theorem rowsM_len (l1 l2 : List LK) (k : Nat) : (rowsM l1 l2 k).length = k := by simp [rowsM]
theorem wfM_len (l1 l2 : List LK) (i : Nat) (q : LK) : (wfM l1 l2 i q).length ≤ l1.length + l2.length := by
  have h1 := filt_len (p := agR q) l1
  have h2 := filt_len (p := sameT q) (l2.take i)
  have h3 := List.length_take_le' i l2
  unfold wfM
  rw [List.length_append]
  simp only [agM, ahM] at h1 h2 ⊢
  split
  · omega
  · simp only [List.length_nil]; omega
theorem uniq_len (l : List Int) : (uniqS l).length ≤ l.length := by
  unfold uniqS
  have := compact_le (l.mergeSort fun x y => decide (x ≤ y))
  simpa using this
theorem rowM_len (l1 l2 : List LK) (i : Nat) : (rowM l1 l2 i).length ≤ l1.length + l2.length := by
  unfold rowM
  split
  · exact Nat.le_trans (uniq_len _) (wfM_len _ _ _ _)
  · simp
theorem good_modes {l1 l2 : List LK} (h : lockGood l1 l2) : (∀ y ∈ l1, modeB y.m = true) ∧ ∀ (i : Nat) q, l2[i]? = some q → modeB q.m = true :=
  ⟨fun y hy => (Go.Proofs.YteebiklebedneaaDoor.shape_mode (h.2.1 y hy)).1, fun i q hi => (Go.Proofs.YteebiklebedneaaDoor.shape_mode (h.2.2.2 i q hi).1).1⟩
set_option maxRecDepth 100000 in
set_option maxHeartbeats 8000000 in
theorem Waits_good {G : List (Nat × List Value)} (T : TabsL G) (t1 t2 : Bool) (l1 l2 : List LK) (o1 : okKs l1) (o2 : okKs l2) (hg : lockGood l1 l2) :
    Con Go.Proofs.Tryd.prog G 24 [.agg [.ro t1 3 (l1.map eK), .ro t2 3 (l2.map eK)]] [] 0 (Is (.tup [.ro true 1 ((rowsM l1 l2 l2.length).map eIs), .r (.int .i64 0)]) [] 0) No := by
  have cc := check_con T t1 t2 l1 l2 o1 o2
  rw [Go.Proofs.YteebiklebedneaaDoor.chk_yes hg] at cc
  obtain ⟨m1, m2⟩ := good_modes hg
  refine con_of_awp Go.Proofs.Tryd.func24 rfl (by kernel_rfl) (of_decide_eq_true (by kernel_rfl)) ?_; intro E hG hE; subst hG; simp only [ent]
  (repeat' (first | refine awp_seq ?_ | refine awp_block ?_ | refine awp_skip ?_ | refine awp_exit ?_ | ((first | refine rR (fun K kp hK hkp => ?_) | refine cR cc ?_ | refine iG ?_); simp (implicitDefEqProofs := false) (maxSteps := 2000000) (disch := omega) only [go_sem, eK]; (repeat' (first | (refine hK _ ?_; clear hK hkp kp K) | (with_reducible refine And.intro ?_ ?_) | omega))) | ((first | refine aG (fun h => ?_) (fun h => ?_) | refine aD (fun h => ?_) (fun h => ?_) | refine aX (fun h => ?_) (fun h => ?_)) <;> simp only [h]) | refine awp_cond_t rfl ?_ | refine awp_cond_f rfl ?_ | ((refine awp_cond rfl (fun h => ?_) (fun h => ?_) <;> try simp only [ifs] at h) <;> (try (exfalso; omega))) | refine awp_ret ?_))
  (refine AWP.emb (emb_nil 5 43 1 ?_) ?_; (· rfl); dsimp only)
  refine awp_loop (fun k : Nat => ⟨[(16, .r (.int .i64 k)), (15, .r (.int .i64 l2.length)), (5, .s 1 0 k), (1, .p 0 0 0)], [(0, .box 41 [.ro t1 3 (l1.map eK), .ro t2 3 (l2.map eK)]), (1, .lst 43 1 ((rowsM l1 l2 k).map eIs))], 2⟩) (fun k => k ≤ l2.length) (fun k => l2.length - k) 0 ?_ ?_ ?_
  · simp
  · (refine emb [0, 1] ?_ ?_ rfl ?_ ?_ ?_ ?_ <;> simp [okM, okO, lk, ren, renL, renNd, by_, hE, rowsM] <;> (try omega))
  intro k hk
  have hR := rowsM_len l1 l2 k
  have htk : ((rowsM l1 l2 k).map eIs).take k = (rowsM l1 l2 k).map eIs := List.take_of_length_le (by simp [hR])
  by_cases hlt : k < l2.length
  · obtain ⟨q, hx⟩ : ∃ x, l2[k]? = some x := ⟨l2[k], by simp [hlt]⟩
    have hS := rowsM_succ l1 l2 k
    have wc := waits_con T t1 t2 l1 l2 o1.1 o2.1 k q hx (m2 k q hx) m1
    have hw := wfM_len l1 l2 k q
    have hw1 := o1.1
    have hw2 := o2.1
    have sc := sortI_con E.G (wfM l1 l2 k q) (by omega)
    have kc := compactI_con E.G ((wfM l1 l2 k q).mergeSort fun x y => decide (x ≤ y)) (by simp; omega)
    rw [show ((wfM l1 l2 k q).mergeSort fun x y => decide (x ≤ y)).length = (wfM l1 l2 k q).length by simp] at kc
    rw [rowM_at hx] at hS
    rw [show Lib.compact ((wfM l1 l2 k q).mergeSort fun x y => decide (x ≤ y)) = uniqS (wfM l1 l2 k q) from rfl] at kc
    (repeat' (first | refine awp_seq ?_ | refine awp_block ?_ | refine awp_skip ?_ | refine awp_exit ?_ | ((first | refine rR (fun K kp hK hkp => ?_) | refine cR wc ?_ | refine iG ?_); simp (implicitDefEqProofs := false) (maxSteps := 2000000) (disch := omega) only [go_sem, eK]; (repeat' (first | (refine hK _ ?_; clear hK hkp kp K) | (with_reducible refine And.intro ?_ ?_) | omega))) | ((first | refine aG (fun h => ?_) (fun h => ?_) | refine aD (fun h => ?_) (fun h => ?_) | refine aX (fun h => ?_) (fun h => ?_)) <;> simp only [h]) | refine awp_cond_t rfl ?_ | refine awp_cond_f rfl ?_ | ((refine awp_cond rfl (fun h => ?_) (fun h => ?_) <;> try simp only [ifs] at h) <;> (try (exfalso; omega))) | refine awp_ret ?_))
    (refine callR_own [2] (sc) ?_ ?_ ?_ ?_ ?_ ?_ ?_ ?_ rfl rfl ?_; (· simp [pasL, pas, idx]); (· simp [okO, lk, renNd, renL, ren, by_]); (· (intro i hi; simp only [List.length_cons, List.length_nil] at hi; first | (obtain rfl : i = 0 := (by omega); exact ⟨_, rfl⟩) | (rcases (by omega : i = 0 ∨ i = 1) with rfl | rfl <;> exact ⟨_, rfl⟩) | (rcases (by omega : i = 0 ∨ i = 1 ∨ i = 2) with rfl | rfl | rfl <;> exact ⟨_, rfl⟩))); (· simp); (· simp); (· simp); (· simp); (· simp); simp only [mapO, fw, rmL, rm, List.map_cons, List.map_nil, List.foldl_cons, List.foldl_nil, List.getElem?_cons_zero, List.getElem?_cons_succ, List.getElem?_nil, List.length_cons, List.length_nil, Nat.zero_add, Nat.sub_self, Nat.add_zero, ↓reduceIte, Nat.reduceEqDiff, reduceCtorEq, Nat.reduceAdd, Nat.reduceSub, List.cons_append, List.nil_append, ren, renL, renNd]; simp (implicitDefEqProofs := false) (maxSteps := 2000000) (disch := omega) only [go_sem]; (repeat' (first | (refine hK _ ?_; clear hK hkp kp K) | (with_reducible refine And.intro ?_ ?_) | omega)))
    (repeat' (first | refine awp_seq ?_ | refine awp_block ?_ | refine awp_skip ?_ | refine awp_exit ?_ | ((first | refine rR (fun K kp hK hkp => ?_) | refine iG ?_); simp (implicitDefEqProofs := false) (maxSteps := 2000000) (disch := omega) only [go_sem, eK]; (repeat' (first | (refine hK _ ?_; clear hK hkp kp K) | (with_reducible refine And.intro ?_ ?_) | omega))) | ((first | refine aG (fun h => ?_) (fun h => ?_) | refine aD (fun h => ?_) (fun h => ?_) | refine aX (fun h => ?_) (fun h => ?_)) <;> simp only [h]) | refine awp_cond_t rfl ?_ | refine awp_cond_f rfl ?_ | ((refine awp_cond rfl (fun h => ?_) (fun h => ?_) <;> try simp only [ifs] at h) <;> (try (exfalso; omega))) | refine awp_ret ?_))
    (refine callR_own [2] (kc) ?_ ?_ ?_ ?_ ?_ ?_ ?_ ?_ rfl rfl ?_; (· simp [pasL, pas, idx]); (· simp [okO, lk, renNd, renL, ren, by_]); (· (intro i hi; simp only [List.length_cons, List.length_nil] at hi; first | (obtain rfl : i = 0 := (by omega); exact ⟨_, rfl⟩) | (rcases (by omega : i = 0 ∨ i = 1) with rfl | rfl <;> exact ⟨_, rfl⟩) | (rcases (by omega : i = 0 ∨ i = 1 ∨ i = 2) with rfl | rfl | rfl <;> exact ⟨_, rfl⟩))); (· simp); (· simp); (· simp); (· simp); (· simp); simp only [mapO, fw, rmL, rm, List.map_cons, List.map_nil, List.foldl_cons, List.foldl_nil, List.getElem?_cons_zero, List.getElem?_cons_succ, List.getElem?_nil, List.length_cons, List.length_nil, Nat.zero_add, Nat.sub_self, Nat.add_zero, ↓reduceIte, Nat.reduceEqDiff, reduceCtorEq, Nat.reduceAdd, Nat.reduceSub, List.cons_append, List.nil_append, ren, renL, renNd]; simp (implicitDefEqProofs := false) (maxSteps := 2000000) (disch := omega) only [go_sem]; (repeat' (first | (refine hK _ ?_; clear hK hkp kp K) | (with_reducible refine And.intro ?_ ?_) | omega)))
    (repeat' (first | refine awp_seq ?_ | refine awp_block ?_ | refine awp_skip ?_ | refine awp_exit ?_ | ((first | refine rR (fun K kp hK hkp => ?_) | refine iG ?_); simp (implicitDefEqProofs := false) (maxSteps := 2000000) (disch := omega) only [go_sem, eK]; (repeat' (first | (refine hK _ ?_; clear hK hkp kp K) | (with_reducible refine And.intro ?_ ?_) | omega))) | ((first | refine aG (fun h => ?_) (fun h => ?_) | refine aD (fun h => ?_) (fun h => ?_) | refine aX (fun h => ?_) (fun h => ?_)) <;> simp only [h]) | refine awp_cond_t rfl ?_ | refine awp_cond_f rfl ?_ | ((refine awp_cond rfl (fun h => ?_) (fun h => ?_) <;> try simp only [ifs] at h) <;> (try (exfalso; omega))) | refine awp_ret ?_))
    ((first | (refine nextB (k + 1) ?_ ?_ ?_) | (refine nextA (k + 1) ?_ ?_ ?_)); rotate_left; (· (try dsimp only); (first | omega | (simp only [List.length_drop, List.length_cons, List.length_append]; omega) | (simp; done) | (simp; omega))); (· (refine emb [0, 4] ?_ ?_ rfl ?_ ?_ ?_ ?_ <;> simp [okM, okO, lk, ren, renL, renNd, by_, hE, hS, htk, eIs] <;> (try omega))))
    omega
  · obtain rfl : k = l2.length := by omega
    (repeat' (first | refine awp_seq ?_ | refine awp_block ?_ | refine awp_skip ?_ | refine awp_exit ?_ | ((first | refine rR (fun K kp hK hkp => ?_) | refine iG ?_); simp (implicitDefEqProofs := false) (maxSteps := 2000000) (disch := omega) only [go_sem]; (repeat' (first | (refine hK _ ?_; clear hK hkp kp K) | (with_reducible refine And.intro ?_ ?_) | omega))) | ((first | refine aG (fun h => ?_) (fun h => ?_) | refine aD (fun h => ?_) (fun h => ?_) | refine aX (fun h => ?_) (fun h => ?_)) <;> simp only [h]) | refine awp_cond_t rfl ?_ | refine awp_cond_f rfl ?_ | ((refine awp_cond rfl (fun h => ?_) (fun h => ?_) <;> try simp only [ifs] at h) <;> (try (exfalso; omega))) | refine awp_ret ?_))
    (refine retA_is (by (simp (implicitDefEqProofs := false) (maxSteps := 2000000) (disch := omega) only [go_sem, Go.Proofs.Tryd.results24, htk]); rfl) ?_; refine embS_frz (by simp only [oneA]; simp (implicitDefEqProofs := false) (maxSteps := 2000000) (disch := omega) only [go_sem, htk]; rfl) ?_; refine (embV_nil hE (by simp) ?_).s; simp [oneA, ren, renL, htk])
end Go.AM
/- Locks: the reference's WaitsOf. -/
namespace Go.AM
open Go Go.RowKit
open Go.Proofs.YteebiklebedneaaDoor (LK SlAt LksAt TabFits TabJoins fitB joinB modeB shapeM findM agK agR agM ahM wfM modeM firstM lockGood chkM isK sameT sameX fitsL joinsL fittingM uniqS uniq_spec uniq_of)
attribute [local irreducible] AWP retA
/-- The least above one, as the reference finds it. -/
def stepL (last acc x : Int) : Int := if x > last ∧ (acc = 0 ∨ x < acc) then x else acc
def leastF (last : Int) : Int → List Int → Int
  | acc, [] => acc
  | acc, x :: r => leastF last (stepL last acc x) r
/-- What the accumulator is, all numbers being above nought. -/
def okAcc (last acc : Int) (seen : List Int) : Prop := (acc = 0 ∧ ∀ x ∈ seen, x ≤ last) ∨ (acc ∈ seen ∧ last < acc ∧ ∀ x ∈ seen, last < x → acc ≤ x)
theorem okAcc_step {last acc x : Int} {seen : List Int} (h0 : 0 ≤ last) (h : okAcc last acc seen) : okAcc last (stepL last acc x) (seen ++ [x]) := by
  unfold stepL
  rcases h with ⟨rfl, h⟩ | ⟨h1, h2, h3⟩
  · by_cases hx : x > last
    · rw [if_pos ⟨hx, .inl rfl⟩]
      refine .inr ⟨by simp, hx, fun y hy hl => ?_⟩
      rcases List.mem_append.1 hy with hy | hy
      · have := h y hy; omega
      · simp at hy; omega
    · rw [if_neg (fun n => hx n.1)]
      refine .inl ⟨rfl, fun y hy => ?_⟩
      rcases List.mem_append.1 hy with hy | hy
      · exact h y hy
      · simp at hy; omega
  · by_cases hx : x > last ∧ (acc = 0 ∨ x < acc)
    · rw [if_pos hx]
      refine .inr ⟨by simp, hx.1, fun y hy hl => ?_⟩
      rcases List.mem_append.1 hy with hy | hy
      · have := h3 y hy hl; rcases hx.2 with h4 | h4 <;> omega
      · simp at hy; omega
    · rw [if_neg hx]
      refine .inr ⟨by simp [h1], h2, fun y hy hl => ?_⟩
      rcases List.mem_append.1 hy with hy | hy
      · exact h3 y hy hl
      · simp at hy; subst hy
        rcases Int.lt_or_le y acc with h | h
        · exact absurd ⟨hl, .inr h⟩ hx
        · exact h
/-- How far the reference is with a row. -/
structure RowAt (ws row : List Int) (last : Int) : Prop where
  up : row.Pairwise (· < ·)
  lo : 0 ≤ last
  mem : ∀ x, x ∈ row ↔ x ∈ ws ∧ x ≤ last
theorem rowAt_nil {ws : List Int} (h : ∀ x ∈ ws, 1 ≤ x) : RowAt ws [] 0 := ⟨by simp, Int.le_refl _, fun x => by
  constructor
  · intro h; cases h
  · rintro ⟨h1, h2⟩; have := h x h1; omega⟩
theorem rowAt_more {ws row : List Int} {last a : Int} (h : RowAt ws row last) (ha : okAcc last a ws) (h0 : a ≠ 0) : RowAt ws (row ++ [a]) a := by
  rcases ha with ⟨h1, _⟩ | ⟨h1, h2, h3⟩
  · exact absurd h1 h0
  · refine ⟨?_, by have := h.lo; omega, fun x => ?_⟩
    · rw [List.pairwise_append]
      refine ⟨h.up, by simp, fun x hx b hb => ?_⟩
      simp at hb; subst hb
      have := ((h.mem x).1 hx).2; omega
    · rw [List.mem_append, h.mem]
      constructor
      · rintro (⟨q1, q2⟩ | hx)
        · exact ⟨q1, by omega⟩
        · simp at hx; subst hx; exact ⟨h1, Int.le_refl _⟩
      · rintro ⟨q1, q2⟩
        by_cases hl : x ≤ last
        · exact .inl ⟨q1, hl⟩
        · have := h3 x q1 (by omega)
          exact .inr (by simp; omega)
theorem rowAt_end {ws row : List Int} {last : Int} (h : RowAt ws row last) (ha : okAcc last 0 ws) (hp : ∀ x ∈ ws, 1 ≤ x) : row = uniqS ws := by
  refine uniq_of h.up fun x => ?_
  rw [h.mem]
  refine ⟨fun h => h.1, fun hx => ⟨hx, ?_⟩⟩
  rcases ha with ⟨_, h1⟩ | ⟨h1, _, _⟩
  · exact h1 x hx
  · have := hp 0 h1; omega
def above (ws : List Int) (last : Int) : Nat := (ws.filter fun x => decide (last < x)).length
theorem above_less {ws : List Int} {last a : Int} (h1 : a ∈ ws) (h2 : last < a) : above ws a < above ws last := by
  unfold above
  induction ws with
  | nil => cases h1
  | cons x r ih =>
    have hle : ∀ r : List Int, (r.filter fun x => decide (a < x)).length ≤ (r.filter fun x => decide (last < x)).length := by
      intro r
      induction r with
      | nil => simp
      | cons y s ih => simp only [List.filter_cons, decide_eq_true_eq]; split <;> split <;> (try simp only [List.length_cons]) <;> omega
    rcases List.mem_cons.1 h1 with rfl | h
    · have := hle r
      simp only [List.filter_cons, decide_eq_true_eq]
      rw [if_neg (by omega), if_pos h2]
      simp; omega
    · have := ih h
      simp only [List.filter_cons, decide_eq_true_eq]
      split <;> split <;> (try simp only [List.length_cons]) <;> omega
theorem wf_pos {l1 l2 : List LK} (hg : lockGood l1 l2) {i : Nat} {q : LK} : ∀ x ∈ wfM l1 l2 i q, 1 ≤ x := by
  have h1 : ∀ y ∈ l1, 1 ≤ y.t := fun y hy => (Go.Proofs.YteebiklebedneaaDoor.shape_mode (hg.2.1 y hy)).2.1
  have h2 : ∀ y ∈ l2, 1 ≤ y.t := fun y hy => by
    obtain ⟨k, hk⟩ := List.mem_iff_getElem?.1 hy
    exact (Go.Proofs.YteebiklebedneaaDoor.shape_mode (hg.2.2.2 k y hk).1).2.1
  intro x hx
  unfold wfM at hx
  rcases List.mem_append.1 hx with hx | hx
  · obtain ⟨y, hy, rfl⟩ := List.mem_map.1 hx
    exact h1 y (List.mem_filter.1 hy).1
  · split at hx
    · obtain ⟨y, hy, rfl⟩ := List.mem_map.1 hx
      exact h2 y (List.mem_of_mem_take (List.mem_filter.1 hy).1)
    · cases hx
set_option maxRecDepth 100000 in
set_option maxHeartbeats 16000000 in
theorem WaitsOf_good (G : List (Nat × List Value)) (t1 t2 : Bool) (l1 l2 : List LK) (o1 : okKs l1) (o2 : okKs l2) (hg : lockGood l1 l2) :
    Con Go.Proofs.Tryd.prog G 25 [.agg [.ro t1 3 (l1.map eK), .ro t2 3 (l2.map eK)]] [] 0 (Is (.tup [.ro true 1 ((rowsM l1 l2 l2.length).map eIs), .r (.int .i64 0)]) [] 0) No := by
  have cc := locksFault_con G t1 t2 l1 l2 o1 o2
  rw [Go.Proofs.YteebiklebedneaaDoor.chk_yes hg] at cc
  refine con_of_awp Go.Proofs.Tryd.func25 rfl (by kernel_rfl) (of_decide_eq_true (by kernel_rfl)) ?_; intro E hG hE; subst hG; simp only [ent]
  (repeat' (first | refine awp_seq ?_ | refine awp_block ?_ | refine awp_skip ?_ | refine awp_exit ?_ | ((first | refine rR (fun K kp hK hkp => ?_) | refine cR cc ?_ | refine iG ?_); simp (implicitDefEqProofs := false) (maxSteps := 2000000) (disch := omega) only [go_sem, eK]; (repeat' (first | (refine hK _ ?_; clear hK hkp kp K) | (with_reducible refine And.intro ?_ ?_) | omega))) | ((first | refine aG (fun h => ?_) (fun h => ?_) | refine aD (fun h => ?_) (fun h => ?_) | refine aX (fun h => ?_) (fun h => ?_)) <;> simp only [h]) | refine awp_cond_t rfl ?_ | refine awp_cond_f rfl ?_ | ((refine awp_cond rfl (fun h => ?_) (fun h => ?_) <;> try simp only [ifs] at h) <;> (try (exfalso; omega))) | refine awp_ret ?_))
  (refine AWP.emb (emb_nil 5 43 1 ?_) ?_; (· rfl); dsimp only)
  refine awp_loop (fun k : Nat => ⟨[(6, .r (.int .i64 k)), (5, .s 1 0 k), (1, .p 0 0 0)], [(0, .box 41 [.ro t1 3 (l1.map eK), .ro t2 3 (l2.map eK)]), (1, .lst 43 1 ((rowsM l1 l2 k).map eIs))], 2⟩) (fun k => k ≤ l2.length) (fun k => l2.length - k) 0 ?_ ?_ ?_
  · simp
  · (refine emb [0, 1] ?_ ?_ rfl ?_ ?_ ?_ ?_ <;> simp [okM, okO, lk, ren, renL, renNd, by_, hE, rowsM] <;> (try omega))
  intro k hk
  have hR := rowsM_len l1 l2 k
  have htk : ((rowsM l1 l2 k).map eIs).take k = (rowsM l1 l2 k).map eIs := List.take_of_length_le (by simp [hR])
  by_cases hlt : k < l2.length
  · obtain ⟨q, hx⟩ : ∃ x, l2[k]? = some x := ⟨l2[k], by simp [hlt]⟩
    have hS := rowsM_succ l1 l2 k
    rw [rowM_at hx] at hS
    have wc := waitsFor_con E.G t1 t2 l1 l2 o1.1 o2.1 k q hx
    have hw := wfM_len l1 l2 k q
    have hw1 := o1.1
    have hw2 := o2.1
    have hp := wf_pos hg (i := k) (q := q)
    obtain ⟨ws, hws⟩ : ∃ ws, wfM l1 l2 k q = ws := ⟨_, rfl⟩
    rw [hws] at wc hw hS hp
    (repeat' (first | refine awp_seq ?_ | refine awp_block ?_ | refine awp_skip ?_ | refine awp_exit ?_ | ((first | refine rR (fun K kp hK hkp => ?_) | refine cR wc ?_ | refine iG ?_); simp (implicitDefEqProofs := false) (maxSteps := 2000000) (disch := omega) only [go_sem, eK]; (repeat' (first | (refine hK _ ?_; clear hK hkp kp K) | (with_reducible refine And.intro ?_ ?_) | omega))) | ((first | refine aG (fun h => ?_) (fun h => ?_) | refine aD (fun h => ?_) (fun h => ?_) | refine aX (fun h => ?_) (fun h => ?_)) <;> simp only [h]) | refine awp_cond_t rfl ?_ | refine awp_cond_f rfl ?_ | ((refine awp_cond rfl (fun h => ?_) (fun h => ?_) <;> try simp only [ifs] at h) <;> (try (exfalso; omega))) | refine awp_ret ?_))
    (refine AWP.emb (emb_nil 8 3 1 ?_) ?_; (· rfl); dsimp only)
    refine awp_loop (fun d : List Int × Int => ⟨[(9, .r (.int .i64 d.2)), (8, .s 3 0 d.1.length), (7, .s 2 0 ws.length), (6, .r (.int .i64 k)), (5, .s 1 0 k), (1, .p 0 0 0)], [(0, .box 41 [.ro t1 3 (l1.map eK), .ro t2 3 (l2.map eK)]), (1, .lst 43 1 ((rowsM l1 l2 k).map eIs)), (2, .lst 3 1 (ws.map eI)), (3, .lst 3 1 (d.1.map eI))], 4⟩) (fun d => RowAt ws d.1 d.2 ∧ d.1.length + above ws d.2 ≤ ws.length) (fun d => above ws d.2) ([], 0) ?_ ?_ ?_
    · exact ⟨rowAt_nil hp, by simp only [List.length_nil, Nat.zero_add, above]; exact List.length_filter_le _ _⟩
    · (refine emb [0, 1, 2, 3] ?_ ?_ rfl ?_ ?_ ?_ ?_ <;> simp [okM, okO, lk, ren, renL, renNd, by_, hE] <;> (try omega))
    rintro ⟨row, last⟩ ⟨hrow, hlen⟩
    simp only at hrow hlen ⊢
    (repeat' (first | refine awp_seq ?_ | refine awp_block ?_ | refine awp_skip ?_ | refine awp_exit ?_ | ((first | refine rR (fun K kp hK hkp => ?_) | refine iG ?_); simp (implicitDefEqProofs := false) (maxSteps := 2000000) (disch := omega) only [go_sem]; (repeat' (first | (refine hK _ ?_; clear hK hkp kp K) | (with_reducible refine And.intro ?_ ?_) | omega))) | ((first | refine aG (fun h => ?_) (fun h => ?_) | refine aD (fun h => ?_) (fun h => ?_) | refine aX (fun h => ?_) (fun h => ?_)) <;> simp only [h]) | refine awp_cond_t rfl ?_ | refine awp_cond_f rfl ?_ | ((refine awp_cond rfl (fun h => ?_) (fun h => ?_) <;> try simp only [ifs] at h) <;> (try (exfalso; omega))) | refine awp_ret ?_))
    refine awp_loop (fun d : Nat × Int => ⟨[(11, .r (.int .i64 d.1)), (10, .r (.int .i64 d.2)), (9, .r (.int .i64 last)), (8, .s 3 0 row.length), (7, .s 2 0 ws.length), (6, .r (.int .i64 k)), (5, .s 1 0 k), (1, .p 0 0 0)], [(0, .box 41 [.ro t1 3 (l1.map eK), .ro t2 3 (l2.map eK)]), (1, .lst 43 1 ((rowsM l1 l2 k).map eIs)), (2, .lst 3 1 (ws.map eI)), (3, .lst 3 1 (row.map eI))], 4⟩) (fun d => d.1 ≤ ws.length ∧ okAcc last d.2 (ws.take d.1)) (fun d => ws.length - d.1) (0, 0) ?_ ?_ ?_
    · exact ⟨Nat.zero_le _, .inl ⟨rfl, by simp⟩⟩
    · (refine emb [0, 1, 2, 3] ?_ ?_ rfl ?_ ?_ ?_ ?_ <;> simp [okM, okO, lk, ren, renL, renNd, by_, hE] <;> (try omega))
    rintro ⟨i, acc⟩ ⟨hi, hacc⟩
    simp only at hi hacc ⊢
    by_cases hil : i < ws.length
    · obtain ⟨x, hxi⟩ : ∃ x, ws[i]? = some x := ⟨ws[i], by simp [hil]⟩
      have hok := okAcc_step (x := x) hrow.lo hacc
      rw [show ws.take i ++ [x] = ws.take (i + 1) by rw [List.take_add_one, hxi]; rfl] at hok
      have d5 : ((i : Int) < (ws.length : Int)) = True := eq_true (by omega)
      cases e1 : decide (x > last)
      · have hst : stepL last acc x = acc := by rw [stepL, if_neg (fun n => by simp at e1; omega)]
        (repeat' (first | refine awp_seq ?_ | refine awp_block ?_ | refine awp_skip ?_ | refine awp_exit ?_ | ((first | refine rR (fun K kp hK hkp => ?_) | refine iG ?_); simp (implicitDefEqProofs := false) (maxSteps := 2000000) (disch := omega) only [go_sem, hxi, eI, d5, e1]; (repeat' (first | (refine hK _ ?_; clear hK hkp kp K) | (with_reducible refine And.intro ?_ ?_) | omega))) | ((first | refine aG (fun h => ?_) (fun h => ?_) | refine aD (fun h => ?_) (fun h => ?_) | refine aX (fun h => ?_) (fun h => ?_)) <;> simp only [h]) | refine awp_cond_t rfl ?_ | refine awp_cond_f rfl ?_ | ((refine awp_cond rfl (fun h => ?_) (fun h => ?_) <;> try simp only [ifs] at h) <;> (try (exfalso; omega))) | refine awp_ret ?_))
        ((first | (refine nextB ((i + 1, acc)) ?_ ?_ ?_) | (refine nextA ((i + 1, acc)) ?_ ?_ ?_)); rotate_left; (· (try dsimp only); (first | omega | (simp only [List.length_drop, List.length_cons, List.length_append]; omega) | (simp; done) | (simp; omega))); (· (refine emb [0, 1, 2, 3] ?_ ?_ rfl ?_ ?_ ?_ ?_ <;> simp [okM, okO, lk, ren, renL, renNd, by_, hE] <;> (try omega))))
        exact ⟨by omega, hst ▸ hok⟩
      have f1 : x > last := by simpa using e1
      cases e2 : (acc == 0)
      · cases e3 : decide (x < acc)
        · have hst : stepL last acc x = acc := by
            rw [stepL, if_neg]; rintro ⟨_, h | h⟩
            · simp [h] at e2
            · simp at e3; omega
          (repeat' (first | refine awp_seq ?_ | refine awp_block ?_ | refine awp_skip ?_ | refine awp_exit ?_ | ((first | refine rR (fun K kp hK hkp => ?_) | refine iG ?_); simp (implicitDefEqProofs := false) (maxSteps := 2000000) (disch := omega) only [go_sem, hxi, eI, d5, e1, e2, e3]; (repeat' (first | (refine hK _ ?_; clear hK hkp kp K) | (with_reducible refine And.intro ?_ ?_) | omega))) | ((first | refine aG (fun h => ?_) (fun h => ?_) | refine aD (fun h => ?_) (fun h => ?_) | refine aX (fun h => ?_) (fun h => ?_)) <;> simp only [h]) | refine awp_cond_t rfl ?_ | refine awp_cond_f rfl ?_ | ((refine awp_cond rfl (fun h => ?_) (fun h => ?_) <;> try simp only [ifs] at h) <;> (try (exfalso; omega))) | refine awp_ret ?_))
          ((first | (refine nextB ((i + 1, acc)) ?_ ?_ ?_) | (refine nextA ((i + 1, acc)) ?_ ?_ ?_)); rotate_left; (· (try dsimp only); (first | omega | (simp only [List.length_drop, List.length_cons, List.length_append]; omega) | (simp; done) | (simp; omega))); (· (refine emb [0, 1, 2, 3] ?_ ?_ rfl ?_ ?_ ?_ ?_ <;> simp [okM, okO, lk, ren, renL, renNd, by_, hE] <;> (try omega))))
          exact ⟨by omega, hst ▸ hok⟩
        · have hst : stepL last acc x = x := by rw [stepL, if_pos ⟨f1, .inr (by simpa using e3)⟩]
          (repeat' (first | refine awp_seq ?_ | refine awp_block ?_ | refine awp_skip ?_ | refine awp_exit ?_ | ((first | refine rR (fun K kp hK hkp => ?_) | refine iG ?_); simp (implicitDefEqProofs := false) (maxSteps := 2000000) (disch := omega) only [go_sem, hxi, eI, d5, e1, e2, e3]; (repeat' (first | (refine hK _ ?_; clear hK hkp kp K) | (with_reducible refine And.intro ?_ ?_) | omega))) | ((first | refine aG (fun h => ?_) (fun h => ?_) | refine aD (fun h => ?_) (fun h => ?_) | refine aX (fun h => ?_) (fun h => ?_)) <;> simp only [h]) | refine awp_cond_t rfl ?_ | refine awp_cond_f rfl ?_ | ((refine awp_cond rfl (fun h => ?_) (fun h => ?_) <;> try simp only [ifs] at h) <;> (try (exfalso; omega))) | refine awp_ret ?_))
          ((first | (refine nextB ((i + 1, x)) ?_ ?_ ?_) | (refine nextA ((i + 1, x)) ?_ ?_ ?_)); rotate_left; (· (try dsimp only); (first | omega | (simp only [List.length_drop, List.length_cons, List.length_append]; omega) | (simp; done) | (simp; omega))); (· (refine emb [0, 1, 2, 3] ?_ ?_ rfl ?_ ?_ ?_ ?_ <;> simp [okM, okO, lk, ren, renL, renNd, by_, hE] <;> (try omega))))
          exact ⟨by omega, hst ▸ hok⟩
      · have hst : stepL last acc x = x := by rw [stepL, if_pos ⟨f1, .inl (by simpa using e2)⟩]
        (repeat' (first | refine awp_seq ?_ | refine awp_block ?_ | refine awp_skip ?_ | refine awp_exit ?_ | ((first | refine rR (fun K kp hK hkp => ?_) | refine iG ?_); simp (implicitDefEqProofs := false) (maxSteps := 2000000) (disch := omega) only [go_sem, hxi, eI, d5, e1, e2]; (repeat' (first | (refine hK _ ?_; clear hK hkp kp K) | (with_reducible refine And.intro ?_ ?_) | omega))) | ((first | refine aG (fun h => ?_) (fun h => ?_) | refine aD (fun h => ?_) (fun h => ?_) | refine aX (fun h => ?_) (fun h => ?_)) <;> simp only [h]) | refine awp_cond_t rfl ?_ | refine awp_cond_f rfl ?_ | ((refine awp_cond rfl (fun h => ?_) (fun h => ?_) <;> try simp only [ifs] at h) <;> (try (exfalso; omega))) | refine awp_ret ?_))
        ((first | (refine nextB ((i + 1, x)) ?_ ?_ ?_) | (refine nextA ((i + 1, x)) ?_ ?_ ?_)); rotate_left; (· (try dsimp only); (first | omega | (simp only [List.length_drop, List.length_cons, List.length_append]; omega) | (simp; done) | (simp; omega))); (· (refine emb [0, 1, 2, 3] ?_ ?_ rfl ?_ ?_ ?_ ?_ <;> simp [okM, okO, lk, ren, renL, renNd, by_, hE] <;> (try omega))))
        exact ⟨by omega, hst ▸ hok⟩
    · rw [List.take_of_length_le (by omega)] at hacc
      cases e4 : (acc == 0)
      · have hne : acc ≠ 0 := by simpa using e4
        have hmore := rowAt_more hrow hacc hne
        have hless : above ws acc < above ws last := by
          rcases hacc with ⟨h, _⟩ | ⟨h1, h2, _⟩
          · exact absurd h hne
          · exact above_less h1 h2
        (repeat' (first | refine awp_seq ?_ | refine awp_block ?_ | refine awp_skip ?_ | refine awp_exit ?_ | ((first | refine rR (fun K kp hK hkp => ?_) | refine iG ?_); simp (implicitDefEqProofs := false) (maxSteps := 2000000) (disch := omega) only [go_sem, e4]; (repeat' (first | (refine hK _ ?_; clear hK hkp kp K) | (with_reducible refine And.intro ?_ ?_) | omega))) | ((first | refine aG (fun h => ?_) (fun h => ?_) | refine aD (fun h => ?_) (fun h => ?_) | refine aX (fun h => ?_) (fun h => ?_)) <;> simp only [h]) | refine awp_cond_t rfl ?_ | refine awp_cond_f rfl ?_ | ((refine awp_cond rfl (fun h => ?_) (fun h => ?_) <;> try simp only [ifs] at h) <;> (try (exfalso; omega))) | refine awp_ret ?_))
        ((first | (refine nextB ((row ++ [acc], acc)) ?_ ?_ ?_) | (refine nextA ((row ++ [acc], acc)) ?_ ?_ ?_)); rotate_left; (· (try dsimp only); (first | omega | (simp only [List.length_drop, List.length_cons, List.length_append]; omega) | (simp; done) | (simp; omega))); (· (refine emb [0, 1, 2, 5] ?_ ?_ rfl ?_ ?_ ?_ ?_ <;> simp [okM, okO, lk, ren, renL, renNd, by_, hE, eI] <;> (try omega))))
        exact ⟨hmore, by simp only [List.length_append, List.length_singleton]; omega⟩
      · obtain rfl : acc = 0 := by simpa using e4
        have hend := rowAt_end hrow hacc hp
        (repeat' (first | refine awp_seq ?_ | refine awp_block ?_ | refine awp_skip ?_ | refine awp_exit ?_ | ((first | refine rR (fun K kp hK hkp => ?_) | refine iG ?_); simp (implicitDefEqProofs := false) (maxSteps := 2000000) (disch := omega) only [go_sem, e4, eI]; (repeat' (first | (refine hK _ ?_; clear hK hkp kp K) | (with_reducible refine And.intro ?_ ?_) | omega))) | ((first | refine aG (fun h => ?_) (fun h => ?_) | refine aD (fun h => ?_) (fun h => ?_) | refine aX (fun h => ?_) (fun h => ?_)) <;> simp only [h]) | refine awp_cond_t rfl ?_ | refine awp_cond_f rfl ?_ | ((refine awp_cond rfl (fun h => ?_) (fun h => ?_) <;> try simp only [ifs] at h) <;> (try (exfalso; omega))) | refine awp_ret ?_))
        rw [hend]
        ((first | (refine nextB (k + 1) ?_ ?_ ?_) | (refine nextA (k + 1) ?_ ?_ ?_)); rotate_left; (· (try dsimp only); (first | omega | (simp only [List.length_drop, List.length_cons, List.length_append]; omega) | (simp; done) | (simp; omega))); (· (refine emb [0, 5] ?_ ?_ rfl ?_ ?_ ?_ ?_ <;> simp [okM, okO, lk, ren, renL, renNd, by_, hE, hS, htk, eIs] <;> (try omega))))
        omega
  · obtain rfl : k = l2.length := by omega
    (repeat' (first | refine awp_seq ?_ | refine awp_block ?_ | refine awp_skip ?_ | refine awp_exit ?_ | ((first | refine rR (fun K kp hK hkp => ?_) | refine iG ?_); simp (implicitDefEqProofs := false) (maxSteps := 2000000) (disch := omega) only [go_sem]; (repeat' (first | (refine hK _ ?_; clear hK hkp kp K) | (with_reducible refine And.intro ?_ ?_) | omega))) | ((first | refine aG (fun h => ?_) (fun h => ?_) | refine aD (fun h => ?_) (fun h => ?_) | refine aX (fun h => ?_) (fun h => ?_)) <;> simp only [h]) | refine awp_cond_t rfl ?_ | refine awp_cond_f rfl ?_ | ((refine awp_cond rfl (fun h => ?_) (fun h => ?_) <;> try simp only [ifs] at h) <;> (try (exfalso; omega))) | refine awp_ret ?_))
    (refine retA_is (by (simp (implicitDefEqProofs := false) (maxSteps := 2000000) (disch := omega) only [go_sem, Go.Proofs.Tryd.results25, htk]); rfl) ?_; refine embS_frz (by simp only [oneA]; simp (implicitDefEqProofs := false) (maxSteps := 2000000) (disch := omega) only [go_sem, htk]; rfl) ?_; refine (embV_nil hE (by simp) ?_).s; simp [oneA, ren, renL, htk])
end Go.AM
/- The abstract machine, 26: the same thing under another description: a nil slice in a box as an own list. -/
namespace Go.AM
open Go
section
variable {P : Program} {E : Env} {N : Nat} {st : AS} {th : List NLoc} {z : Zone} {a : Act} {w : World}
/-- An own thing under another description. -/
theorem Mem.say {o : List (Nat × Nd)} {n : Nat} (h : Mem E o n th z w) {i : Nat} {nd nd' : Nd} (hi : lk o i = some nd) (hn : ∀ L, th[i]? = some L → NdAt w z th L nd → NdAt w z th L nd') : Mem E ((i, nd') :: o) n th z w := by
  have key : ∀ j x, lk ((i, nd') :: o) j = some x → ∃ y, lk o j = some y := by
    intro j x hj
    simp only [lk] at hj
    split at hj
    · rename_i e; subst e; exact ⟨_, hi⟩
    · exact ⟨_, hj⟩
  refine ⟨h.len, fun j x hj => ?_, fun j k x y L M hj hk => ?_, h.zlt, h.grow, h.frame, h.zin, h.zout, h.zb, h.globs, h.pre, h.sys⟩
  · simp only [lk] at hj
    split at hj
    · rename_i e; subst e; cases hj
      obtain ⟨L, h1, h2, h3⟩ := h.nds i nd hi
      exact ⟨L, h1, hn L h1 h2, h3⟩
    · exact h.nds j x hj
  · obtain ⟨x', hj'⟩ := key j x hj
    obtain ⟨y', hk'⟩ := key k y hk
    exact h.inj j k x' y' L M hj' hk'
theorem Sim.say (h : Sim E N st th z a w) {i : Nat} {nd nd' : Nd} (hi : lk st.o i = some nd) (hn : ∀ L, th[i]? = some L → NdAt w z th L nd → NdAt w z th L nd') : Sim E N (setNd st i nd') th z a w :=
  ⟨h.mem.say hi hn, h.size, h.dfs, h.slots⟩
theorem Reps.set_at {c : List AV} {ys : List Value} (h : Reps w z th c ys) {j : Nat} {x : AV} (hx : ∀ y, ys[j]? = some y → Rep w z th x y) : Reps w z th (c.set j x) ys := by
  refine ⟨by simp [h.1], fun i u y h1 h2 => ?_⟩
  rw [List.getElem?_set] at h1
  split at h1
  · rename_i e; subst e
    split at h1
    · cases h1; exact hx y h2
    · cases h1
  · exact h.2 i u y h1 h2
/-- A nil slice in a box as an own list without elements. -/
theorem emb_nilB (n j : Nat) (T : TypeId) (k : Nat) {T' : TypeId} {c : List AV} (h : lk st.o n = some (.box T' c)) (hj : c[j]? = some (.r (.slice none 0 0))) (hne : n < st.n) :
    Emb E N st { m := st.m, o := (n, .box T' (c.set j (.s st.n 0 0))) :: (st.n, .lst T k []) :: st.o, n := st.n + 1 } := by
  intro th z a w hs
  have hk := hs.know ⟨0, 0, 0, 0, true⟩ (.lst T k []) (fun hp => by cases hp) (fun _ _ _ _ _ _ hp => by cases hp) (.inl ⟨rfl, rfl⟩)
  have hl : lk (putNd st (.lst T k [])).o n = some (.box T' c) := by simp only [putNd, lk]; rw [if_neg (by omega)]; exact h
  refine ⟨_, z, hk.say hl (fun L hL hn => ?_)⟩
  obtain ⟨hp, cells, fr, h1, h2, h3, h4⟩ := hn
  refine ⟨hp, cells, fr, h1, h2, h3, h4.set_at fun y hy => ?_⟩
  obtain ⟨y', hy', hr⟩ := h4.get hj
  rw [hy] at hy'; cases hy'
  rw [show y = .slice none 0 0 from hr.r_inv]
  exact .sn _ _ 0 _ (hs.get_new _) rfl
end
end Go.AM
/- Locks copied. -/
namespace Go.AM
open Go Go.RowKit
open Go.Proofs.YteebiklebedneaaDoor (LK)
attribute [local irreducible] AWP retA
def nilV : AV := .r (.slice none 0 0)
set_option maxRecDepth 100000 in
set_option maxHeartbeats 8000000 in
theorem locksCopy_con (G : List (Nat × List Value)) (t1 t2 : Bool) (l1 l2 : List LK) (n1 : l1.length ≤ 1048576) (n2 : l2.length ≤ 1048576) : Con Go.Proofs.Tryd.prog G 19 [.agg [.ro t1 3 (l1.map eK), .ro t2 3 (l2.map eK)]] [] 0 (Is (.agg [.ro true 3 (l1.map eK), .ro true 3 (l2.map eK)]) [] 0) No := by
  refine con_of_awp Go.Proofs.Tryd.func19 rfl (by kernel_rfl) (of_decide_eq_true (by kernel_rfl)) ?_; intro E hG hE; subst hG; simp only [ent]
  (repeat' (first | refine awp_seq ?_ | refine awp_block ?_ | refine awp_skip ?_ | refine awp_exit ?_ | ((first | refine rR (fun K kp hK hkp => ?_) | refine rD (id := 5) mixed 8 [0,1,2,3,4,5,6,7] (fun K kp hK hkp => ?_) | refine rD (id := 9) mixed 8 [0,1,2,3,4,5,6,7] (fun K kp hK hkp => ?_) | refine iG ?_ | refine iD ?_); simp (implicitDefEqProofs := false) (maxSteps := 2000000) (disch := omega) only [go_sem, eK]; (repeat' (first | (refine hK _ ?_; clear hK hkp kp K) | (with_reducible refine And.intro ?_ ?_) | omega))) | ((first | refine aG (fun h => ?_) (fun h => ?_) | refine aD (fun h => ?_) (fun h => ?_) | refine aX (fun h => ?_) (fun h => ?_)) <;> simp only [h]) | refine awp_cond_t rfl ?_ | refine awp_cond_f rfl ?_ | ((refine awp_cond rfl (fun h => ?_) (fun h => ?_) <;> try simp only [ifs] at h) <;> (try (exfalso; omega))) | refine awp_ret ?_))
  (refine AWP.emb (emb_nilB 2 0 82 3 rfl rfl (by simp)) ?_; simp only [List.set_cons_zero, List.set_cons_succ, lk, ↓reduceIte, Nat.reduceAdd])
  refine awp_loop (fun k : Nat => ⟨[(4, .r (.int .i64 k)), (3, .p 2 0 0), (2, .p 1 0 0), (1, .p 0 0 0)], [(0, .box 41 [.ro t1 3 (l1.map eK), .ro t2 3 (l2.map eK)]), (1, .box 41 [.r (.slice none 0 0), .r (.slice none 0 0)]), (2, .box 41 [.s 3 0 k, .r (.slice none 0 0)]), (3, .lst 82 3 ((l1.take k).map eK))], 4⟩) (fun k => k ≤ l1.length) (fun k => l1.length - k) 0 ?_ ?_ ?_
  · simp
  · (refine emb [0, 1, 2, 3] ?_ ?_ rfl ?_ ?_ ?_ ?_ <;> simp [okM, okO, lk, ren, renL, renNd, by_, hE] <;> (try omega))
  intro k hk
  by_cases hlt : k < l1.length
  · obtain ⟨y, hx⟩ : ∃ x, l1[k]? = some x := ⟨l1[k], by simp [hlt]⟩
    have ht : l1.take (k + 1) = l1.take k ++ [y] := by rw [List.take_add_one, hx]; rfl
    have hl : (l1.take k).length = k := by rw [List.length_take]; omega
    have htk : List.take k (List.take k (l1.map eK)) = List.take k (l1.map eK) := by rw [List.take_take, Nat.min_self]
    (repeat' (first | refine awp_seq ?_ | refine awp_block ?_ | refine awp_skip ?_ | refine awp_exit ?_ | ((first | refine rR (fun K kp hK hkp => ?_) | refine rD (id := 5) mixed 8 [0,1,2,3,4,5,6,7] (fun K kp hK hkp => ?_) | refine rD (id := 9) mixed 8 [0,1,2,3,4,5,6,7] (fun K kp hK hkp => ?_) | refine iG ?_ | refine iD ?_); simp (implicitDefEqProofs := false) (maxSteps := 2000000) (disch := omega) only [go_sem, hx, eK]; (repeat' (first | (refine hK _ ?_; clear hK hkp kp K) | (with_reducible refine And.intro ?_ ?_) | omega))) | ((first | refine aG (fun h => ?_) (fun h => ?_) | refine aD (fun h => ?_) (fun h => ?_) | refine aX (fun h => ?_) (fun h => ?_)) <;> simp only [h]) | refine awp_cond_t rfl ?_ | refine awp_cond_f rfl ?_ | ((refine awp_cond rfl (fun h => ?_) (fun h => ?_) <;> try simp only [ifs] at h) <;> (try (exfalso; omega))) | refine awp_ret ?_))
    ((first | (refine nextB (k + 1) ?_ ?_ ?_) | (refine nextA (k + 1) ?_ ?_ ?_)); rotate_left; (· (try dsimp only); (first | omega | (simp only [List.length_drop, List.length_cons, List.length_append]; omega) | (simp; done) | (simp; omega))); (· (refine emb [0, 1, 2, 5] ?_ ?_ rfl ?_ ?_ ?_ ?_ <;> simp [okM, okO, lk, ren, renL, renNd, by_, hE, ht, htk, eK] <;> (try omega))))
    omega
  · obtain rfl : k = l1.length := by omega
    rw [List.take_length]
    (repeat' (first | refine awp_seq ?_ | refine awp_block ?_ | refine awp_skip ?_ | refine awp_exit ?_ | ((first | refine rR (fun K kp hK hkp => ?_) | refine rD (id := 5) mixed 8 [0,1,2,3,4,5,6,7] (fun K kp hK hkp => ?_) | refine rD (id := 9) mixed 8 [0,1,2,3,4,5,6,7] (fun K kp hK hkp => ?_) | refine iG ?_ | refine iD ?_); simp (implicitDefEqProofs := false) (maxSteps := 2000000) (disch := omega) only [go_sem]; (repeat' (first | (refine hK _ ?_; clear hK hkp kp K) | (with_reducible refine And.intro ?_ ?_) | omega))) | ((first | refine aG (fun h => ?_) (fun h => ?_) | refine aD (fun h => ?_) (fun h => ?_) | refine aX (fun h => ?_) (fun h => ?_)) <;> simp only [h]) | refine awp_cond_t rfl ?_ | refine awp_cond_f rfl ?_ | ((refine awp_cond rfl (fun h => ?_) (fun h => ?_) <;> try simp only [ifs] at h) <;> (try (exfalso; omega))) | refine awp_ret ?_))
    (refine AWP.emb (emb_nilB 2 1 82 3 rfl rfl (by simp)) ?_; simp only [List.set_cons_zero, List.set_cons_succ, lk, ↓reduceIte, Nat.reduceAdd])
    refine awp_loop (fun k : Nat => ⟨[(5, .r (.int .i64 k)), (3, .p 2 0 0), (2, .p 1 0 0), (1, .p 0 0 0)], [(0, .box 41 [.ro t1 3 (l1.map eK), .ro t2 3 (l2.map eK)]), (1, .box 41 [.r (.slice none 0 0), .r (.slice none 0 0)]), (2, .box 41 [.s 3 0 l1.length, .s 4 0 k]), (3, .lst 82 3 (l1.map eK)), (4, .lst 82 3 ((l2.take k).map eK))], 5⟩) (fun k => k ≤ l2.length) (fun k => l2.length - k) 0 ?_ ?_ ?_
    · simp
    · (refine emb [0, 1, 2, 3, 4] ?_ ?_ rfl ?_ ?_ ?_ ?_ <;> simp [okM, okO, lk, ren, renL, renNd, by_, hE] <;> (try omega))
    intro k hk
    by_cases hlt : k < l2.length
    · obtain ⟨y, hx⟩ : ∃ x, l2[k]? = some x := ⟨l2[k], by simp [hlt]⟩
      have ht : l2.take (k + 1) = l2.take k ++ [y] := by rw [List.take_add_one, hx]; rfl
      have hl : (l2.take k).length = k := by rw [List.length_take]; omega
      have htk : List.take k (List.take k (l2.map eK)) = List.take k (l2.map eK) := by rw [List.take_take, Nat.min_self]
      (repeat' (first | refine awp_seq ?_ | refine awp_block ?_ | refine awp_skip ?_ | refine awp_exit ?_ | ((first | refine rR (fun K kp hK hkp => ?_) | refine rD (id := 5) mixed 8 [0,1,2,3,4,5,6,7] (fun K kp hK hkp => ?_) | refine rD (id := 9) mixed 8 [0,1,2,3,4,5,6,7] (fun K kp hK hkp => ?_) | refine iG ?_ | refine iD ?_); simp (implicitDefEqProofs := false) (maxSteps := 2000000) (disch := omega) only [go_sem, hx, eK]; (repeat' (first | (refine hK _ ?_; clear hK hkp kp K) | (with_reducible refine And.intro ?_ ?_) | omega))) | ((first | refine aG (fun h => ?_) (fun h => ?_) | refine aD (fun h => ?_) (fun h => ?_) | refine aX (fun h => ?_) (fun h => ?_)) <;> simp only [h]) | refine awp_cond_t rfl ?_ | refine awp_cond_f rfl ?_ | ((refine awp_cond rfl (fun h => ?_) (fun h => ?_) <;> try simp only [ifs] at h) <;> (try (exfalso; omega))) | refine awp_ret ?_))
      ((first | (refine nextB (k + 1) ?_ ?_ ?_) | (refine nextA (k + 1) ?_ ?_ ?_)); rotate_left; (· (try dsimp only); (first | omega | (simp only [List.length_drop, List.length_cons, List.length_append]; omega) | (simp; done) | (simp; omega))); (· (refine emb [0, 1, 2, 3, 6] ?_ ?_ rfl ?_ ?_ ?_ ?_ <;> simp [okM, okO, lk, ren, renL, renNd, by_, hE, ht, htk, eK] <;> (try omega))))
      omega
    · obtain rfl : k = l2.length := by omega
      rw [List.take_length]
      (repeat' (first | refine awp_seq ?_ | refine awp_block ?_ | refine awp_skip ?_ | refine awp_exit ?_ | ((first | refine rR (fun K kp hK hkp => ?_) | refine rD (id := 5) mixed 8 [0,1,2,3,4,5,6,7] (fun K kp hK hkp => ?_) | refine rD (id := 9) mixed 8 [0,1,2,3,4,5,6,7] (fun K kp hK hkp => ?_) | refine iG ?_ | refine iD ?_); simp (implicitDefEqProofs := false) (maxSteps := 2000000) (disch := omega) only [go_sem]; (repeat' (first | (refine hK _ ?_; clear hK hkp kp K) | (with_reducible refine And.intro ?_ ?_) | omega))) | ((first | refine aG (fun h => ?_) (fun h => ?_) | refine aD (fun h => ?_) (fun h => ?_) | refine aX (fun h => ?_) (fun h => ?_)) <;> simp only [h]) | refine awp_cond_t rfl ?_ | refine awp_cond_f rfl ?_ | ((refine awp_cond rfl (fun h => ?_) (fun h => ?_) <;> try simp only [ifs] at h) <;> (try (exfalso; omega))) | refine awp_ret ?_))
      (refine retA_is (by (simp (implicitDefEqProofs := false) (maxSteps := 2000000) (disch := omega) only [go_sem, Go.Proofs.Tryd.results19]); rfl) ?_; refine embS_frz (by simp only [oneA]; simp (implicitDefEqProofs := false) (maxSteps := 2000000) (disch := omega) only [go_sem]; rfl) ?_; refine (embV_nil hE (by simp) ?_).s; simp [oneA, ren, renL])
end Go.AM
/- The law LockWaits. -/
namespace Go.AM
open Go Go.RowKit
open Go.Proofs.YteebiklebedneaaDoor (LK lockGood chkM)
attribute [local irreducible] AWP retA
theorem Waits_bad {G : List (Nat × List Value)} (T : TabsL G) (t1 t2 : Bool) (l1 l2 : List LK) (o1 : okKs l1) (o2 : okKs l2) (hg : ¬ lockGood l1 l2) :
    Con Go.Proofs.Tryd.prog G 24 [.agg [.ro t1 3 (l1.map eK), .ro t2 3 (l2.map eK)]] [] 0 (Is (.tup [.r (.slice none 0 0), .r (.int .i64 11)]) [] 0) No := by
  have cc := check_con T t1 t2 l1 l2 o1 o2
  rw [Go.Proofs.YteebiklebedneaaDoor.chk_no hg] at cc
  refine con_of_awp Go.Proofs.Tryd.func24 rfl (by kernel_rfl) (of_decide_eq_true (by kernel_rfl)) ?_; intro E hG hE; subst hG; simp only [ent]
  (repeat' (first | refine awp_seq ?_ | refine awp_block ?_ | refine awp_skip ?_ | refine awp_exit ?_ | ((first | refine rR (fun K kp hK hkp => ?_) | refine cR cc ?_ | refine iG ?_); simp (implicitDefEqProofs := false) (maxSteps := 2000000) (disch := omega) only [go_sem, eK]; (repeat' (first | (refine hK _ ?_; clear hK hkp kp K) | (with_reducible refine And.intro ?_ ?_) | omega))) | ((first | refine aG (fun h => ?_) (fun h => ?_) | refine aD (fun h => ?_) (fun h => ?_) | refine aX (fun h => ?_) (fun h => ?_)) <;> simp only [h]) | refine awp_cond_t rfl ?_ | refine awp_cond_f rfl ?_ | ((refine awp_cond rfl (fun h => ?_) (fun h => ?_) <;> try simp only [ifs] at h) <;> (try (exfalso; omega))) | refine awp_ret ?_))
  (refine retA_is (by (simp (implicitDefEqProofs := false) (maxSteps := 2000000) (disch := omega) only [go_sem, Go.Proofs.Tryd.results24]); rfl) ?_; refine eN hE ?_; simp [oneA, ren, renL])
theorem WaitsOf_bad (G : List (Nat × List Value)) (t1 t2 : Bool) (l1 l2 : List LK) (o1 : okKs l1) (o2 : okKs l2) (hg : ¬ lockGood l1 l2) :
    Con Go.Proofs.Tryd.prog G 25 [.agg [.ro t1 3 (l1.map eK), .ro t2 3 (l2.map eK)]] [] 0 (Is (.tup [.r (.slice none 0 0), .r (.int .i64 11)]) [] 0) No := by
  have cc := locksFault_con G t1 t2 l1 l2 o1 o2
  rw [Go.Proofs.YteebiklebedneaaDoor.chk_no hg] at cc
  refine con_of_awp Go.Proofs.Tryd.func25 rfl (by kernel_rfl) (of_decide_eq_true (by kernel_rfl)) ?_; intro E hG hE; subst hG; simp only [ent]
  (repeat' (first | refine awp_seq ?_ | refine awp_block ?_ | refine awp_skip ?_ | refine awp_exit ?_ | ((first | refine rR (fun K kp hK hkp => ?_) | refine cR cc ?_ | refine iG ?_); simp (implicitDefEqProofs := false) (maxSteps := 2000000) (disch := omega) only [go_sem, eK]; (repeat' (first | (refine hK _ ?_; clear hK hkp kp K) | (with_reducible refine And.intro ?_ ?_) | omega))) | ((first | refine aG (fun h => ?_) (fun h => ?_) | refine aD (fun h => ?_) (fun h => ?_) | refine aX (fun h => ?_) (fun h => ?_)) <;> simp only [h]) | refine awp_cond_t rfl ?_ | refine awp_cond_f rfl ?_ | ((refine awp_cond rfl (fun h => ?_) (fun h => ?_) <;> try simp only [ifs] at h) <;> (try (exfalso; omega))) | refine awp_ret ?_))
  (refine retA_is (by (simp (implicitDefEqProofs := false) (maxSteps := 2000000) (disch := omega) only [go_sem, Go.Proofs.Tryd.results25]); rfl) ?_; refine eN hE ?_; simp [oneA, ren, renL])
set_option maxRecDepth 100000 in
set_option maxHeartbeats 4000000 in
theorem lawWaits_con {G : List (Nat × List Value)} (T : TabsL G) (l1 l2 : List LK) (o1 : okKs l1) (o2 : okKs l2) :
    Con Go.Proofs.Tryd.prog G 7 [.agg [.ro true 3 (l1.map eK), .ro true 3 (l2.map eK)]] [] 0 (Is (.r (.bool true)) [] 0) No := by
  have yc := locksCopy_con G true true l1 l2 o1.1 o2.1
  have q1 := o1.1
  have q2 := o2.1
  by_cases hg : lockGood l1 l2
  · have pc := Waits_good T true true l1 l2 o1 o2 hg
    have rc := WaitsOf_good G true true l1 l2 o1 o2 hg
    have sc := sameLs_con G true true (rowsM l1 l2 l2.length) (by rw [rowsM_len]; omega) (fun x hx => by
      obtain ⟨i, _, rfl⟩ := List.mem_map.1 hx
      have := rowM_len l1 l2 i
      have := hg.1
      omega)
    refine con_of_awp Go.Proofs.Tryd.func7 rfl (by kernel_rfl) (of_decide_eq_true (by kernel_rfl)) ?_; intro E hG hE; subst hG; simp only [ent]
    (repeat' (first | refine awp_seq ?_ | refine awp_block ?_ | refine awp_skip ?_ | refine awp_exit ?_ | ((first | refine rR (fun K kp hK hkp => ?_) | refine cR yc ?_ | refine cR pc ?_ | refine cR rc ?_ | refine cR sc ?_ | refine iG ?_); simp (implicitDefEqProofs := false) (maxSteps := 2000000) (disch := omega) only [go_sem, beq_self_eq_true]; (repeat' (first | (refine hK _ ?_; clear hK hkp kp K) | (with_reducible refine And.intro ?_ ?_) | omega))) | ((first | refine aG (fun h => ?_) (fun h => ?_) | refine aD (fun h => ?_) (fun h => ?_) | refine aX (fun h => ?_) (fun h => ?_)) <;> simp only [h]) | refine awp_cond_t rfl ?_ | refine awp_cond_f rfl ?_ | ((refine awp_cond rfl (fun h => ?_) (fun h => ?_) <;> try simp only [ifs] at h) <;> (try (exfalso; omega))) | refine awp_ret ?_))
    (refine retA_is (by (simp (implicitDefEqProofs := false) (maxSteps := 2000000) (disch := omega) only [go_sem, Go.Proofs.Tryd.results7]); rfl) ?_; refine eN hE ?_; simp [oneA, ren, renL])
  · have pc := Waits_bad T true true l1 l2 o1 o2 hg
    have rc := WaitsOf_bad G true true l1 l2 o1 o2 hg
    have sc := (sameLs_con G true true [] (by simp) (by simp)).weak (xs := [.r (.slice none 0 0), .r (.slice none 0 0)]) (by simp [wkL, wk])
    refine con_of_awp Go.Proofs.Tryd.func7 rfl (by kernel_rfl) (of_decide_eq_true (by kernel_rfl)) ?_; intro E hG hE; subst hG; simp only [ent]
    (repeat' (first | refine awp_seq ?_ | refine awp_block ?_ | refine awp_skip ?_ | refine awp_exit ?_ | ((first | refine rR (fun K kp hK hkp => ?_) | refine cR yc ?_ | refine cR pc ?_ | refine cR rc ?_ | refine cR sc ?_ | refine iG ?_); simp (implicitDefEqProofs := false) (maxSteps := 2000000) (disch := omega) only [go_sem, beq_self_eq_true]; (repeat' (first | (refine hK _ ?_; clear hK hkp kp K) | (with_reducible refine And.intro ?_ ?_) | omega))) | ((first | refine aG (fun h => ?_) (fun h => ?_) | refine aD (fun h => ?_) (fun h => ?_) | refine aX (fun h => ?_) (fun h => ?_)) <;> simp only [h]) | refine awp_cond_t rfl ?_ | refine awp_cond_f rfl ?_ | ((refine awp_cond rfl (fun h => ?_) (fun h => ?_) <;> try simp only [ifs] at h) <;> (try (exfalso; omega))) | refine awp_ret ?_))
    (refine retA_is (by (simp (implicitDefEqProofs := false) (maxSteps := 2000000) (disch := omega) only [go_sem, Go.Proofs.Tryd.results7]); rfl) ?_; refine eN hE ?_; simp [oneA, ren, renL])
end Go.AM
/- How arguments and the listed tables read: the lock seat. -/
namespace Go.Proofs.YteebiklebedneaaDoor
open Go.ChangeShapes Go.WideShapes Go.ChangeAt Go.RowKit
theorem own : ownKnob Tryd.prog.godebug = none := by kernel_rfl
theorem laidOut : laidOutB Tryd.prog = true := by kernel_rfl
set_option maxRecDepth 100000 in
theorem open_i64 {H : Type} {enc : TypeId × Value → H} {w : World} {base : Nat} {spare : Nat → Bool} {held : Bool} {b0 : Nat} {v : Value} {d : DataW H} {p : List MemPlace}
    (hv : Value.okWide Tryd.prog w .any b0 3 v) (h : DataW.Trod enc Tryd.prog w base spare held 3 v d p) : ∃ n : Int, v = .int .i64 n ∧ (Lit.int .i64 n).wf = true := by
  obtain ⟨n, rfl, _, _, w0⟩ := open_int Tryd.underlying3 hv h
  exact ⟨n, rfl, w0⟩
/-- A plain datum as a value. -/
def valOf {H : Type} : DataW H → Value
  | .lit (.bool b) => .bool b
  | .lit (.int k n) => .int k n
  | _ => undef
/-- A table of rows, flat in its cells. -/
theorem arr2 {P : Program} {w : World} {t e f : TypeId} {n m fuel : Nat} {cs : List Value} {x : DataW Unit × List MemPlace} {base : Nat} {spare : Nat → Bool} {held : Bool}
    (ht : P.underlying t = some (.array n e)) (he : P.underlying e = some (.array m f)) (hce : P.cellsOf e = m) (hcf : P.cellsOf f = 1)
    (leaf : ∀ fuel cs x, DataW.trod (fun _ => ()) P w base spare held fuel f cs = some x → cs = [valOf x.1])
    (h : DataW.trod (fun _ => ()) P w base spare held fuel t cs = some x) :
    ∃ rows : List (DataW Unit), x.1 = .agg rows ∧ ∀ i j, i < n → j < m → ∃ row d, rows[i]? = some (.agg row) ∧ row[j]? = some d ∧ cs[i * m + j]? = some (valOf d) := by
  obtain ⟨xs, m', rfl, rfl, hl, hn, hi⟩ := DataW.trod_array ht h
  refine ⟨_, rfl, fun i j hin hjm => ?_⟩
  have h1 := hi i hin
  obtain ⟨y, hy⟩ : ∃ y, xs[i]? = some y := ⟨xs[i], by simp [hn, hin]⟩
  rw [hy] at h1
  obtain ⟨ys, m2, rfl, rfl, hl2, hm, hj⟩ := DataW.trod_array he h1
  have h2 := hj j hjm
  obtain ⟨z, hz⟩ : ∃ z, ys[j]? = some z := ⟨ys[j], by simp [hm, hjm]⟩
  rw [hz] at h2
  have h3 := leaf _ _ _ h2
  refine ⟨ys.map (·.1), z.1, by simp [hy], by simp [hz], ?_⟩
  rw [hcf, hce] at h3
  have h4 := congrArg (fun l => l[0]?) h3
  simp at h4
  simpa [List.getElem?_take, List.getElem?_drop, hjm] using h4
theorem leaf_bool {P : Program} {w : World} {f : TypeId} (hf : P.underlying f = some .bool) {base : Nat} {spare : Nat → Bool} {held : Bool} :
    ∀ fuel cs (x : DataW Unit × List MemPlace), DataW.trod (fun _ => ()) P w base spare held fuel f cs = some x → cs = [valOf x.1] := by
  intro fuel cs x h
  obtain ⟨b, rfl, rfl⟩ := DataW.trod_bool hf h
  rfl
theorem leaf_int {P : Program} {w : World} {f : TypeId} {k : IntKind} (hf : P.underlying f = some (.int k)) {base : Nat} {spare : Nat → Bool} {held : Bool} :
    ∀ fuel cs (x : DataW Unit × List MemPlace), DataW.trod (fun _ => ()) P w base spare held fuel f cs = some x → cs = [valOf x.1] := by
  intro fuel cs x h
  obtain ⟨b, rfl, rfl, _⟩ := DataW.trod_int hf h
  rfl
theorem six {i : Nat} (h : i < 6) : i = 0 ∨ i = 1 ∨ i = 2 ∨ i = 3 ∨ i = 4 ∨ i = 5 := by omega
theorem gFits : Tryd.prog.globalNamed "padlock/lock.fits" = some 2 := by kernel_rfl
theorem gJoins : Tryd.prog.globalNamed "padlock/lock.joins" = some 1 := by kernel_rfl
theorem gFitsT : (Tryd.prog.globals[2]?).map (·.type) = some 117 := by kernel_rfl
theorem gJoinsT : (Tryd.prog.globals[1]?).map (·.type) = some 112 := by kernel_rfl
theorem fits_head {W : World} {rest : List (String × DataW Unit)} {ps : List MemPlace} (h : DataW.LaidVars Tryd.prog W (("padlock/lock.fits", Rows.laid_padlock_lock_fits) :: rest) ps) : TabFits W ∧ ∃ q, DataW.LaidVars Tryd.prog W rest q := by
  obtain ⟨g, t, cs, fuel, p, q, hg, ht, hvar, hd, hr, _⟩ := h
  obtain rfl := Option.some.inj (gFits.symm.trans hg)
  obtain rfl := Option.some.inj (gFitsT.symm.trans ht)
  refine ⟨fun i j hi hj => ?_, q, hr⟩
  obtain ⟨rows, e, H⟩ := arr2 Tryd.underlying117 Tryd.underlying116 (by kernel_rfl) (by kernel_rfl) (leaf_bool Tryd.underlying4) hd
  obtain ⟨row, d, h1, h2, h3⟩ := H i j hi hj
  rw [World.var?_cell gFits hvar]
  rw [Array.getElem?_toList] at h3
  rw [h3]
  simp only [Rows.laid_padlock_lock_fits, DataW.agg.injEq] at e
  subst e
  rcases six hi with rfl | rfl | rfl | rfl | rfl | rfl <;> simp at h1 <;> subst h1 <;> rcases six hj with rfl | rfl | rfl | rfl | rfl | rfl <;> simp at h2 <;> subst h2 <;> rfl
theorem joins_head {W : World} {rest : List (String × DataW Unit)} {ps : List MemPlace} (h : DataW.LaidVars Tryd.prog W (("padlock/lock.joins", Rows.laid_padlock_lock_joins) :: rest) ps) : TabJoins W ∧ ∃ q, DataW.LaidVars Tryd.prog W rest q := by
  obtain ⟨g, t, cs, fuel, p, q, hg, ht, hvar, hd, hr, _⟩ := h
  obtain rfl := Option.some.inj (gJoins.symm.trans hg)
  obtain rfl := Option.some.inj (gJoinsT.symm.trans ht)
  refine ⟨fun i j hi hj => ?_, q, hr⟩
  obtain ⟨rows, e, H⟩ := arr2 Tryd.underlying112 Tryd.underlying111 (by kernel_rfl) (by kernel_rfl) (leaf_int Tryd.underlying3) hd
  obtain ⟨row, d, h1, h2, h3⟩ := H i j hi hj
  rw [World.var?_cell gJoins hvar]
  rw [Array.getElem?_toList] at h3
  rw [h3]
  simp only [Rows.laid_padlock_lock_joins, DataW.agg.injEq] at e
  subst e
  rcases six hi with rfl | rfl | rfl | rfl | rfl | rfl <;> simp at h1 <;> subst h1 <;> rcases six hj with rfl | rfl | rfl | rfl | rfl | rfl <;> simp at h2 <;> subst h2 <;> rfl
theorem tabs_fits {W : World} (h : laidMetH Tryd.prog [("padlock/lock.fits", Rows.laid_padlock_lock_fits)] W) : TabFits W := by
  obtain ⟨ps, h, _⟩ := h
  exact (fits_head h).1
theorem tabs_joins {W : World} (h : laidMetH Tryd.prog [("padlock/lock.joins", Rows.laid_padlock_lock_joins)] W) : TabJoins W := by
  obtain ⟨ps, h, _⟩ := h
  exact (joins_head h).1
theorem tabs_both {W : World} (h : laidMetH Tryd.prog [("padlock/lock.fits", Rows.laid_padlock_lock_fits), ("padlock/lock.joins", Rows.laid_padlock_lock_joins)] W) : TabFits W ∧ TabJoins W := by
  obtain ⟨ps, h, _⟩ := h
  obtain ⟨h1, q, h2⟩ := fits_head h
  exact ⟨h1, (joins_head h2).1⟩
end Go.Proofs.YteebiklebedneaaDoor
/- How arguments that came in read: lemmas out of the kit's readings, in the walks' own terms. -/
namespace Go.Proofs.YteebiklebedneaaDoor
open Go.ChangeShapes Go.WideShapes Go.ChangeAt Go.RowKit
theorem cellsValue : Tryd.prog.cellsOf 57 = 3 := by kernel_rfl
set_option maxRecDepth 100000 in
/-- A struct api.Value that came in: its three fields. -/
theorem open_value {H : Type} {enc : TypeId × Value → H} {w : World} {base : Nat} {spare : Nat → Bool} {held : Bool} {b0 : Nat} {v : Value} {d : DataW H} {p : List MemPlace}
    (hv : Value.okWide Tryd.prog w .any b0 57 v) (h : DataW.Trod enc Tryd.prog w base spare held 57 v d p) :
    ∃ (k n : Int) (s : ByteArray), v = .agg #[.int .i64 k, .int .i64 n, .string s] ∧ (Lit.int .i64 k).wf = true ∧ (Lit.int .i64 n).wf = true ∧ s.size ≤ maxLen := by
  obtain ⟨c0, c1, c2, y0, y1, y2, m, rfl, _, _, h0, h1, h2⟩ := Joins.open_agg3 Tryd.underlying57 (by kernel_rfl) cellsValue hv h
  obtain ⟨k, e0, _, w0⟩ := DataW.trod_int Tryd.underlying3 h0
  obtain ⟨n, e1, _, w1⟩ := DataW.trod_int Tryd.underlying3 h1
  obtain ⟨s, e2, _, w2⟩ := DataW.trod_string Tryd.underlying9 h2
  simp at e0 e1 e2
  subst e0 e1 e2
  exact ⟨k, n, s, rfl, w0, w1, w2⟩
theorem i64_bd {n : Int} (h : (Lit.int .i64 n).wf = true) : -9223372036854775808 ≤ n ∧ n ≤ 9223372036854775807 := by
  simp [Lit.wf, IntKind.min, IntKind.max, IntKind.signed, IntKind.bits] at h
  omega
end Go.Proofs.YteebiklebedneaaDoor
/- How bytes that came in read; bulk. -/
namespace Go.Proofs.YteebiklebedneaaDoor
open Go.ChangeShapes Go.WideShapes Go.ChangeAt Go.RowKit Go.AM
theorem bulk_one {H : Type} (d : DataW H) : 1 ≤ Rows.uptoBulk d := by
  cases d with
  | lit l => cases l <;> simp [Rows.uptoBulk]
  | nil => simp [Rows.uptoBulk]
  | ptr d => simp [Rows.uptoBulk]
  | slice elems spare => simp [Rows.uptoBulk]
  | agg parts => simp [Rows.uptoBulk]
  | iface t d => simp [Rows.uptoBulk]
  | map entries => simp [Rows.uptoBulk]
  | held h => simp [Rows.uptoBulk]
theorem bulk_length {H : Type} : ∀ l : List (DataW H), l.length ≤ Rows.uptoBulkAll l
  | [] => by simp [Rows.uptoBulkAll]
  | x :: r => by have := bulk_one x; have := bulk_length r; simp only [Rows.uptoBulkAll, List.length_cons]; omega
theorem bulk_slice {H : Type} (ds rest : List (DataW H)) : ds.length + 1 ≤ Rows.uptoBulk (.slice ds rest) := by
  have := bulk_length ds
  simp only [Rows.uptoBulk]; omega
theorem bulk_bound {H : Type} {l : List (DataW H)} (hk : Rows.uptoSmall H l = true) : Rows.uptoBulkAll l ≤ 1048576 := of_decide_eq_true hk
theorem bulk_of {H α : Type} {l : List α} {R : α → DataW H → Prop} {d : DataW H} (h : (l = [] ∧ d = .nil) ∨ ∃ ds rest, d = .slice ds rest ∧ ds.length = l.length ∧ ∀ (i : Nat) y, l[i]? = some y → ∃ d, ds[i]? = some d ∧ R y d) : l.length ≤ Rows.uptoBulk d := by
  rcases h with ⟨rfl, _⟩ | ⟨ds, rest, rfl, h, _⟩
  · exact Nat.zero_le _
  · have := bulk_slice ds rest; omega
end Go.Proofs.YteebiklebedneaaDoor
/- How lock states that came in read; what the listed variables hold. -/
namespace Go.Proofs.YteebiklebedneaaDoor
open Go.ChangeShapes Go.WideShapes Go.ChangeAt Go.RowKit Go.AM
theorem cellsLockA : Tryd.prog.cellsOf 82 = 3 := by kernel_rfl
theorem cellsLocksA : Tryd.prog.cellsOf 41 = 2 := by kernel_rfl
set_option maxRecDepth 100000 in
theorem leaf_lockA {H : Type} {E : TypeId × Value → H} {w : World} {base : Nat} {spare : Nat → Bool} {held : Bool} (fuel : Nat) (cs : List Value) (x : DataW H × List MemPlace)
    (h : DataW.trod E Tryd.prog w base spare held fuel 82 cs = some x) : ∃ y : LK, Reps w (zAll w) [] (eK y) cs ∧ (∀ v ∈ cs, v.oneCell' = true) ∧ y.s.size ≤ maxLen := by
  obtain ⟨y0, y1, y2, n, _, hl, h0, h1, h2⟩ := Deep.trod_struct3 Tryd.underlying82 h
  rw [cellsLockA] at hl
  obtain ⟨c0, c1, c2, rfl⟩ : ∃ a b c, cs = [a, b, c] := by
    match cs, hl with
    | [a, b, c], _ => exact ⟨a, b, c, rfl⟩
  obtain ⟨t, e0, _, _⟩ := DataW.trod_int Tryd.underlying3 h0
  obtain ⟨s, e1, _, w1⟩ := DataW.trod_string Tryd.underlying9 h1
  obtain ⟨m, e2, _, _⟩ := DataW.trod_int Tryd.underlying3 h2
  rw [show Tryd.prog.cellsOf 3 = 1 by kernel_rfl] at e0 e2
  rw [show Tryd.prog.cellsOf 9 = 1 by kernel_rfl] at e1
  simp at e0 e1 e2
  subst e0 e1 e2
  exact ⟨⟨t, s, m⟩, .cons (.r _ _) (.cons (.r _ _) (.cons (.r _ _) .nil)), by simp [Value.oneCell'], w1⟩
theorem open_lksA {H : Type} {E : TypeId × Value → H} {w : World} {base : Nat} {spare : Nat → Bool} {held : Bool} {fuel : Nat} {cs : List Value} {x : DataW H × List MemPlace}
    (h : DataW.trod E Tryd.prog w base spare held fuel 39 cs = some x) :
    ∃ (v : Value) (l : List LK), cs = [v] ∧ Rep w (zAll w) [] (.ro true 3 (l.map eK)) v ∧ l.length ≤ Rows.uptoBulk x.1 ∧ ∀ c ∈ l, c.s.size ≤ maxLen := by
  obtain ⟨u, l, h1, h2, _, h3⟩ := open_ro eK (fun y _ => y.s.size ≤ maxLen) true Tryd.underlying39 cellsLockA (by omega) leaf_lockA h
  refine ⟨u, l, h1, h2, bulk_of h3, fun c hc => ?_⟩
  obtain ⟨i, hi⟩ := List.mem_iff_getElem?.1 hc
  rcases h3 with ⟨rfl, _⟩ | ⟨ds, rest, _, _, h6⟩
  · simp at hi
  · exact (h6 i c hi).choose_spec.2
set_option maxRecDepth 100000 in
/-- Lock states that came in. -/
theorem open_locksA {H : Type} {enc : TypeId × Value → H} {w : World} {base : Nat} {spare : Nat → Bool} {held : Bool} {b0 : Nat} {v : Value} {d : DataW H} {p : List MemPlace}
    (hv : Value.okWide Tryd.prog w .any b0 41 v) (h : DataW.Trod enc Tryd.prog w base spare held 41 v d p) :
    ∃ l1 l2 : List LK, Rep w (zAll w) [] (.agg [.ro true 3 (l1.map eK), .ro true 3 (l2.map eK)]) v ∧ (∀ y ∈ l1, y.s.size ≤ maxLen) ∧ (∀ y ∈ l2, y.s.size ≤ maxLen) ∧ l1.length + l2.length ≤ Rows.uptoBulk d := by
  obtain ⟨c0, c1, y0, y1, m, rfl, rfl, _, h0, h1⟩ := Joins.open_agg2 Tryd.underlying41 (by kernel_rfl) cellsLocksA hv h
  obtain ⟨v1, l1, e1, g1, b1, s1⟩ := open_lksA h0
  obtain ⟨v2, l2, e2, g2, b2, s2⟩ := open_lksA h1
  simp at e1 e2
  subst e1 e2
  have hr : Reps w (zAll w) [] [.ro true 3 (l1.map eK), .ro true 3 (l2.map eK)] [c0, c1] := .cons g1 (.cons g2 .nil)
  refine ⟨l1, l2, .agg _ _ _ hr.1 hr.2, s1, s2, ?_⟩
  simp only [Rows.uptoBulk, Rows.uptoBulkAll]
  omega
def GL : List (Nat × List Value) := [(2, fitsV), (1, joinsV)]
theorem tabsGL : TabsL GL := ⟨rfl, rfl⟩
theorem globsL {W : World} (h : laidMetH Tryd.prog [("padlock/lock.fits", Rows.laid_padlock_lock_fits), ("padlock/lock.joins", Rows.laid_padlock_lock_joins)] W) : Globs GL W := by
  obtain ⟨h1, h2⟩ := tabs_both h
  intro g cs hg
  simp only [GL, List.mem_cons, Prod.mk.injEq, List.not_mem_nil, or_false] at hg
  rcases hg with ⟨rfl, rfl⟩ | ⟨rfl, rfl⟩
  · refine ⟨World.block_lt_of_cell? _ _ (h1 0 0 (by omega) (by omega)), fun j u hu => ?_⟩
    have hj : j < 36 := (List.getElem?_eq_some_iff.1 hu).1
    have h3 := h1 (j / 6) (j % 6) (by omega) (by omega)
    have h4 := fitsV_at (i := j / 6) (j := j % 6) (by omega) (by omega)
    rw [show j / 6 * 6 + j % 6 = j by omega] at h3 h4
    rw [h4] at hu
    rw [h3, hu]
  · refine ⟨World.block_lt_of_cell? _ _ (h2 0 0 (by omega) (by omega)), fun j u hu => ?_⟩
    have hj : j < 36 := (List.getElem?_eq_some_iff.1 hu).1
    have h3 := h2 (j / 6) (j % 6) (by omega) (by omega)
    have h4 := joinsV_at (i := j / 6) (j := j % 6) (by omega) (by omega)
    rw [show j / 6 * 6 + j % 6 = j by omega] at h3 h4
    rw [h4] at hu
    rw [h3, hu]
end Go.Proofs.YteebiklebedneaaDoor
