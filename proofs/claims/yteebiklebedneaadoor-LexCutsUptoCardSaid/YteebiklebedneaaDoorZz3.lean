/- Texts of the law LexCuts, part 3: lemmas; what is proved stands in the last text. -/
import Derived.Test.YteebiklebedneaaDoorProg
import Derived.Test.YteebiklebedneaaDoorZz2
import Derived.Test.YteebiklebedneaaDoorZz1
import Derived.Below
import Derived.OpenShut
import Derived.WalkKit
import Derived.ProofKit
import Derived.ChangeOld
import Derived.Deep.Strs
import Derived.Lib.ReplaceLaws
import Derived.Lib.ItoaNum
import Derived.Outline
import Derived.Sort.Grow
import Derived.Sort.Row
import Derived.Lib.ItoaLen
import Derived.Shelf.LaysC
import Derived.Shelf.Strconv.AtoiAll
import Derived.Shelf.Strings.Prefix
import Derived.Lib.AtoiAll
set_option linter.unusedSimpArgs false
set_option linter.unusedVariables false
/- The program's types, as a table. -/
namespace Go.AM
open Go
theorem mixed : Go.Proofs.Tryd.prog.follows .mixedOrders = true := by kernel_rfl
@[go_sem] theorem ty_2 : tyOf Go.Proofs.Tryd.prog 2 = some ⟨.int .i64, 1, 8, some [.int .i64 0]⟩ := by kernel_rfl
@[go_sem] theorem ty_3 : tyOf Go.Proofs.Tryd.prog 3 = some ⟨.int .i64, 1, 8, some [.int .i64 0]⟩ := by kernel_rfl
@[go_sem] theorem ty_4 : tyOf Go.Proofs.Tryd.prog 4 = some ⟨.bool, 1, 1, some [.bool false]⟩ := by kernel_rfl
@[go_sem] theorem ty_5 : tyOf Go.Proofs.Tryd.prog 5 = some ⟨.int .u8, 1, 1, some [.int .u8 0]⟩ := by kernel_rfl
@[go_sem] theorem ty_6 : tyOf Go.Proofs.Tryd.prog 6 = some ⟨.int .u8, 1, 1, some [.int .u8 0]⟩ := by kernel_rfl
@[go_sem] theorem ty_7 : tyOf Go.Proofs.Tryd.prog 7 = some ⟨.struct [(0, 1), (1, 1), (2, 1), (3, 1)], 4, 24, some [.int .i64 0, .int .i64 0, .bool false, .int .u8 0]⟩ := by kernel_rfl
@[go_sem] theorem ty_8 : tyOf Go.Proofs.Tryd.prog 8 = some ⟨.struct [(0, 1), (1, 1), (2, 1), (3, 1)], 4, 24, some [.int .i64 0, .int .i64 0, .bool false, .int .u8 0]⟩ := by kernel_rfl
@[go_sem] theorem ty_9 : tyOf Go.Proofs.Tryd.prog 9 = some ⟨.str, 1, 16, some [.string ⟨#[]⟩]⟩ := by kernel_rfl
@[go_sem] theorem ty_10 : tyOf Go.Proofs.Tryd.prog 10 = some ⟨.str, 1, 16, some [.string ⟨#[]⟩]⟩ := by kernel_rfl
@[go_sem] theorem ty_11 : tyOf Go.Proofs.Tryd.prog 11 = some ⟨.str, 1, 16, some [.string ⟨#[]⟩]⟩ := by kernel_rfl
@[go_sem] theorem ty_12 : tyOf Go.Proofs.Tryd.prog 12 = some ⟨.int .u64, 1, 8, some [.int .u64 0]⟩ := by kernel_rfl
@[go_sem] theorem ty_13 : tyOf Go.Proofs.Tryd.prog 13 = some ⟨.struct [(0, 1), (1, 1)], 2, 24, some [.string ⟨#[]⟩, .int .u64 0]⟩ := by kernel_rfl
@[go_sem] theorem ty_14 : tyOf Go.Proofs.Tryd.prog 14 = some ⟨.struct [(0, 1), (1, 1)], 2, 24, some [.string ⟨#[]⟩, .int .u64 0]⟩ := by kernel_rfl
@[go_sem] theorem ty_15 : tyOf Go.Proofs.Tryd.prog 15 = some ⟨.ptr 187, 1, 8, some [.pointer none]⟩ := by kernel_rfl
@[go_sem] theorem ty_16 : tyOf Go.Proofs.Tryd.prog 16 = some ⟨.ptr 190, 1, 8, some [.pointer none]⟩ := by kernel_rfl
@[go_sem] theorem ty_17 : tyOf Go.Proofs.Tryd.prog 17 = some ⟨.ptr 197, 1, 8, some [.pointer none]⟩ := by kernel_rfl
@[go_sem] theorem ty_18 : tyOf Go.Proofs.Tryd.prog 18 = some ⟨.struct [(0, 1)], 1, 8, some [.pointer none]⟩ := by kernel_rfl
@[go_sem] theorem ty_19 : tyOf Go.Proofs.Tryd.prog 19 = some ⟨.struct [(0, 1)], 1, 8, some [.pointer none]⟩ := by kernel_rfl
@[go_sem] theorem ty_20 : tyOf Go.Proofs.Tryd.prog 20 = some ⟨.ifc, 1, 16, some [.nilIface]⟩ := by kernel_rfl
@[go_sem] theorem ty_21 : tyOf Go.Proofs.Tryd.prog 21 = some ⟨.int .i32, 1, 4, some [.int .i32 0]⟩ := by kernel_rfl
@[go_sem] theorem ty_22 : tyOf Go.Proofs.Tryd.prog 22 = some ⟨.slice 57, 1, 24, some [.slice none 0 0]⟩ := by kernel_rfl
@[go_sem] theorem ty_24 : tyOf Go.Proofs.Tryd.prog 24 = some ⟨.slice 5, 1, 24, some [.slice none 0 0]⟩ := by kernel_rfl
@[go_sem] theorem ty_25 : tyOf Go.Proofs.Tryd.prog 25 = some ⟨.int .i64, 1, 8, some [.int .i64 0]⟩ := by kernel_rfl
@[go_sem] theorem ty_30 : tyOf Go.Proofs.Tryd.prog 30 = some ⟨.slice 66, 1, 24, some [.slice none 0 0]⟩ := by kernel_rfl
@[go_sem] theorem ty_39 : tyOf Go.Proofs.Tryd.prog 39 = some ⟨.slice 82, 1, 24, some [.slice none 0 0]⟩ := by kernel_rfl
@[go_sem] theorem ty_40 : tyOf Go.Proofs.Tryd.prog 40 = some ⟨.struct [(0, 1), (1, 1)], 2, 48, some [.slice none 0 0, .slice none 0 0]⟩ := by kernel_rfl
@[go_sem] theorem ty_41 : tyOf Go.Proofs.Tryd.prog 41 = some ⟨.struct [(0, 1), (1, 1)], 2, 48, some [.slice none 0 0, .slice none 0 0]⟩ := by kernel_rfl
@[go_sem] theorem ty_43 : tyOf Go.Proofs.Tryd.prog 43 = some ⟨.slice 3, 1, 24, some [.slice none 0 0]⟩ := by kernel_rfl
@[go_sem] theorem ty_49 : tyOf Go.Proofs.Tryd.prog 49 = some ⟨.slice 43, 1, 24, some [.slice none 0 0]⟩ := by kernel_rfl
@[go_sem] theorem ty_56 : tyOf Go.Proofs.Tryd.prog 56 = some ⟨.struct [(0, 1), (1, 1), (2, 1)], 3, 32, some [.int .i64 0, .int .i64 0, .string ⟨#[]⟩]⟩ := by kernel_rfl
@[go_sem] theorem ty_57 : tyOf Go.Proofs.Tryd.prog 57 = some ⟨.struct [(0, 1), (1, 1), (2, 1)], 3, 32, some [.int .i64 0, .int .i64 0, .string ⟨#[]⟩]⟩ := by kernel_rfl
@[go_sem] theorem ty_59 : tyOf Go.Proofs.Tryd.prog 59 = some ⟨.int .u64, 1, 8, some [.int .u64 0]⟩ := by kernel_rfl
@[go_sem] theorem ty_62 : tyOf Go.Proofs.Tryd.prog 62 = some ⟨.ptr 64, 1, 8, some [.pointer none]⟩ := by kernel_rfl
@[go_sem] theorem ty_63 : tyOf Go.Proofs.Tryd.prog 63 = some ⟨.struct [(0, 1), (1, 1)], 2, 32, some [.pointer none, .slice none 0 0]⟩ := by kernel_rfl
@[go_sem] theorem ty_64 : tyOf Go.Proofs.Tryd.prog 64 = some ⟨.struct [(0, 1), (1, 1)], 2, 32, some [.pointer none, .slice none 0 0]⟩ := by kernel_rfl
@[go_sem] theorem ty_65 : tyOf Go.Proofs.Tryd.prog 65 = some ⟨.struct [(0, 1), (1, 1), (2, 1)], 3, 32, some [.int .i64 0, .string ⟨#[]⟩, .int .i64 0]⟩ := by kernel_rfl
@[go_sem] theorem ty_66 : tyOf Go.Proofs.Tryd.prog 66 = some ⟨.struct [(0, 1), (1, 1), (2, 1)], 3, 32, some [.int .i64 0, .string ⟨#[]⟩, .int .i64 0]⟩ := by kernel_rfl
@[go_sem] theorem ty_68 : tyOf Go.Proofs.Tryd.prog 68 = some ⟨.ifc, 1, 16, some [.nilIface]⟩ := by kernel_rfl
@[go_sem] theorem ty_69 : tyOf Go.Proofs.Tryd.prog 69 = some ⟨.ifc, 1, 16, some [.nilIface]⟩ := by kernel_rfl
@[go_sem] theorem ty_81 : tyOf Go.Proofs.Tryd.prog 81 = some ⟨.struct [(0, 1), (1, 1), (2, 1)], 3, 32, some [.int .i64 0, .string ⟨#[]⟩, .int .i64 0]⟩ := by kernel_rfl
@[go_sem] theorem ty_82 : tyOf Go.Proofs.Tryd.prog 82 = some ⟨.struct [(0, 1), (1, 1), (2, 1)], 3, 32, some [.int .i64 0, .string ⟨#[]⟩, .int .i64 0]⟩ := by kernel_rfl
@[go_sem] theorem ty_88 : tyOf Go.Proofs.Tryd.prog 88 = some ⟨.ptr 41, 1, 8, some [.pointer none]⟩ := by kernel_rfl
@[go_sem] theorem ty_94 : tyOf Go.Proofs.Tryd.prog 94 = some ⟨.map 3 95, 1, 8, some [.map none]⟩ := by kernel_rfl
@[go_sem] theorem ty_95 : tyOf Go.Proofs.Tryd.prog 95 = some ⟨.struct [], 0, 0, some []⟩ := by kernel_rfl
@[go_sem] theorem ty_98 : tyOf Go.Proofs.Tryd.prog 98 = some ⟨.slice 99, 1, 24, some [.slice none 0 0]⟩ := by kernel_rfl
@[go_sem] theorem ty_99 : tyOf Go.Proofs.Tryd.prog 99 = some ⟨.slice 4, 1, 24, some [.slice none 0 0]⟩ := by kernel_rfl
@[go_sem] theorem ty_102 : tyOf Go.Proofs.Tryd.prog 102 = some ⟨.slice 9, 1, 24, some [.slice none 0 0]⟩ := by kernel_rfl
@[go_sem] theorem ty_103 : tyOf Go.Proofs.Tryd.prog 103 = some ⟨.arr 12 9, 12, 192, some [.string ⟨#[]⟩, .string ⟨#[]⟩, .string ⟨#[]⟩, .string ⟨#[]⟩, .string ⟨#[]⟩, .string ⟨#[]⟩, .string ⟨#[]⟩, .string ⟨#[]⟩, .string ⟨#[]⟩, .string ⟨#[]⟩, .string ⟨#[]⟩, .string ⟨#[]⟩]⟩ := by kernel_rfl
@[go_sem] theorem ty_104 : tyOf Go.Proofs.Tryd.prog 104 = some ⟨.ptr 5, 1, 8, some [.pointer none]⟩ := by kernel_rfl
@[go_sem] theorem ty_111 : tyOf Go.Proofs.Tryd.prog 111 = some ⟨.arr 6 3, 6, 48, some [.int .i64 0, .int .i64 0, .int .i64 0, .int .i64 0, .int .i64 0, .int .i64 0]⟩ := by kernel_rfl
@[go_sem] theorem ty_112 : tyOf Go.Proofs.Tryd.prog 112 = some ⟨.arr 6 111, 36, 288, some [.int .i64 0, .int .i64 0, .int .i64 0, .int .i64 0, .int .i64 0, .int .i64 0, .int .i64 0, .int .i64 0, .int .i64 0, .int .i64 0, .int .i64 0, .int .i64 0, .int .i64 0, .int .i64 0, .int .i64 0, .int .i64 0, .int .i64 0, .int .i64 0, .int .i64 0, .int .i64 0, .int .i64 0, .int .i64 0, .int .i64 0, .int .i64 0, .int .i64 0, .int .i64 0, .int .i64 0, .int .i64 0, .int .i64 0, .int .i64 0, .int .i64 0, .int .i64 0, .int .i64 0, .int .i64 0, .int .i64 0, .int .i64 0]⟩ := by kernel_rfl
@[go_sem] theorem ty_116 : tyOf Go.Proofs.Tryd.prog 116 = some ⟨.arr 6 4, 6, 6, some [.bool false, .bool false, .bool false, .bool false, .bool false, .bool false]⟩ := by kernel_rfl
@[go_sem] theorem ty_117 : tyOf Go.Proofs.Tryd.prog 117 = some ⟨.arr 6 116, 36, 36, some [.bool false, .bool false, .bool false, .bool false, .bool false, .bool false, .bool false, .bool false, .bool false, .bool false, .bool false, .bool false, .bool false, .bool false, .bool false, .bool false, .bool false, .bool false, .bool false, .bool false, .bool false, .bool false, .bool false, .bool false, .bool false, .bool false, .bool false, .bool false, .bool false, .bool false, .bool false, .bool false, .bool false, .bool false, .bool false, .bool false]⟩ := by kernel_rfl
@[go_sem] theorem ty_120 : tyOf Go.Proofs.Tryd.prog 120 = some ⟨.int .u64, 1, 8, some [.int .u64 0]⟩ := by kernel_rfl
@[go_sem] theorem ty_133 : tyOf Go.Proofs.Tryd.prog 133 = some ⟨.int .i64, 1, 8, some [.int .i64 0]⟩ := by kernel_rfl
@[go_sem] theorem ty_141 : tyOf Go.Proofs.Tryd.prog 141 = some ⟨.int .u32, 1, 4, some [.int .u32 0]⟩ := by kernel_rfl
@[go_sem] theorem ty_145 : tyOf Go.Proofs.Tryd.prog 145 = some ⟨.arr 24 5, 24, 24, some [.int .u8 0, .int .u8 0, .int .u8 0, .int .u8 0, .int .u8 0, .int .u8 0, .int .u8 0, .int .u8 0, .int .u8 0, .int .u8 0, .int .u8 0, .int .u8 0, .int .u8 0, .int .u8 0, .int .u8 0, .int .u8 0, .int .u8 0, .int .u8 0, .int .u8 0, .int .u8 0, .int .u8 0, .int .u8 0, .int .u8 0, .int .u8 0]⟩ := by kernel_rfl
@[go_sem] theorem ty_149 : tyOf Go.Proofs.Tryd.prog 149 = some ⟨.int .i64, 1, 8, some [.int .i64 0]⟩ := by kernel_rfl
@[go_sem] theorem ty_152 : tyOf Go.Proofs.Tryd.prog 152 = some ⟨.ptr 173, 1, 8, some [.pointer none]⟩ := by kernel_rfl
@[go_sem] theorem ty_156 : tyOf Go.Proofs.Tryd.prog 156 = some ⟨.int .u64, 1, 8, some [.int .u64 0]⟩ := by kernel_rfl
@[go_sem] theorem ty_160 : tyOf Go.Proofs.Tryd.prog 160 = some ⟨.ptr 3, 1, 8, some [.pointer none]⟩ := by kernel_rfl
@[go_sem] theorem ty_163 : tyOf Go.Proofs.Tryd.prog 163 = some ⟨.struct [(0, 1), (1, 1)], 2, 2, some [.int .u8 0, .int .u8 0]⟩ := by kernel_rfl
@[go_sem] theorem ty_164 : tyOf Go.Proofs.Tryd.prog 164 = some ⟨.struct [(0, 1), (1, 1)], 2, 2, some [.int .u8 0, .int .u8 0]⟩ := by kernel_rfl
@[go_sem] theorem ty_165 : tyOf Go.Proofs.Tryd.prog 165 = some ⟨.arr 16 164, 32, 32, some [.int .u8 0, .int .u8 0, .int .u8 0, .int .u8 0, .int .u8 0, .int .u8 0, .int .u8 0, .int .u8 0, .int .u8 0, .int .u8 0, .int .u8 0, .int .u8 0, .int .u8 0, .int .u8 0, .int .u8 0, .int .u8 0, .int .u8 0, .int .u8 0, .int .u8 0, .int .u8 0, .int .u8 0, .int .u8 0, .int .u8 0, .int .u8 0, .int .u8 0, .int .u8 0, .int .u8 0, .int .u8 0, .int .u8 0, .int .u8 0, .int .u8 0, .int .u8 0]⟩ := by kernel_rfl
@[go_sem] theorem ty_167 : tyOf Go.Proofs.Tryd.prog 167 = some ⟨.arr 20 59, 20, 160, some [.int .u64 0, .int .u64 0, .int .u64 0, .int .u64 0, .int .u64 0, .int .u64 0, .int .u64 0, .int .u64 0, .int .u64 0, .int .u64 0, .int .u64 0, .int .u64 0, .int .u64 0, .int .u64 0, .int .u64 0, .int .u64 0, .int .u64 0, .int .u64 0, .int .u64 0, .int .u64 0]⟩ := by kernel_rfl
@[go_sem] theorem ty_172 : tyOf Go.Proofs.Tryd.prog 172 = some ⟨.struct [(0, 1), (1, 1), (2, 1)], 3, 48, some [.string ⟨#[]⟩, .string ⟨#[]⟩, .nilIface]⟩ := by kernel_rfl
@[go_sem] theorem ty_173 : tyOf Go.Proofs.Tryd.prog 173 = some ⟨.struct [(0, 1), (1, 1), (2, 1)], 3, 48, some [.string ⟨#[]⟩, .string ⟨#[]⟩, .nilIface]⟩ := by kernel_rfl
@[go_sem] theorem ty_175 : tyOf Go.Proofs.Tryd.prog 175 = some ⟨.ptr 156, 1, 8, some [.pointer none]⟩ := by kernel_rfl
@[go_sem] theorem ty_181 : tyOf Go.Proofs.Tryd.prog 181 = some ⟨.ptr 183, 1, 8, some [.pointer none]⟩ := by kernel_rfl
@[go_sem] theorem ty_182 : tyOf Go.Proofs.Tryd.prog 182 = some ⟨.struct [(0, 1)], 1, 16, some [.string ⟨#[]⟩]⟩ := by kernel_rfl
@[go_sem] theorem ty_183 : tyOf Go.Proofs.Tryd.prog 183 = some ⟨.struct [(0, 1)], 1, 16, some [.string ⟨#[]⟩]⟩ := by kernel_rfl
@[go_sem] theorem ty_184 : tyOf Go.Proofs.Tryd.prog 184 = some ⟨.arr 32 5, 32, 32, some [.int .u8 0, .int .u8 0, .int .u8 0, .int .u8 0, .int .u8 0, .int .u8 0, .int .u8 0, .int .u8 0, .int .u8 0, .int .u8 0, .int .u8 0, .int .u8 0, .int .u8 0, .int .u8 0, .int .u8 0, .int .u8 0, .int .u8 0, .int .u8 0, .int .u8 0, .int .u8 0, .int .u8 0, .int .u8 0, .int .u8 0, .int .u8 0, .int .u8 0, .int .u8 0, .int .u8 0, .int .u8 0, .int .u8 0, .int .u8 0, .int .u8 0, .int .u8 0]⟩ := by kernel_rfl
@[go_sem] theorem ty_186 : tyOf Go.Proofs.Tryd.prog 186 = some ⟨.struct [(0, 1), (1, 1), (2, 1), (3, 1)], 4, 40, some [.pointer none, .pointer none, .pointer none, .string ⟨#[]⟩]⟩ := by kernel_rfl
@[go_sem] theorem ty_187 : tyOf Go.Proofs.Tryd.prog 187 = some ⟨.struct [(0, 1), (1, 1), (2, 1), (3, 1)], 4, 40, some [.pointer none, .pointer none, .pointer none, .string ⟨#[]⟩]⟩ := by kernel_rfl
@[go_sem] theorem ty_188 : tyOf Go.Proofs.Tryd.prog 188 = some ⟨.arr 0 16, 0, 0, some []⟩ := by kernel_rfl
@[go_sem] theorem ty_189 : tyOf Go.Proofs.Tryd.prog 189 = some ⟨.struct [(0, 0)], 0, 0, some []⟩ := by kernel_rfl
@[go_sem] theorem ty_190 : tyOf Go.Proofs.Tryd.prog 190 = some ⟨.struct [(0, 0)], 0, 0, some []⟩ := by kernel_rfl
@[go_sem] theorem ty_191 : tyOf Go.Proofs.Tryd.prog 191 = some ⟨.int .u8, 1, 1, some [.int .u8 0]⟩ := by kernel_rfl
@[go_sem] theorem ty_192 : tyOf Go.Proofs.Tryd.prog 192 = some ⟨.int .u8, 1, 1, some [.int .u8 0]⟩ := by kernel_rfl
@[go_sem] theorem ty_194 : tyOf Go.Proofs.Tryd.prog 194 = some ⟨.int .i32, 1, 4, some [.int .i32 0]⟩ := by kernel_rfl
@[go_sem] theorem ty_195 : tyOf Go.Proofs.Tryd.prog 195 = some ⟨.int .i32, 1, 4, some [.int .i32 0]⟩ := by kernel_rfl
@[go_sem] theorem ty_196 : tyOf Go.Proofs.Tryd.prog 196 = some ⟨.struct [(0, 1), (1, 1), (2, 1), (3, 1), (4, 1), (5, 1), (6, 1), (7, 1), (8, 1), (9, 1), (10, 1)], 11, 48, some [.int .u64 0, .int .u64 0, .int .u32 0, .int .u8 0, .int .u8 0, .int .u8 0, .int .u8 0, .nilFunc, .pointer none, .int .i32 0, .int .i32 0]⟩ := by kernel_rfl
@[go_sem] theorem ty_197 : tyOf Go.Proofs.Tryd.prog 197 = some ⟨.struct [(0, 1), (1, 1), (2, 1), (3, 1), (4, 1), (5, 1), (6, 1), (7, 1), (8, 1), (9, 1), (10, 1)], 11, 48, some [.int .u64 0, .int .u64 0, .int .u32 0, .int .u8 0, .int .u8 0, .int .u8 0, .int .u8 0, .nilFunc, .pointer none, .int .i32 0, .int .i32 0]⟩ := by kernel_rfl
@[go_sem] theorem et_7 : etTop Go.Proofs.Tryd.prog 7 = some (.str [(0, 1, .prim (.int .i64)), (1, 1, .prim (.int .i64)), (2, 1, .prim .bool), (3, 1, .prim (.int .u8))]) := by kernel_rfl
@[go_sem] theorem et_8 : etTop Go.Proofs.Tryd.prog 8 = some (.str [(0, 1, .prim (.int .i64)), (1, 1, .prim (.int .i64)), (2, 1, .prim .bool), (3, 1, .prim (.int .u8))]) := by kernel_rfl
@[go_sem] theorem et_56 : etTop Go.Proofs.Tryd.prog 56 = some (.str [(0, 1, .prim (.int .i64)), (1, 1, .prim (.int .i64)), (2, 1, .prim .str)]) := by kernel_rfl
@[go_sem] theorem et_57 : etTop Go.Proofs.Tryd.prog 57 = some (.str [(0, 1, .prim (.int .i64)), (1, 1, .prim (.int .i64)), (2, 1, .prim .str)]) := by kernel_rfl
@[go_sem] theorem et_65 : etTop Go.Proofs.Tryd.prog 65 = some (.str [(0, 1, .prim (.int .i64)), (1, 1, .prim .str), (2, 1, .prim (.int .i64))]) := by kernel_rfl
@[go_sem] theorem et_66 : etTop Go.Proofs.Tryd.prog 66 = some (.str [(0, 1, .prim (.int .i64)), (1, 1, .prim .str), (2, 1, .prim (.int .i64))]) := by kernel_rfl
@[go_sem] theorem et_81 : etTop Go.Proofs.Tryd.prog 81 = some (.str [(0, 1, .prim (.int .i64)), (1, 1, .prim .str), (2, 1, .prim (.int .i64))]) := by kernel_rfl
@[go_sem] theorem et_82 : etTop Go.Proofs.Tryd.prog 82 = some (.str [(0, 1, .prim (.int .i64)), (1, 1, .prim .str), (2, 1, .prim (.int .i64))]) := by kernel_rfl
@[go_sem] theorem et_95 : etTop Go.Proofs.Tryd.prog 95 = some (.str []) := by kernel_rfl
@[go_sem] theorem et_163 : etTop Go.Proofs.Tryd.prog 163 = some (.str [(0, 1, .prim (.int .u8)), (1, 1, .prim (.int .u8))]) := by kernel_rfl
@[go_sem] theorem et_164 : etTop Go.Proofs.Tryd.prog 164 = some (.str [(0, 1, .prim (.int .u8)), (1, 1, .prim (.int .u8))]) := by kernel_rfl
@[go_sem] theorem et_182 : etTop Go.Proofs.Tryd.prog 182 = some (.str [(0, 1, .prim .str)]) := by kernel_rfl
@[go_sem] theorem et_183 : etTop Go.Proofs.Tryd.prog 183 = some (.str [(0, 1, .prim .str)]) := by kernel_rfl
end Go.AM
/- The abstract machine, 19: slices that came in, as what is read. -/
namespace Go.AM
open Go Go.ChangeShapes Go.WideShapes Go.ChangeAt Go.RowKit
theorem add_none_ (a : Addr) (n : Nat) (h : a.spot = none) : a.add n = ⟨a.block, a.off + n, none⟩ := by
  unfold Addr.add
  split
  · rename_i h0; subst h0; cases a; simp_all
  · rfl
/-- All that lies. -/
def zAll (w : World) : Zone := fun _ b => b < w.heap.size
theorem open_ro {H α : Type} {E : TypeId × Value → H} {P : Program} {w : World} {base : Nat} {spare : Nat → Bool} {held : Bool} {k fuel : Nat} {t e : TypeId} {cs : List Value} {x : DataW H × List MemPlace}
    (enc : α → List AV) (R : α → DataW H → Prop) (tt : Bool) (ht : P.underlying t = some (.slice e)) (hk : P.cellsOf e = k) (hk0 : 0 < k)
    (leaf : ∀ fuel cs x, DataW.trod E P w base spare held fuel e cs = some x → ∃ y, Reps w (zAll w) [] (enc y) cs ∧ (∀ v ∈ cs, v.oneCell' = true) ∧ R y x.1)
    (h : DataW.trod E P w base spare held fuel t cs = some x) :
    ∃ (v : Value) (l : List α), cs = [v] ∧ Rep w (zAll w) [] (.ro tt k (l.map enc)) v ∧ v.oneCell' = true ∧
      ((l = [] ∧ x.1 = .nil) ∨ ∃ ds rest, x.1 = .slice ds rest ∧ ds.length = l.length ∧ ∀ (i : Nat) y, l[i]? = some y → ∃ d, ds[i]? = some d ∧ R y d) := by
  rcases DataW.trod_slice ht h with ⟨rfl, rfl⟩ | ⟨a, len, cap, elems, rest, n, _, rfl, rfl, hb, hl, hm, hlen, hel, -, -⟩
  · exact ⟨_, [], rfl, .nil _ _ _ _ _, rfl, .inl ⟨rfl, rfl⟩⟩
  have hy : ∀ i : Fin len, ∃ y cs', w.cells? base (a.add (i.1 * k)) k = some cs' ∧ Reps w (zAll w) [] (enc y) cs' ∧ (∀ v ∈ cs', v.oneCell' = true) ∧ ∃ d, (elems.map (·.1))[i.1]? = some d ∧ R y d := fun ⟨i, hi⟩ => by
    have h1 := hel i hi
    rw [List.getElem?_eq_getElem (by omega), hk] at h1
    obtain ⟨cs', h2, h3⟩ := Option.bind_eq_some_iff.1 h1
    obtain ⟨y, h4, h5, hR⟩ := leaf _ _ _ h3
    exact ⟨y, cs', h2, h4, h5, _, by simp [show i < elems.length by omega], hR⟩
  obtain ⟨f, hf⟩ := Classical.axiomOfChoice hy
  obtain ⟨g, hg⟩ := Classical.axiomOfChoice hf
  refine ⟨_, List.ofFn f, rfl, ?_, rfl, .inr ⟨_, _, rfl, by simp [hlen], fun i y hi => ?_⟩⟩
  · by_cases h0 : len = 0
    · subst h0; simp only [List.ofFn_zero, List.map_nil]; exact .nil _ _ _ _ _
    have c0 := hg ⟨0, by omega⟩
    obtain ⟨_, l0, g0⟩ := World.cells?_some c0.1
    have g1 := g0 0 hk0
    rw [List.getElem?_eq_getElem (by omega)] at g1
    have hs : a.spot = none := by
      simp only [Nat.zero_mul] at g1
      have e0 : (a.add 0).add 0 = a := by simp [Addr.add]
      rw [e0] at g1
      unfold World.cell? at g1
      split at g1
      · split at g1
        · cases g1
        · rename_i h5; simpa using h5
      · cases g1
    have hlt : a.block < w.heap.size := by
      have := World.block_lt_of_cell? _ _ g1
      simpa [Addr.add] using this
    have ha : a = ⟨a.block, a.off, none⟩ := by cases a; simp_all
    have hlk : ∀ i : Fin len, (g i).length = k := fun i => (World.cells?_some (hg i).1).2.1
    have hmem : ∀ (i : Nat) (e : List AV), ((List.ofFn f).map enc)[i]? = some e → ∃ h : i < len, e = enc (f ⟨i, h⟩) := by
      intro i e hi
      rw [List.getElem?_map, List.getElem?_ofFn] at hi
      split at hi
      · rename_i h; exact ⟨h, by simpa using hi.symm⟩
      · simp at hi
    have key : ∀ (i : Nat) (e : List AV) (j : Nat) (x : AV), ((List.ofFn f).map enc)[i]? = some e → e[j]? = some x → ∃ (h : i < len) (y : Value), (g ⟨i, h⟩)[j]? = some y ∧ Rep w (zAll w) [] x y ∧ w.cell? ⟨a.block, a.off + i * k + j, none⟩ = some y := by
      intro i e j x hi hj
      obtain ⟨h, rfl⟩ := hmem i e hi
      obtain ⟨y, h1, h2⟩ := (hg ⟨i, h⟩).2.1.get hj
      refine ⟨h, y, h1, h2, ?_⟩
      obtain ⟨_, l1, g2⟩ := World.cells?_some (hg ⟨i, h⟩).1
      have hj' : j < k := by rw [← hlk ⟨i, h⟩]; exact (List.getElem?_eq_some_iff.1 h1).1
      have g3 := g2 j hj'
      rw [add_none_ a _ hs, add_none_ _ _ rfl] at g3
      rw [← h1, ← g3]
    have hlen2 : ((List.ofFn f).map enc).length = len := by simp
    let ys : Nat → Nat → Value := fun i j => if h : i < len then ((g ⟨i, h⟩)[j]?).getD undef else undef
    have hys : ∀ {i j : Nat} (h : i < len) {y : Value}, (g ⟨i, h⟩)[j]? = some y → ys i j = y := by
      intro i j h y hy; simp only [ys]; rw [dif_pos h, hy]; rfl
    have hro := Rep.ro (w := w) (z := zAll w) [] tt k ((List.ofFn f).map enc) a.block a.off cap ys hlt (by rw [hlen2]; exact hl) (fun i e hi => by obtain ⟨h, rfl⟩ := hmem i e hi; rw [← (hg ⟨i, h⟩).2.1.1]; exact hlk _)
      (fun i e j x hi hj => by obtain ⟨h, y, h1, _, h3⟩ := key i e j x hi hj; rw [hys h h1]; exact h3)
      (fun i e j x hi hj => by obtain ⟨h, y, h1, _, _⟩ := key i e j x hi hj; rw [hys h h1]; exact (hg ⟨i, h⟩).2.2.1 y (List.mem_of_getElem? h1))
      (fun i e j x hi hj => by obtain ⟨h, y, h1, h2, _⟩ := key i e j x hi hj; rw [hys h h1]; exact h2)
    rw [hlen2, ← ha] at hro
    exact hro
  · obtain ⟨hi', rfl⟩ : ∃ h : i < len, f ⟨i, h⟩ = y := by
      rw [List.getElem?_ofFn] at hi
      split at hi
      · rename_i h; exact ⟨h, by simpa using hi⟩
      · cases hi
    exact (hg ⟨i, hi'⟩).2.2.2
theorem rep1 {w : World} {z : Zone} {th : List NLoc} {x : AV} {v : Value} (h : Rep w z th x v) : Reps w z th [x] [v] := .cons h .nil
end Go.AM
/- The abstract machine, 20: contracts of the old form; arguments that say less. -/
namespace Go.AM
open Go
section
variable {P : Program}
/-- What lies in the tables. -/
def Globs (G : List (Nat × List Value)) (w : World) : Prop := ∀ g cs, (g, cs) ∈ G → g < w.heap.size ∧ ∀ (j : Nat) u, cs[j]? = some u → w.cell? ⟨g, j, none⟩ = some u
/-- A contract of the old form: a plain value; what was there is as it was. -/
theorem con_of_calls {f : Nat} {G : List (Nat × List Value)} {xs : List AV} {v : Value} (hok : okFn P f = true)
    (h : ∀ (w : World) (z : Zone) (vs : List Value), (∀ t b, z t b → b < w.heap.size) → Reps w z [] xs vs → Globs G w → Calls P f vs.toArray w (fun e w' => e = .returned v ∧ Go.RowKit.Below w.heap.size w w')) : Con P G f xs [] 0 (Is (.r v) [] 0) No := by
  refine ⟨hok, fun w th z own vs ho hm hr => ?_⟩
  have hth : th = [] := List.length_eq_zero_iff.1 hm.len
  subst hth
  refine (h w z vs hm.zlt hr (fun g cs hg => ⟨hm.zlt _ _ (hm.globs g cs hg).1, (hm.globs g cs hg).2⟩)).mono ?_
  rintro e w' ⟨rfl, hb⟩
  refine ⟨v, .r v, [], 0, [], z, .inl ⟨rfl, rfl, rfl, rfl⟩, ?_, .r _ _⟩
  refine ⟨rfl, fun i nd hi => by simp [lk] at hi, fun i j x y L M hi => by simp [lk] at hi, fun t b hz => Nat.lt_of_lt_of_le (hm.zlt t b hz) hb.size, hb.size, fun b hlt _ => hb.block b hlt, fun t b h => h, fun b h => .inl h, fun b h => h, ?_, fun i L hi => by simp at hi, ⟨hb.os, hb.tape, hb.output⟩⟩
  intro g cs hg
  obtain ⟨h1, h2⟩ := hm.globs g cs hg
  exact ⟨h1, fun j u hu => (cell_heap (hb.block g (hm.zlt _ _ h1)) j).trans (h2 j u hu)⟩
mutual
/-- The second says no more than the first: a nil slice is a slice without elements; what is read for good is read. -/
def wk : AV → AV → Prop
  | .r (.slice none 0 0), .ro _ _ [] => True
  | .agg a, .agg b => wkL a b
  | x, y => x = y
def wkL : List AV → List AV → Prop
  | [], [] => True
  | x :: a, y :: b => wk x y ∧ wkL a b
  | _, _ => False
end
variable {w : World} {z : Zone} {th : List NLoc}
mutual
theorem wk_rep : ∀ {x y : AV} {v : Value}, wk x y → Rep w z th x v → Rep w z th y v
  | .r u, y, v, h, hr => by
    unfold wk at h
    split at h
    · rename_i t k e; cases e; exact nil_ro _ _ hr
    · rename_i a b e; cases e
    · subst h; exact hr
  | .agg a, y, v, h, hr => by
    unfold wk at h
    split at h
    · rename_i e; cases e
    · rename_i a' b e; cases e
      obtain ⟨ys, rfl, hc⟩ := hr.agg_inv
      have := wkL_rep h hc
      exact .agg _ _ _ this.1 this.2
    · subst h; exact hr
  | .ro t k e, y, v, h, hr => by simp [wk] at h; subst h; exact hr
  | .re t c o, y, v, h, hr => by simp [wk] at h; subst h; exact hr
  | .s n l k, y, v, h, hr => by simp [wk] at h; subst h; exact hr
  | .p n i o, y, v, h, hr => by simp [wk] at h; subst h; exact hr
  | .tup c, y, v, h, hr => by simp [wk] at h; subst h; exact hr
  | .fn f c, y, v, h, hr => by simp [wk] at h; subst h; exact hr
  | .ifc t c, y, v, h, hr => by simp [wk] at h; subst h; exact hr
theorem wkL_rep : ∀ {x y : List AV} {vs : List Value}, wkL x y → Reps w z th x vs → Reps w z th y vs
  | [], [], vs, _, hr => hr
  | x :: a, y :: b, vs, h, hr => by
    unfold wkL at h
    obtain ⟨v, r, rfl, h1, h2⟩ := hr.head
    exact .cons (wk_rep h.1 h1) (wkL_rep h.2 h2)
  | [], _ :: _, _, h, _ => by simp [wkL] at h
  | _ :: _, [], _, h, _ => by simp [wkL] at h
end
theorem Con.weak {G : List (Nat × List Value)} {f : Nat} {xs xs' : List AV} {o : List (Nat × Nd)} {n : Nat} {Q R : AV → List (Nat × Nd) → Nat → Prop} (hc : Con P G f xs' o n Q R) (h : wkL xs xs') : Con P G f xs o n Q R :=
  hc.args (fun _ _ _ _ hr => wkL_rep h hr)
end
end Go.AM
/- Plain data of the program, as cells. -/
namespace Go.AM
open Go
structure V where
  k : Int
  n : Int
  s : ByteArray
def eV (x : V) : List AV := [.r (.int .i64 x.k), .r (.int .i64 x.n), .r (.string x.s)]
def sameV (x y : V) : Bool := x.k == y.k && (x.n == y.n && x.s.toList == y.s.toList)
def sameVs : List V → List V → Bool
  | [], [] => true
  | x :: r, y :: q => sameV x y && sameVs r q
  | _, _ => false
theorem drop_at {α : Type} {l : List α} {k : Nat} {x : α} (h : l[k]? = some x) : l.drop k = x :: l.drop (k + 1) := by
  obtain ⟨hk, rfl⟩ := List.getElem?_eq_some_iff.1 h
  exact List.drop_eq_getElem_cons hk
theorem sameVs_len : ∀ {a b : List V}, sameVs a b = true → a.length = b.length
  | [], [], _ => rfl
  | x :: r, y :: q, h => by simp [sameVs] at h; simp [sameVs_len h.2]
  | [], _ :: _, h => by simp [sameVs] at h
  | _ :: _, [], h => by simp [sameVs] at h
def eI (n : Int) : List AV := [.r (.int .i64 n)]
def eStr (s : ByteArray) : List AV := [.r (.string s)]
/-- A column. -/
structure CO where
  nm : ByteArray
  k : Int
def eC (c : CO) : List AV := [.r (.string c.nm), .r (.int .i64 c.k)]
/-- A token. -/
structure TK0 where
  k : Int
  s : ByteArray
  n : Int
def eT (t : TK0) : List AV := [.r (.int .i64 t.k), .r (.string t.s), .r (.int .i64 t.n)]
@[simp] theorem ptA_eV (a : V) : (∀ x, x ∈ eV a → PT x) = True := eq_true (by intro x hx; simp [eV] at hx; rcases hx with rfl | rfl | rfl <;> exact .r _)
@[simp] theorem ptA_eT (a : TK0) : (∀ x, x ∈ eT a → PT x) = True := eq_true (by intro x hx; simp [eT] at hx; rcases hx with rfl | rfl | rfl <;> exact .r _)
@[simp] theorem ptA_eI (a : Int) : (∀ x, x ∈ eI a → PT x) = True := eq_true (by intro x hx; simp [eI] at hx; subst hx; exact .r _)
@[simp] theorem ptA_eC (a : CO) : (∀ x, x ∈ eC a → PT x) = True := eq_true (by intro x hx; simp [eC] at hx; rcases hx with rfl | rfl <;> exact .r _)
@[simp] theorem ptA_eStr (a : ByteArray) : (∀ x, x ∈ eStr a → PT x) = True := eq_true (by intro x hx; simp [eStr] at hx; subst hx; exact .r _)
instance : PTf eV := ⟨fun a => of_eq_true (ptA_eV a)⟩
instance : PTf eT := ⟨fun a => of_eq_true (ptA_eT a)⟩
instance : PTf eI := ⟨fun a => of_eq_true (ptA_eI a)⟩
instance : PTf eC := ⟨fun a => of_eq_true (ptA_eC a)⟩
instance : PTf eStr := ⟨fun a => of_eq_true (ptA_eStr a)⟩
theorem pt_eV : ∀ {l : List V}, ∀ e ∈ l.map eV, ∀ x ∈ e, PT x := by
  intro l e he x hx
  obtain ⟨a, _, rfl⟩ := List.mem_map.1 he
  simp [eV] at hx; rcases hx with rfl | rfl | rfl <;> exact .r _
theorem pt_eT {l : List TK0} : ∀ e ∈ l.map eT, ∀ x ∈ e, PT x := by
  intro e he x hx
  obtain ⟨a, _, rfl⟩ := List.mem_map.1 he
  simp [eT] at hx; rcases hx with rfl | rfl | rfl <;> exact .r _
theorem pt_eByte {l : List UInt8} : ∀ e ∈ l.map eByte, ∀ x ∈ e, PT x := by
  intro e he x hx
  obtain ⟨a, _, rfl⟩ := List.mem_map.1 he
  simp [eByte] at hx; subst hx; exact .r _
theorem pt_eI {l : List Int} : ∀ e ∈ l.map eI, ∀ x ∈ e, PT x := by
  intro e he x hx
  obtain ⟨a, _, rfl⟩ := List.mem_map.1 he
  simp [eI] at hx; subst hx; exact .r _
end Go.AM
/- A value whose parts fit. -/
namespace Go.AM
open Go Go.RowKit
def gV (v : V) : Prop := v.s.size ≤ maxLen ∧ inI v.n
end Go.AM
/- The value layer's Check and the reference's, in the seat of lex and parse. -/
namespace Go.Proofs.YteebiklebedneaaDoor
open Go.RowKit
/-- P1.1 as numbers. -/
def vcheck (k n : Int) (s : ByteArray) : Int :=
  if k = 0 then (if n ≠ 0 ∨ s.toList ≠ [] then 6 else 0)
  else if k = 1 then (if n < 0 ∨ 1 < n ∨ s.toList ≠ [] then 6 else 0)
  else if k = 2 then (if s.toList ≠ [] then 6 else 0)
  else if k = 3 then (if n ≠ 0 then 6 else if 20 < s.size then 1 else 0)
  else 2

set_option maxHeartbeats 1000000 in
theorem val_any (k n : Int) (s : ByteArray) (w : World) (hs : s.size ≤ maxLen) : Calls Tryd.prog 29 #[.agg #[.int .i64 k, .int .i64 n, .string s]] w fun e w' => e = .returned (.int .i64 (vcheck k n s)) ∧ Below w.heap.size w w' := by
  unfold maxLen at hs
  go_enter Tryd.func29, Tryd.ntmps29
  go_wp2
  all_goals
    go_ret
    refine ⟨?_, (Below.refl _ _).alloc (Nat.le_refl _) _⟩
    go_light
    by_cases hl : s.toList = [] <;> simp_all [vcheck] <;> omega

set_option maxHeartbeats 1000000 in
theorem vfault_any (k n : Int) (s : ByteArray) (w : World) (hs : s.size ≤ maxLen) : Calls Tryd.prog 31 #[.agg #[.int .i64 k, .int .i64 n, .string s]] w fun e w' => e = .returned (.int .i64 (vcheck k n s)) ∧ Below w.heap.size w w' := by
  unfold maxLen at hs
  go_enter Tryd.func31, Tryd.ntmps31
  go_wp2
  all_goals
    go_ret
    refine ⟨?_, (Below.refl _ _).alloc (Nat.le_refl _) _⟩
    go_light
    by_cases hl : s.toList = [] <;> first | (have := size_nil hl; simp_all [vcheck] <;> omega) | (simp_all [vcheck] <;> omega)
end Go.Proofs.YteebiklebedneaaDoor
/- The codec: values as bytes: models and plain laws. -/
namespace Go.AM
open Go Go.RowKit
open Go.Proofs.YteebiklebedneaaDoor (vcheck)
/-- The eight bytes of a number below 2^64, the highest one first. -/
def be8 (u : Nat) : List UInt8 := [56, 48, 40, 32, 24, 16, 8, 0].map fun s => UInt8.ofNat (u / 2 ^ s % 256)
/-- A number of 64 bits, moved up so that it is not below nought. -/
def up63 (n : Int) : Nat := (n + 9223372036854775808).toNat
/-- A text in which a byte gives way to bytes. -/
def repM (c : UInt8) (new : List UInt8) : List UInt8 → List UInt8
  | [] => []
  | x :: r => if x = c then new ++ repM c new r else x :: repM c new r
def escM (l : List UInt8) : List UInt8 := repM 0 [0, 255] l
def encV (v : V) : List UInt8 := UInt8.ofNat v.k.toNat :: (if v.k = 1 then [UInt8.ofNat v.n.toNat] else if v.k = 2 then be8 (up63 v.n) else if v.k = 3 then escM v.s.data.toList ++ [0, 0] else [])
/-- Behind what stands already. -/
def encFrom : List UInt8 → List V → Except Int (List UInt8)
  | b, [] => .ok b
  | b, v :: r => if vcheck v.k v.n v.s ≠ 0 then .error (vcheck v.k v.n v.s) else encFrom (b ++ encV v) r
def encM (l : List V) : Except Int (List UInt8) := if 6 < l.length then .error 1 else match encFrom [] l with
  | .error e => .error e
  | .ok b => if 100 < b.length then .error 5 else .ok b
theorem be8_len (u : Nat) : (be8 u).length = 8 := rfl
theorem rep_len (c : UInt8) (new : List UInt8) (hn : 1 ≤ new.length) : ∀ l : List UInt8, (repM c new l).length ≤ new.length * l.length
  | [] => by simp [repM]
  | x :: r => by
    have := rep_len c new hn r
    rw [repM, List.length_cons, Nat.mul_add]; split
    · rw [List.length_append]; omega
    · rw [List.length_cons]; omega
theorem esc_len (l : List UInt8) : (escM l).length ≤ 2 * l.length := rep_len 0 [0, 255] (by simp) l
theorem up63_lt {n : Int} (h : inI n) : up63 n < 18446744073709551616 := by
  obtain ⟨h1, h2⟩ := h; unfold up63; omega
theorem encV_len {v : V} (h : vcheck v.k v.n v.s = 0) : (encV v).length ≤ 43 := by
  unfold vcheck at h
  have hs := esc_len v.s.data.toList
  unfold encV
  simp only [List.length_cons]
  split
  · rw [List.length_singleton]; omega
  split
  · rw [be8_len]; omega
  split
  · rename_i h3
    have : v.s.size ≤ 20 := by
      rw [h3, if_neg (by decide), if_neg (by decide), if_neg (by decide), if_pos rfl] at h
      split at h
      · cases h
      split at h
      · cases h
      · omega
    have e : v.s.data.toList.length = v.s.size := by rw [Array.length_toList]; rfl
    simp only [List.length_append, List.length_cons, List.length_nil]; omega
  · simp
theorem encFrom_len : ∀ {b : List UInt8} {l : List V} {x : List UInt8}, encFrom b l = .ok x → b.length ≤ x.length ∧ x.length ≤ b.length + 43 * l.length
  | b, [], x, h => by cases h; simp
  | b, v :: r, x, h => by
    rw [encFrom] at h
    split at h
    · cases h
    rename_i hv
    have hv : vcheck v.k v.n v.s = 0 := by simpa using hv
    have := encFrom_len h
    have h3 := encV_len hv
    simp only [List.length_append, List.length_cons] at this ⊢
    omega
theorem encFrom_err : ∀ {b : List UInt8} {l : List V} {e : Int}, encFrom b l = .error e → e ≠ 0
  | b, [], e, h => by cases h
  | b, v :: r, e, h => by
    rw [encFrom] at h
    split at h
    · cases h; assumption
    · exact encFrom_err h
theorem encM_err {l : List V} {e : Int} (h : encM l = .error e) : e ≠ 0 := by
  unfold encM at h
  split at h
  · cases h; decide
  split at h
  · cases h; exact encFrom_err (by assumption)
  split at h
  · cases h; decide
  · cases h
theorem encM_len {l : List V} {b : List UInt8} (h : encM l = .ok b) : b.length ≤ 100 := by
  unfold encM at h
  split at h
  · cases h
  split at h
  · cases h
  split at h
  · cases h
  · cases h; omega
theorem xor63u (n : Nat) (hn : n < 18446744073709551616) : (BitVec.ofInt 64 (n : Int) ^^^ BitVec.ofInt 64 9223372036854775808).toNat = if n < 9223372036854775808 then n + 9223372036854775808 else n - 9223372036854775808 := by
  have e : (9223372036854775808 : Int) = ((9223372036854775808 : Nat) : Int) := rfl
  rw [e, BitVec.ofInt_natCast, BitVec.ofInt_natCast, BitVec.toNat_xor, BitVec.toNat_ofNat, BitVec.toNat_ofNat, Nat.mod_eq_of_lt (by omega), Nat.mod_eq_of_lt (by omega)]
  have key : ∀ m : Nat, m < 9223372036854775808 → m ^^^ 9223372036854775808 = m + 9223372036854775808 := by
    intro m hm
    apply Nat.eq_of_testBit_eq
    intro i
    have e2 : (9223372036854775808 : Nat) = 2 ^ 63 := rfl
    rw [Nat.testBit_xor, e2, Nat.add_comm, Nat.testBit_two_pow]
    by_cases hi : i = 63
    · subst hi
      rw [Nat.testBit_two_pow_add_eq, Nat.testBit_lt_two_pow (by omega)]; rfl
    · by_cases hi2 : i < 63
      · rw [Nat.testBit_two_pow_add_gt (by omega)]; have : ¬ 63 = i := by omega
        simp [this]
      · have h1 : m.testBit i = false := Nat.testBit_lt_two_pow (Nat.lt_of_lt_of_le hm (by rw [e2]; exact Nat.pow_le_pow_right (by omega) (by omega)))
        have h2 : (2 ^ 63 + m).testBit i = false := Nat.testBit_lt_two_pow (Nat.lt_of_lt_of_le (by omega : 2 ^ 63 + m < 2 ^ 64) (Nat.pow_le_pow_right (by omega) (by omega)))
        have : ¬ 63 = i := by omega
        rw [h1, h2]; simp [this]
  split
  · rename_i h; exact key n h
  · rename_i h
    have := key (n - 9223372036854775808) (by omega)
    rw [Nat.sub_add_cancel (by omega)] at this
    have h2 := congrArg (· ^^^ 9223372036854775808) this
    simp only [Nat.xor_assoc, Nat.xor_self, Nat.xor_zero] at h2
    exact h2.symm
theorem u64_neg (n : Int) (h : -9223372036854775808 ≤ n) (h' : n < 0) : IntKind.u64.wrap n = n + 18446744073709551616 := by
  have : IntKind.u64.wrap n = n % 18446744073709551616 := rfl
  omega
theorem xorU {n : Int} (h : inI n) : bXor .u64 (IntKind.u64.wrap n) 9223372036854775808 = ((up63 n : Nat) : Int) := by
  obtain ⟨h1, h2⟩ := h
  have e : ∃ m : Nat, m < 18446744073709551616 ∧ IntKind.u64.wrap n = (m : Int) ∧ (up63 n : Int) = if m < 9223372036854775808 then (m : Int) + 9223372036854775808 else (m : Int) - 9223372036854775808 := by
    by_cases hn : n < 0
    · rw [u64_neg n h1 hn]
      refine ⟨(n + 18446744073709551616).toNat, by omega, by omega, ?_⟩
      unfold up63; rw [if_neg (by omega)]; omega
    · rw [Go.IntWalk.u64_in n (by omega)]
      refine ⟨n.toNat, by omega, by omega, ?_⟩
      unfold up63; rw [if_pos (by omega)]; omega
  obtain ⟨m, hm, e1, e2⟩ := e
  rw [e1]
  show IntKind.u64.wrap (((BitVec.ofInt 64 (m : Int) ^^^ BitVec.ofInt 64 9223372036854775808).toNat : Nat) : Int) = _
  rw [xor63u m hm, e2]
  split
  · rw [Go.IntWalk.u64_in _ (by omega)]; omega
  · rw [Go.IntWalk.u64_in _ (by omega)]; omega
/-- One of the eight bytes. -/
theorem be8_get (u : Nat) (j : Nat) (hj : j < 8) : (be8 u)[j]? = some (UInt8.ofNat (u / 2 ^ (56 - 8 * j) % 256)) := by
  match j, hj with
  | 0, _ => rfl
  | 1, _ => rfl
  | 2, _ => rfl
  | 3, _ => rfl
  | 4, _ => rfl
  | 5, _ => rfl
  | 6, _ => rfl
  | 7, _ => rfl
theorem u8_cast (m : Nat) : ((UInt8.ofNat (m % 256)).toNat : Int) = ((m % 256 : Nat) : Int) := by
  simp
theorem u8_wrap (n : Int) : IntKind.u8.wrap n = n % 256 := by
  simp only [IntKind.wrap, IntKind.signed, IntKind.bits]; rfl
theorem shr_byte (u : Nat) (j : Nat) (hj : j < 8) : IntKind.u8.wrap (shrI .u64 (u : Int) (56 - 8 * (j : Int))) = ((UInt8.ofNat (u / 2 ^ (56 - 8 * j) % 256)).toNat : Int) := by
  rw [u8_cast, u8_wrap]
  have e : (56 - 8 * (j : Int)).toNat = 56 - 8 * j := by omega
  have hm : min (56 - 8 * j) 64 = 56 - 8 * j := by omega
  have : shrI .u64 (u : Int) (56 - 8 * (j : Int)) = ((u / 2 ^ (56 - 8 * j) : Nat) : Int) := by
    unfold shrI
    rw [e]
    show (u : Int).fdiv (2 ^ (min (56 - 8 * j) 64)) = _
    rw [hm, Int.natCast_ediv, Int.fdiv_eq_ediv_of_nonneg _ (by exact Int.le_of_lt (Int.pow_pos (by decide))), Int.natCast_pow]
    rfl
  rw [this]; omega
theorem index_one (c x : UInt8) (l : List UInt8) : Lib.index (x :: l) [c] = if x = c then 0 else if Lib.index l [c] = -1 then -1 else Lib.index l [c] + 1 := by
  rw [Lib.index]
  by_cases h : x = c
  · simp [h]
  · have h' : ¬ c = x := fun e => h e.symm
    simp [h, h']
/-- strings.ReplaceAll of one byte. -/
theorem replaceK_one (c : UInt8) (new : List UInt8) : ∀ l : List UInt8, Lib.replaceK [c] new (Lib.count l [c]) l = repM c new l
  | [] => by rw [Lib.count_miss (by rfl)]; rfl
  | x :: l => by
    have ih := replaceK_one c new l
    have hi := index_one c x l
    by_cases h : x = c
    · rw [if_pos h] at hi
      rw [Lib.count_hit (i := 0) (by simp) hi, Nat.add_comm 1, Lib.replaceK_hit _ _ _ _ 0 hi, repM, if_pos h]
      simpa using ih
    · rw [if_neg h] at hi
      rw [repM, if_neg h, ← ih]
      by_cases h1 : Lib.index l [c] = -1
      · rw [if_pos h1] at hi
        rw [Lib.count_miss hi, Lib.count_miss h1]; rfl
      · rw [if_neg h1] at hi
        have hg := Lib.index_ge l [c]
        obtain ⟨i, e⟩ : ∃ i : Nat, Lib.index l [c] = i := ⟨(Lib.index l [c]).toNat, by omega⟩
        rw [e] at hi
        have hi : Lib.index (x :: l) [c] = ((i + 1 : Nat) : Int) := by omega
        rw [Lib.count_hit (by simp) hi, Lib.count_hit (by simp) e, Nat.add_comm 1, Nat.add_comm 1, Lib.replaceK_hit _ _ _ _ _ hi, Lib.replaceK_hit _ _ _ _ _ e]
        simp [Nat.add_right_comm i 1 1]
theorem replaceAll_one (c : UInt8) (new l : List UInt8) (h : ([c] == new) = false) : Lib.replaceAll l [c] new = repM c new l := by
  rw [Lib.replaceAll, Lib.replace, if_neg (by rw [h]; simp)]
  have : Lib.replaceNum l [c] (-1) = Lib.count l [c] := by rw [Lib.replaceNum, if_pos (.inl (by omega))]
  rw [this, replaceK_one]
end Go.AM
/- Tokens joined: what both make of a row of tokens. -/
namespace Go.AM
open Go Go.RowKit
open Go.Proofs.YteebiklebedneaaDoor (tokM)
def joinT (t : TK0) : List UInt8 := if t.k = 2 then Lib.itoa t.n else if t.k = 3 then 39 :: (repM 39 [39, 39] t.s.data.toList ++ [39]) else t.s.data.toList
def joinFrom : List UInt8 → List TK0 → List UInt8 × Int
  | acc, [] => (acc, 0)
  | acc, t :: r => if tokM t.k t.s t.n ≠ 0 then ([], tokM t.k t.s t.n) else if 400 < (acc ++ joinT t ++ [32]).length then ([], 1) else joinFrom (acc ++ joinT t ++ [32]) r
def joinM (l : List TK0) : List UInt8 × Int := if 100 < l.length then ([], 10) else joinFrom [] l
theorem join_bad {acc : List UInt8} {t : TK0} {r : List TK0} (h : tokM t.k t.s t.n ≠ 0) : joinFrom acc (t :: r) = ([], tokM t.k t.s t.n) := by rw [joinFrom, if_pos h]
theorem join_long {acc : List UInt8} {t : TK0} {r : List TK0} (h : tokM t.k t.s t.n = 0) (h2 : 400 < (acc ++ joinT t ++ [32]).length) : joinFrom acc (t :: r) = ([], 1) := by rw [joinFrom, if_neg (fun n => n h), if_pos h2]
theorem join_on {acc : List UInt8} {t : TK0} {r : List TK0} (h : tokM t.k t.s t.n = 0) (h2 : ¬ 400 < (acc ++ joinT t ++ [32]).length) : joinFrom acc (t :: r) = joinFrom (acc ++ joinT t ++ [32]) r := by rw [joinFrom, if_neg (fun n => n h), if_neg h2]
/-- A token that may be is of one of four kinds. -/
theorem tok_kind {k : Int} {s : ByteArray} {n : Int} (h : tokM k s n = 0) : (k = 1 ∨ k = 2 ∨ k = 3 ∨ k = 4) ∧ (k = 2 → 0 ≤ n) := by
  unfold tokM at h
  refine ⟨?_, ?_⟩
  · by_cases h1 : k = 1
    · exact .inl h1
    by_cases h2 : k = 2
    · exact .inr (.inl h2)
    by_cases h3 : k = 3
    · exact .inr (.inr (.inl h3))
    by_cases h4 : k = 4
    · exact .inr (.inr (.inr h4))
    rw [if_neg h1, if_neg h2, if_neg h3, if_neg h4] at h; cases h
  · intro h2
    subst h2
    rw [if_neg (by omega), if_pos rfl] at h
    split at h
    · cases h
    · omega
end Go.AM
/- Names: the words that are none; parse.Name and the reference's NameFault; the law. -/
namespace Go.Proofs.YteebiklebedneaaDoor
open Go.RowKit
def wordsL : List (List UInt8) := [[67, 82, 69, 65, 84, 69], [84, 65, 66, 76, 69], [68, 82, 79, 80], [73, 78, 83, 69, 82, 84], [73, 78, 84, 79], [86, 65, 76, 85, 69, 83], [83, 69, 76, 69, 67, 84], [67, 79, 85, 78, 84], [70, 82, 79, 77], [87, 72, 69, 82, 69], [79, 82, 68, 69, 82], [66, 89], [68, 69, 83, 67], [76, 73, 77, 73, 84], [85, 80, 68, 65, 84, 69], [83, 69, 84], [68, 69, 76, 69, 84, 69], [66, 69, 71, 73, 78], [67, 79, 77, 77, 73, 84], [82, 79, 76, 76, 66, 65, 67, 75], [65, 78, 68], [79, 82], [78, 79, 84], [73, 83], [78, 85, 76, 76], [84, 82, 85, 69], [70, 65, 76, 83, 69], [73, 78, 84], [84, 69, 88, 84], [66, 79, 79, 76]]
def wordsS : List ByteArray := wordsL.map str
theorem wordsS_len : wordsS.length = 30 := rfl
/-- What the reference's own list holds, as the walk lays it. -/
def wordsV : Array Value := #[.string (str [67, 82, 69, 65, 84, 69]), .string (str [84, 65, 66, 76, 69]), .string (str [68, 82, 79, 80]), .string (str [73, 78, 83, 69, 82, 84]), .string (str [73, 78, 84, 79]), .string (str [86, 65, 76, 85, 69, 83]), .string (str [83, 69, 76, 69, 67, 84]), .string (str [67, 79, 85, 78, 84]), .string (str [70, 82, 79, 77]), .string (str [87, 72, 69, 82, 69]), .string (str [79, 82, 68, 69, 82]), .string (str [66, 89]), .string (str [68, 69, 83, 67]), .string (str [76, 73, 77, 73, 84]), .string (str [85, 80, 68, 65, 84, 69]), .string (str [83, 69, 84]), .string (str [68, 69, 76, 69, 84, 69]), .string (str [66, 69, 71, 73, 78]), .string (str [67, 79, 77, 77, 73, 84]), .string (str [82, 79, 76, 76, 66, 65, 67, 75]), .string (str [65, 78, 68]), .string (str [79, 82]), .string (str [78, 79, 84]), .string (str [73, 83]), .string (str [78, 85, 76, 76]), .string (str [84, 82, 85, 69]), .string (str [70, 65, 76, 83, 69]), .string (str [73, 78, 84]), .string (str [84, 69, 88, 84]), .string (str [66, 79, 79, 76])]
theorem words_at (w : World) (t : TypeId) : StrsAt (w.alloc (.cells wordsV t)) w.heap.size wordsS := by
  intro j hj
  rw [World.cell?_alloc_mark]
  have hj : j < 30 := hj
  rcases (by omega : j = 0 ∨ j = 1 ∨ j = 2 ∨ j = 3 ∨ j = 4 ∨ j = 5 ∨ j = 6 ∨ j = 7 ∨ j = 8 ∨ j = 9 ∨ j = 10 ∨ j = 11 ∨ j = 12 ∨ j = 13 ∨ j = 14 ∨ j = 15 ∨ j = 16 ∨ j = 17 ∨ j = 18 ∨ j = 19 ∨ j = 20 ∨ j = 21 ∨ j = 22 ∨ j = 23 ∨ j = 24 ∨ j = 25 ∨ j = 26 ∨ j = 27 ∨ j = 28 ∨ j = 29) with rfl | rfl | rfl | rfl | rfl | rfl | rfl | rfl | rfl | rfl | rfl | rfl | rfl | rfl | rfl | rfl | rfl | rfl | rfl | rfl | rfl | rfl | rfl | rfl | rfl | rfl | rfl | rfl | rfl | rfl <;> rfl
def nameM (s : ByteArray) : Int := if 8 < s.size then 1 else if tokM 1 s 0 ≠ 0 ∨ hasS wordsS s = true then 6 else 0
theorem comm_beq (a b : List UInt8) : (a == b) = (b == a) := Bool.eq_iff_iff.2 (by simp only [beq_iff_eq]; exact eq_comm)
end Go.Proofs.YteebiklebedneaaDoor
/- Slices that came in, read as lists. -/
namespace Go.Proofs.YteebiklebedneaaDoor
open Go.ChangeShapes Go.WideShapes Go.ChangeAt Go.RowKit
/-- Cells of a slice, k an element: the list's own. -/
def SlAt {α : Type} (w : World) (k : Nat) (enc : α → List Value) (a : Option Addr) (l : List α) : Prop :=
  l = [] ∨ ∃ b o, a = some ⟨b, o, none⟩ ∧ b < w.heap.size ∧ ∀ j x, l[j]? = some x → ∀ i v, (enc x)[i]? = some v → w.cell? ⟨b, o + j * k + i, none⟩ = some v
theorem SlAt.nil {α : Type} {w : World} {k : Nat} {enc : α → List Value} {a : Option Addr} : SlAt w k enc a ([] : List α) := .inl rfl
theorem SlAt.below {α : Type} {w w' : World} {B k : Nat} {enc : α → List Value} {a : Option Addr} {l : List α} (h : SlAt w k enc a l) (hb : Below B w w') (hB : w.heap.size ≤ B) : SlAt w' k enc a l := by
  rcases h with h | ⟨b, o, ha, hlt, hc⟩
  · exact .inl h
  · exact .inr ⟨b, o, ha, Nat.lt_of_lt_of_le hlt hb.size, fun j x hj i v hi => (hb.cell (p := ⟨b, _, none⟩) (Nat.lt_of_lt_of_le hlt hB)).trans (hc j x hj i v hi)⟩
theorem SlAt.take {α : Type} {w : World} {k : Nat} {enc : α → List Value} {a : Option Addr} {l : List α} (h : SlAt w k enc a l) (n : Nat) : SlAt w k enc a (l.take n) := by
  rcases h with rfl | ⟨b, o, ha, hlt, hc⟩
  · exact .inl (by simp)
  · refine .inr ⟨b, o, ha, hlt, fun j x hj => hc j x ?_⟩
    by_cases h : j < n
    · simpa [List.getElem?_take, h] using hj
    · simp [List.getElem?_take, h] at hj
theorem add_none (a : Addr) (n : Nat) (h : a.spot = none) : a.add n = ⟨a.block, a.off + n, none⟩ := by
  unfold Addr.add
  split
  · rename_i h0; subst h0; cases a; simp_all
  · rfl
theorem open_list {H α : Type} {E : TypeId × Value → H} {P : Program} {w : World} {base : Nat} {spare : Nat → Bool} {held : Bool} {k fuel : Nat} {t e : TypeId} {cs : List Value} {x : DataW H × List MemPlace}
    (enc : α → List Value) (R : α → DataW H → Prop) (ht : P.underlying t = some (.slice e)) (hk : P.cellsOf e = k) (hk0 : 0 < k)
    (leaf : ∀ fuel cs x, DataW.trod E P w base spare held fuel e cs = some x → ∃ y, cs = enc y ∧ R y x.1)
    (h : DataW.trod E P w base spare held fuel t cs = some x) :
    ∃ (a : Option Addr) (l : List α) (cap : Nat), cs = [.slice a l.length cap] ∧ SlAt w k enc a l ∧ l.length ≤ cap ∧ cap ≤ maxLen ∧ (a = none → cap = 0) ∧
      ((a = none ∧ l = [] ∧ x.1 = .nil) ∨ ∃ ds rest, x.1 = .slice ds rest ∧ ds.length = l.length ∧ ∀ (i : Nat) y, l[i]? = some y → ∃ d, ds[i]? = some d ∧ R y d) := by
  rcases DataW.trod_slice ht h with ⟨rfl, rfl⟩ | ⟨a, len, cap, elems, rest, n, _, rfl, rfl, hb, hl, hm, hlen, hel, -, -⟩
  · exact ⟨none, [], 0, rfl, .inl rfl, Nat.le_refl _, Nat.zero_le _, fun _ => rfl, .inl ⟨rfl, rfl, rfl⟩⟩
  have hy : ∀ i : Fin len, ∃ y, w.cells? base (a.add (i.1 * k)) k = some (enc y) ∧ ∃ d, (elems.map (·.1))[i.1]? = some d ∧ R y d := fun ⟨i, hi⟩ => by
    have h1 := hel i hi
    rw [List.getElem?_eq_getElem (by omega), hk] at h1
    obtain ⟨cs', h2, h3⟩ := Option.bind_eq_some_iff.1 h1
    obtain ⟨y, rfl, hR⟩ := leaf _ _ _ h3
    exact ⟨y, h2, _, by simp [show i < elems.length by omega], hR⟩
  obtain ⟨f, hf⟩ := Classical.axiomOfChoice hy
  refine ⟨some a, List.ofFn f, cap, by simp, ?_, by simpa using hl, hm, (fun h => by cases h), .inr ⟨_, _, rfl, by simp [hlen], fun i y hi => ?_⟩⟩
  · by_cases h0 : len = 0
    · subst h0; exact .inl (by simp)
    have c0 := hf ⟨0, by omega⟩
    obtain ⟨_, l0, g0⟩ := World.cells?_some c0.1
    have g1 := g0 0 hk0
    rw [List.getElem?_eq_getElem (by omega)] at g1
    have hs : a.spot = none := by
      simp only [Nat.zero_mul] at g1
      have e0 : (a.add 0).add 0 = a := by simp [Addr.add]
      rw [e0] at g1
      unfold World.cell? at g1
      split at g1
      · split at g1
        · cases g1
        · rename_i h5; simpa using h5
      · cases g1
    have hlt : a.block < w.heap.size := by
      have := World.block_lt_of_cell? _ _ g1
      simpa [Addr.add] using this
    refine .inr ⟨a.block, a.off, by cases a; simp_all, hlt, fun j x hj i v hi => ?_⟩
    obtain ⟨hj', rfl⟩ : ∃ h : j < len, f ⟨j, h⟩ = x := by
      rw [List.getElem?_ofFn] at hj
      split at hj
      · rename_i h; exact ⟨h, by simpa using hj⟩
      · cases hj
    obtain ⟨_, l1, g2⟩ := World.cells?_some (hf ⟨j, hj'⟩).1
    have hi' := (List.getElem?_eq_some_iff.1 hi).1
    have g3 := g2 i (by omega)
    rw [add_none a _ hs, add_none _ _ rfl] at g3
    rw [← hi, ← g3]
  · obtain ⟨hi', rfl⟩ : ∃ h : i < len, f ⟨i, h⟩ = y := by
      rw [List.getElem?_ofFn] at hi
      split at hi
      · rename_i h; exact ⟨h, by simpa using hi⟩
      · cases hi
    exact (hf ⟨i, hi'⟩).2
end Go.Proofs.YteebiklebedneaaDoor
/- Expressions: both Expression and ExpressionFault, as lists of ops. -/
namespace Go.Proofs.YteebiklebedneaaDoor
open Go.RowKit
structure OP where
  k : Int
  vk : Int
  vn : Int
  vs : ByteArray
  nm : ByteArray
def OP.cells (x : OP) : List Value := [.int .i64 x.k, .int .i64 x.vk, .int .i64 x.vn, .string x.vs, .string x.nm]
abbrev OpsAt (w : World) (a : Option Addr) (l : List OP) : Prop := SlAt w 5 OP.cells a l
theorem OpsAt.at {w : World} {a : Option Addr} {l : List OP} (h : OpsAt w a l) {j : Nat} {x : OP} (hj : l[j]? = some x) : ∃ b o, a = some ⟨b, o, none⟩ ∧ b < w.heap.size ∧ w.cell? ⟨b, o + j * 5, none⟩ = some (.int .i64 x.k) ∧ w.cell? ⟨b, o + j * 5 + 1, none⟩ = some (.int .i64 x.vk) ∧ w.cell? ⟨b, o + j * 5 + 2, none⟩ = some (.int .i64 x.vn) ∧ w.cell? ⟨b, o + j * 5 + 3, none⟩ = some (.string x.vs) ∧ w.cell? ⟨b, o + j * 5 + 4, none⟩ = some (.string x.nm) := by
  rcases h with rfl | ⟨b, o, rfl, hb, hc⟩
  · simp at hj
  · exact ⟨b, o, rfl, hb, hc j x hj 0 _ rfl, hc j x hj 1 _ rfl, hc j x hj 2 _ rfl, hc j x hj 3 _ rfl, hc j x hj 4 _ rfl⟩
def popsM (k : Int) : Int := if k = 1 ∨ k = 2 then 0 else if k = 5 ∨ k = 11 then 1 else 2
theorem popsM_bd (k : Int) : 0 ≤ popsM k ∧ popsM k ≤ 2 := by unfold popsM; split <;> (try split) <;> omega
def litM (k n : Int) (s : ByteArray) : Int := if k = 2 ∧ n = -9223372036854775808 then 3 else vcheck k n s
def zeroV (o : OP) : Bool := o.vk == 0 && o.vn == 0 && o.vs.toList == []
/-- What is wrong with an op at a height. -/
def stepM (o : OP) (h : Int) : Int :=
  if o.k < 1 ∨ 11 < o.k then 2 else if litM o.vk o.vn o.vs ≠ 0 then litM o.vk o.vn o.vs
  else if (o.k ≠ 1 ∧ zeroV o = false) ∨ (o.k ≠ 2 ∧ o.nm.toList ≠ []) then 6 else if o.k = 2 ∧ nameM o.nm ≠ 0 then nameM o.nm else if h < popsM o.k then 7 else 0
theorem step_in (o : OP) (h : Int) (h1 : 1 ≤ o.k) (h2 : o.k ≤ 11) : stepM o h = if litM o.vk o.vn o.vs ≠ 0 then litM o.vk o.vn o.vs
  else if (o.k ≠ 1 ∧ zeroV o = false) ∨ (o.k ≠ 2 ∧ o.nm.toList ≠ []) then 6 else if o.k = 2 ∧ nameM o.nm ≠ 0 then nameM o.nm else if h < popsM o.k then 7 else 0 := by
  unfold stepM; rw [if_neg (by omega)]
theorem step_out (o : OP) (h : Int) (h1 : o.k < 1 ∨ 11 < o.k) : stepM o h = 2 := by unfold stepM; rw [if_pos h1]
def exprFrom : List OP → Int → Int
  | [], h => if h ≠ 1 then 7 else 0
  | o :: r, h => if stepM o h ≠ 0 then stepM o h else exprFrom r (h + 1 - popsM o.k)
def exprM (l : List OP) : Int := if 40 < l.length then 10 else exprFrom l 0
theorem drop_cons' {α : Type} {l : List α} {k : Nat} {x : α} (h : l[k]? = some x) : l.drop k = x :: l.drop (k + 1) := by
  obtain ⟨hk, he⟩ := List.getElem?_eq_some_iff.1 h
  rw [List.drop_eq_getElem_cons hk, he]
theorem ret_eq {a b : Int} (h : a = b) : Ending.returned (.int .i64 b) = .returned (.int .i64 a) := by rw [h]
end Go.Proofs.YteebiklebedneaaDoor
/- The reference's ExpressionFault; the law. -/
namespace Go.Proofs.YteebiklebedneaaDoor
open Go.RowKit
end Go.Proofs.YteebiklebedneaaDoor
/- Plain laws: what stands behind what it works on: trees of ops, their rows, where a part begins. -/
namespace Go.AM
section
variable {α : Type}
/-- A tree of ops. -/
inductive RT (α : Type) where
  | l (o : α)
  | u (o : α) (t : RT α)
  | b (o : α) (s t : RT α)
def RT.flat : RT α → List α
  | .l o => [o]
  | .u o t => t.flat ++ [o]
  | .b o s t => s.flat ++ t.flat ++ [o]
def RT.wf (ar : α → Nat) : RT α → Prop
  | .l o => ar o = 0
  | .u o t => ar o = 1 ∧ t.wf ar
  | .b o s t => ar o = 2 ∧ s.wf ar ∧ t.wf ar
/-- How high the stack is behind a row of ops. -/
def hgt (ar : α → Nat) : List α → Nat → Option Nat
  | [], h => some h
  | o :: r, h => if h < ar o then none else hgt ar r (h + 1 - ar o)
theorem list_last {β : Type} {l : List β} {n : Nat} (h : l.length = n + 1) : ∃ p x, l = p ++ [x] ∧ p.length = n :=
  ⟨l.dropLast, l.getLast (by intro e; subst e; simp at h), (List.dropLast_concat_getLast _).symm, by simp [h]⟩
theorem hgt_forest (ar : α → Nat) (har : ∀ o, ar o ≤ 2) : ∀ (l : List α) (ts : List (RT α)) (n : Nat), (∀ t ∈ ts, t.wf ar) → hgt ar l ts.length = some n → ∃ us : List (RT α), us.length = n ∧ (∀ t ∈ us, t.wf ar) ∧ ts.flatMap RT.flat ++ l = us.flatMap RT.flat
  | [], ts, n, hw, h => by simp [hgt] at h; exact ⟨ts, h, hw, by simp⟩
  | o :: r, ts, n, hw, h => by
    unfold hgt at h
    split at h
    · cases h
    rename_i hlt
    have h2 := har o
    match ho : ar o, h2 with
    | 0, _ =>
      obtain ⟨us, h1, h3, h4⟩ := hgt_forest ar har r (ts ++ [.l o]) n (by
        intro t ht; simp at ht; rcases ht with ht | rfl
        · exact hw t ht
        · exact ho) (by rw [ho] at h; simpa using h)
      exact ⟨us, h1, h3, by rw [← h4]; simp [RT.flat]⟩
    | 1, _ =>
      obtain ⟨p, x, rfl, hp⟩ := list_last (n := ts.length - 1) (l := ts) (by omega)
      obtain ⟨us, h1, h3, h4⟩ := hgt_forest ar har r (p ++ [.u o x]) n (by
        intro t ht; simp at ht; rcases ht with ht | rfl
        · exact hw t (by simp [ht])
        · exact ⟨ho, hw x (by simp)⟩) (by rw [ho] at h; simpa using h)
      exact ⟨us, h1, h3, by rw [← h4]; simp [RT.flat]⟩
    | 2, _ =>
      obtain ⟨p, x, rfl, hp⟩ := list_last (n := ts.length - 1) (l := ts) (by omega)
      obtain ⟨q, y, rfl, hq⟩ := list_last (n := p.length - 1) (l := p) (by simp at hlt; omega)
      obtain ⟨us, h1, h3, h4⟩ := hgt_forest ar har r (q ++ [.b o y x]) n (by
        intro t ht; simp at ht; rcases ht with ht | rfl
        · exact hw t (by simp [ht])
        · exact ⟨ho, hw y (by simp), hw x (by simp)⟩) (by
          rw [ho] at h
          have e : (q ++ [y] ++ [x]).length + 1 - 2 = (q ++ [RT.b o y x]).length := by simp
          rw [e] at h; exact h)
      exact ⟨us, h1, h3, by rw [← h4]; simp [RT.flat]⟩
theorem tree_of {ar : α → Nat} (har : ∀ o, ar o ≤ 2) {l : List α} (h : hgt ar l 0 = some 1) : ∃ t : RT α, t.wf ar ∧ t.flat = l := by
  obtain ⟨us, h1, h2, h3⟩ := hgt_forest ar har l [] 1 (by simp) h
  match us, h1 with
  | [t], _ => exact ⟨t, h2 t (by simp), by simpa using h3.symm⟩
theorem RT.flat_pos : ∀ t : RT α, 0 < t.flat.length
  | .l o => by simp [flat]
  | .u o t => by simp [flat]
  | .b o s t => by simp [flat]; omega
/-- How many ops stand in the last of the parts, from behind. -/
def cnt (ar : α → Nat) : List α → Nat → Nat
  | _, 0 => 0
  | [], _ + 1 => 0
  | o :: r, n + 1 => 1 + cnt ar r (n + ar o)
theorem cnt_flat (ar : α → Nat) : ∀ (t : RT α) (rest : List α) (n : Nat), t.wf ar → cnt ar (t.flat.reverse ++ rest) (n + 1) = t.flat.length + cnt ar rest n
  | .l o, rest, n, h => by simp only [RT.wf] at h; simp [RT.flat, cnt, h]
  | .u o t, rest, n, h => by
    obtain ⟨h1, h2⟩ := h
    simp only [RT.flat, List.reverse_append, List.reverse_cons, List.reverse_nil, List.nil_append, List.cons_append, cnt, h1, List.length_append, List.length_cons, List.length_nil]
    rw [cnt_flat ar t rest n h2]; omega
  | .b o s t, rest, n, h => by
    obtain ⟨h1, h2, h3⟩ := h
    simp only [RT.flat, List.reverse_append, List.reverse_cons, List.reverse_nil, List.nil_append, List.cons_append, List.append_assoc, cnt, h1, List.length_append, List.length_cons, List.length_nil]
    rw [cnt_flat ar t _ (n + 1) h3, cnt_flat ar s rest n h2]; omega
/-- Where what ends ahead of a place begins. -/
def begM (ar : α → Nat) (l : List α) (e : Nat) : Nat := e - cnt ar (l.take e).reverse 1
theorem begM_tree {ar : α → Nat} (pre : List α) (t : RT α) (post : List α) (h : t.wf ar) : begM ar (pre ++ t.flat ++ post) (pre.length + t.flat.length) = pre.length := by
  have e : (pre ++ t.flat ++ post).take (pre.length + t.flat.length) = pre ++ t.flat := by
    rw [← List.length_append, List.take_left]
  rw [begM, e, List.reverse_append]
  have := cnt_flat ar t pre.reverse 0 h
  simp only [Nat.zero_add] at this
  rw [this]
  simp [cnt]
end
end Go.AM
/- Statements: plain laws; contracts of what the walks of old have shown. -/
namespace Go.AM
open Go Go.RowKit
open Go.Proofs.YteebiklebedneaaDoor (OP nameM litM exprM marksS wordsS StrsAt str)
attribute [local irreducible] AWP retA
def eO (o : OP) : List AV := [.r (.int .i64 o.k), .r (.int .i64 o.vk), .r (.int .i64 o.vn), .r (.string o.vs), .r (.string o.nm)]
/-- A statement. -/
structure ST where
  k : Int
  tab : ByteArray
  cols : List CO
  row : List V
  names : List ByteArray
  count : Bool
  wh : List OP
  ord : ByteArray
  down : Bool
  lim : Int
  set : ByteArray
  to : List OP
def eST (s : ST) : List AV := [.r (.int .i64 s.k), .r (.string s.tab), .ro true 2 (s.cols.map eC), .ro true 3 (s.row.map eV), .ro true 1 (s.names.map eStr), .r (.bool s.count), .ro true 5 (s.wh.map eO), .r (.string s.ord), .r (.bool s.down), .r (.int .i64 s.lim), .r (.string s.set), .ro true 5 (s.to.map eO)]
def colsFrom : List CO → List CO → Int
  | _, [] => 0
  | p, c :: r => if nameM c.nm ≠ 0 then nameM c.nm else if c.k < 1 ∨ 3 < c.k then 2 else if p.any (fun x => x.nm.toList == c.nm.toList) then 9 else colsFrom (p ++ [c]) r
def colsM (l : List CO) : Int := if l.length < 1 ∨ 6 < l.length then 1 else colsFrom [] l
def rowFrom : List V → Int
  | [] => 0
  | v :: r => if litM v.k v.n v.s ≠ 0 then litM v.k v.n v.s else rowFrom r
def rowM (l : List V) : Int := if l.length < 1 ∨ 6 < l.length then 1 else rowFrom l
def namesM : List ByteArray → Int
  | [] => 0
  | s :: r => if nameM s ≠ 0 then nameM s else namesM r
def whereM (l : List OP) : Int := if l.length = 0 then 0 else exprM l
/-- The package's tables. -/
def typesV : List ByteArray := [str [], str [66, 79, 79, 76], str [73, 78, 84], str [84, 69, 88, 84]]
theorem strs_of {G : List (Nat × List Value)} {w : World} {g : Nat} {ss : List ByteArray} (h : Globs G w) (hm : (g, ss.map .string) ∈ G) : StrsAt w g ss ∧ g < w.heap.size :=
  ⟨fun j hj => (h _ _ hm).2 j _ (by simp [hj]), (h _ _ hm).1⟩
/-- What may be the size of a text. -/
abbrev okS (s : ByteArray) : Prop := s.size ≤ maxLen
theorem agg_r {w : World} {z : Zone} {th : List NLoc} {us : List Value} {v : Value} (h : Rep w z th (.agg (us.map .r)) v) : v = .agg us.toArray := by
  obtain ⟨ys, rfl, hc⟩ := h.agg_inv
  have : ys = us := by
    apply List.ext_getElem?
    intro i
    cases hi : us[i]? with
    | none => rw [List.getElem?_eq_none_iff] at hi ⊢; rw [hc.1]; simpa using hi
    | some u =>
      obtain ⟨y, h1, h2⟩ := hc.get (show (us.map AV.r)[i]? = some (.r u) by rw [List.getElem?_map, hi]; rfl)
      rw [h1, h2.r_inv]
  rw [this]
end Go.AM
/- Statements: the program's columns, tokens and lists. -/
namespace Go.AM
open Go Go.RowKit
open Go.Proofs.YteebiklebedneaaDoor (OP nameM litM exprM marksS wordsS StrsAt str)
attribute [local irreducible] AWP retA
def idxM {α : Type} (p : α → Bool) : List α → Nat → Int
  | [], _ => -1
  | x :: r, k => if p x = true then (k : Int) else idxM p r (k + 1)
theorem idxM_any {α : Type} (p : α → Bool) : ∀ (l : List α) (k : Nat), decide (idxM p l k ≥ 0) = l.any p
  | [], k => by simp [idxM]
  | x :: r, k => by
    unfold idxM
    by_cases e : p x = true
    · simp [e]
    · rw [if_neg e, idxM_any p r (k + 1)]; simp [e]
def sameN (c x : CO) : Bool := x.nm.toList == c.nm.toList
theorem colsFrom_step {l : List CO} {k : Nat} {c : CO} (h : l[k]? = some c) : colsFrom (l.take k) (l.drop k) = if nameM c.nm ≠ 0 then nameM c.nm else if c.k < 1 ∨ 3 < c.k then 2 else if (l.take k).any (sameN c) then 9 else colsFrom (l.take (k + 1)) (l.drop (k + 1)) := by
  rw [drop_at h, colsFrom, List.take_add_one, h]; rfl
def wordT (s : ByteArray) : TK0 := ⟨1, s, 0⟩
def markT (s : ByteArray) : TK0 := ⟨4, s, 0⟩
def eTs (ts : List TK0) : List AV := [.ro true 3 (ts.map eT)]
/-- Lists with commas between. -/
def commas : List (List TK0) → List TK0
  | [] => []
  | [t] => t
  | t :: r => t ++ markT (str [44]) :: commas r
def listM (l : List (List TK0)) : List TK0 := markT (str [40]) :: commas l ++ [markT (str [41])]
theorem commas_cc (x y : List TK0) (z : List (List TK0)) : commas (x :: y :: z) = x ++ markT (str [44]) :: commas (y :: z) := rfl
theorem commas_snoc : ∀ (l : List (List TK0)) (t : List TK0), l ≠ [] → commas (l ++ [t]) = commas l ++ markT (str [44]) :: t
  | [], t, h => (h rfl).elim
  | [a], t, _ => by simp [commas]
  | a :: b :: r, t, _ => by
    have := commas_snoc (b :: r) t (by simp)
    simp only [List.cons_append] at this ⊢
    rw [commas_cc, this, commas_cc]; simp
theorem commas_len : ∀ (l : List (List TK0)), (∀ x ∈ l, x.length ≤ 1000) → (commas l).length ≤ 1001 * l.length
  | [], _ => by simp [commas]
  | [a], h => by have := h a (by simp); simp [commas]; omega
  | a :: b :: r, h => by
    have h1 := h a (by simp)
    have := commas_len (b :: r) (fun x hx => h x (by simp [hx]))
    rw [commas_cc]; simp at this ⊢; omega
def listO (l : List (List TK0)) : List TK0 := markT (str [40]) :: commas l
theorem listO_nil : listO [] = [markT (str [40])] := rfl
theorem listO_one {l : List (List TK0)} {x : List TK0} (h : l[0]? = some x) : listO (l.take 1) = listO [] ++ x := by
  have : l.take 1 = [x] := by rw [List.take_add_one, h]; rfl
  rw [this]; simp [listO, commas]
theorem listO_more {l : List (List TK0)} {k : Nat} {x : List TK0} (h : l[k]? = some x) (hk : 0 < k) : listO (l.take (k + 1)) = listO (l.take k) ++ [markT (str [44])] ++ x := by
  have hl : k < l.length := (List.getElem?_eq_some_iff.1 h).1
  rw [List.take_add_one, h, Option.toList, listO, commas_snoc _ _ (by intro e; have := congrArg List.length e; simp only [List.length_take, List.length_nil] at this; omega)]; simp [listO]
end Go.AM
/- Statements: what the program checks of their parts. -/
namespace Go.AM
open Go Go.RowKit
open Go.Proofs.YteebiklebedneaaDoor (OP nameM litM exprM marksS wordsS StrsAt str SlAt)
attribute [local irreducible] AWP retA
theorem slAt_of_ro {α : Type} {w : World} {z : Zone} {t : Bool} {k : Nat} {l : List α} {v : Value} (enc : α → List Value) (encA : α → List AV) (he : ∀ x, encA x = (enc x).map .r) (hz : ∀ t b, z t b → b < w.heap.size) (h : Rep w z [] (.ro t k (l.map encA)) v) :
    ∃ a cap, v = .slice a l.length cap ∧ SlAt w k enc a l := by
  obtain ⟨ad, c, rfl, hc, hn | ⟨b, o, rfl, hzb, hcell⟩⟩ := h.ro_inv
  · have : l = [] := by simpa using hn
    subst this; exact ⟨ad, c, rfl, .inl rfl⟩
  · refine ⟨_, c, by simp, .inr ⟨b, o, rfl, hz _ _ hzb, fun j x hj i u hi => ?_⟩⟩
    obtain ⟨h1, h2⟩ := hcell j (encA x) (by rw [List.getElem?_map, hj]; rfl)
    obtain ⟨y, hy, hr⟩ := h2 i (.r u) (by rw [he, List.getElem?_map, hi]; rfl)
    rw [hy, show y = u from hr.1.r_inv]
def okO1 (o : OP) : Prop := okS o.vs ∧ okS o.nm
theorem rowFrom_step {l : List V} {k : Nat} {v : V} (h : l[k]? = some v) : rowFrom (l.drop k) = if litM v.k v.n v.s ≠ 0 then litM v.k v.n v.s else rowFrom (l.drop (k + 1)) := by rw [drop_at h, rowFrom]
theorem namesM_step {l : List ByteArray} {k : Nat} {s : ByteArray} (h : l[k]? = some s) : namesM (l.drop k) = if nameM s ≠ 0 then nameM s else namesM (l.drop (k + 1)) := by rw [drop_at h, namesM]
def bareB (s h : ST) : Bool := (s.tab.toList == h.tab.toList) && ((s.cols.length : Int) == (h.cols.length : Int)) && ((s.row.length : Int) == (h.row.length : Int)) && ((s.names.length : Int) == (h.names.length : Int)) && (s.count == h.count) && ((s.wh.length : Int) == (h.wh.length : Int)) && (s.ord.toList == h.ord.toList) && (s.down == h.down) && (s.lim == h.lim) && (s.set.toList == h.set.toList) && ((s.to.length : Int) == (h.to.length : Int))
end Go.AM
/- Statements: the reference's tokens out of texts. -/
namespace Go.AM
open Go Go.RowKit
open Go.Proofs.YteebiklebedneaaDoor (OP nameM litM exprM marksS wordsS StrsAt str SlAt letB wrdB digB bt)
attribute [local irreducible] AWP retA
theorem str_get (l : List UInt8) (i : Nat) : (str l)[i]? = l[i]? := by
  by_cases h : i < l.length
  · have h1 : i < (str l).size := h
    rw [getElem?_def, dif_pos h1, List.getElem?_eq_getElem h]; rfl
  · have h1 : ¬ i < (str l).size := h
    rw [getElem?_def, dif_neg h1, List.getElem?_eq_none (by omega)]
theorem str_size (l : List UInt8) : (str l).size = l.length := by simp [str, ByteArray.size]
theorem ba_ext {a b : ByteArray} (h : a.toList = b.toList) : a = b := by
  rw [Go.Proofs.YteebiklebedneaaDoor.eq_str a, Go.Proofs.YteebiklebedneaaDoor.eq_str b, h]
theorem str_app (a b : List UInt8) : str a ++ str b = str (a ++ b) := by
  apply ba_ext
  rw [Go.Proofs.YteebiklebedneaaDoor.mk_toList, ByteArray.toList_eq, ByteArray.data_append]
  simp [str]
theorem str_ext (l : List UInt8) (i j : Nat) : (str l).extract i j = str ((l.take j).drop i) := by
  apply ba_ext
  rw [Go.Proofs.YteebiklebedneaaDoor.mk_toList, ByteArray.toList_eq]
  simp [str, ByteArray.data_extract, List.drop_take]
def emit : List UInt8 → List TK0
  | [] => []
  | c :: r => [⟨if letB c.toNat = true then 1 else 4, str (c :: r), 0⟩]
def toksG : List UInt8 → List UInt8 → List TK0
  | cur, [] => emit cur
  | cur, c :: r => if c = 32 then emit cur ++ toksG [] r else toksG (cur ++ [c]) r
def toksM (l : List UInt8) : List TK0 := toksG [] l
theorem toksG_word : ∀ (w cur r : List UInt8), (∀ c ∈ w, c ≠ 32) → toksG cur (w ++ r) = toksG (cur ++ w) r
  | [], cur, r, _ => by simp
  | c :: w, cur, r, h => by
    rw [List.cons_append, toksG, if_neg (h c (by simp)), toksG_word w (cur ++ [c]) r (fun x hx => h x (by simp [hx]))]; simp
theorem toksG_blank (cur r : List UInt8) : toksG cur (32 :: r) = emit cur ++ toksG [] r := by rw [toksG, if_pos rfl]
theorem toksG_len : ∀ (l cur : List UInt8), (toksG cur l).length ≤ l.length + 1
  | [], cur => by cases cur <;> simp [toksG, emit]
  | c :: r, cur => by
    rw [toksG]
    split
    · have := toksG_len r []
      cases cur <;> simp [emit] <;> omega
    · have := toksG_len r (cur ++ [c]); simp; omega
theorem wordByte_con (G : List (Nat × List Value)) (c : UInt8) : Con Go.Proofs.Tryd.prog G 70 [.r (.int .u8 c.toNat)] [] 0 (Is (.r (.bool (letB c.toNat))) [] 0) No :=
  con_of_calls (by kernel_rfl) (fun w z vs hz hr hG => by
    obtain ⟨v, r, rfl, h1, h2⟩ := hr.head
    obtain rfl := h1.r_inv
    obtain rfl := h2.of_nil
    have := c.toNat_lt
    exact (Go.Proofs.YteebiklebedneaaDoor.wordByte_any c.toNat w (by omega) (by omega)).mono (fun e w' ⟨he, hw⟩ => by subst hw; exact ⟨he, Below.refl _ _⟩))
def toksI (l : List UInt8) (q : Nat × Nat × List TK0) : Prop := q.2.1 ≤ q.1 ∧ q.1 ≤ l.length + 1 ∧ q.2.2.length ≤ q.1 ∧ (q.1 ≤ l.length → q.2.2 ++ toksG ((l.take q.1).drop q.2.1) (l.drop q.1) = toksM l) ∧ (q.1 = l.length + 1 → q.2.2 = toksM l)
theorem toks_next {l : List UInt8} {i : Nat} {out : List TK0} {q : List TK0} (hi : i < l.length) (h3 : out.length ≤ i) (hq : q.length ≤ out.length + 1) (h : q ++ toksG [] (l.drop (i + 1)) = toksM l) : toksI l (i + 1, i + 1, q) :=
  ⟨Nat.le_refl _, by simp only; omega, by simp only; omega, fun _ => by simp only; rw [List.drop_of_length_le (by simp; omega)]; exact h, fun e => by simp only at e; omega⟩
theorem cur_cons {l : List UInt8} {fr i : Nat} {c : UInt8} (hf : fr < i) (h : l[fr]? = some c) : ∃ tl, (l.take i).drop fr = c :: tl := by
  have : (l.take i)[fr]? = some c := by rw [List.getElem?_take_of_lt hf]; exact h
  exact ⟨_, drop_at this⟩
end Go.AM
/- Statements: values as tokens, both ways. -/
namespace Go.AM
open Go Go.RowKit
open Go.Proofs.YteebiklebedneaaDoor (OP nameM litM exprM marksS wordsS StrsAt str SlAt letB wrdB digB bt vcheck)
attribute [local irreducible] AWP retA
def nullS : ByteArray := str [78, 85, 76, 76]
def trueS : ByteArray := str [84, 82, 85, 69]
def falseS : ByteArray := str [70, 65, 76, 83, 69]
def valT (v : V) : List TK0 :=
  if v.k = 0 then [wordT nullS] else if v.k = 1 then (if v.n = 1 then [wordT trueS] else [wordT falseS]) else if v.k = 3 then [⟨3, v.s, 0⟩] else if v.n < 0 then [markT (str [45]), ⟨2, str [], -v.n⟩] else [⟨2, str [], v.n⟩]
inductive GoodV (v : V) : Prop
  | null (h : v.k = 0)
  | bool (h : v.k = 1) (h1 : v.n = 0 ∨ v.n = 1) (hs : v.s = str [])
  | int (h : v.k = 2) (h1 : -9223372036854775808 < v.n)
  | text (h : v.k = 3)
theorem str_nil_of {s : ByteArray} (h : s.toList = []) : s = str [] := by rw [Go.Proofs.YteebiklebedneaaDoor.eq_str s, h]
theorem good_lit {v : V} (hw : -9223372036854775808 ≤ v.n) (h : litM v.k v.n v.s = 0) : GoodV v := by
  unfold litM at h
  split at h
  · cases h
  rename_i h1
  unfold vcheck at h
  split at h
  · exact .null (by assumption)
  split at h
  · rename_i hk
    split at h
    · cases h
    · rename_i h2
      have h3 : v.s.toList = [] := Classical.byContradiction fun h => h2 (.inr (.inr h))
      exact .bool hk (by omega) (str_nil_of h3)
  split at h
  · rename_i hk; exact .int hk (by omega)
  split at h
  · rename_i hk; exact .text hk
  · cases h
theorem valT_len (v : V) : (valT v).length ≤ 2 := by
  unfold valT
  repeat' split
  all_goals simp
theorem toks_null : toksM [78, 85, 76, 76] = [wordT nullS] := rfl
theorem toks_true : toksM [84, 82, 85, 69] = [wordT trueS] := rfl
theorem toks_false : toksM [70, 65, 76, 83, 69] = [wordT falseS] := rfl
theorem toks_minus : toksM [45] = [markT (str [45])] := rfl
end Go.AM
/- The reference's TokensJoined. -/
namespace Go.AM
open Go Go.RowKit
attribute [local irreducible] AWP retA
theorem dig_wrap {n : Nat} (h : n < 10) : IntKind.u8.wrap (48 + (n : Int)) = ((UInt8.ofNat (48 + n)).toNat : Int) := by
  rw [u8_wrap, UInt8.toNat_ofNat']; omega
theorem unb_one (b : UInt8) : unb [[.r (.int .u8 b.toNat)]] = some [b] := unb_map [b]
theorem decD_len : ∀ n : Nat, (Lib.decDigits n).length ≤ n + 1 := by
  intro n
  induction n using Nat.strongRecOn with
  | _ n ih =>
    by_cases h : n < 10
    · rw [Lib.decDigits_one h]; simp
    · rw [show Lib.decDigits n = Lib.decDigits (n / 10) ++ [UInt8.ofNat (48 + n % 10)] by rw [Lib.decDigits, dif_neg h]]
      have := ih (n / 10) (by omega)
      simp; omega
set_option maxRecDepth 100000 in
set_option maxHeartbeats 4000000 in
theorem dec_con (G : List (Nat × List Value)) : ∀ n : Nat, n ≤ 9223372036854775807 → Con Go.Proofs.Tryd.prog G 40 [.r (.int .i64 n)] [] 0 (Is (.r (.string ⟨(Lib.decDigits n).toArray⟩)) [] 0) No := by
  intro n
  induction n using Nat.strongRecOn with
  | _ n ih =>
    intro hn
    by_cases h : n < 10
    · have d1 : decide ((n : Int) < 10) = true := decide_eq_true (by omega)
      have w1 := dig_wrap h
      rw [Lib.decDigits_one h]
      refine con_of_awp Go.Proofs.Tryd.func40 rfl (by kernel_rfl) (of_decide_eq_true (by kernel_rfl)) ?_; intro E hG hE; subst hG; simp only [ent]
      (repeat' (first | refine awp_seq ?_ | refine awp_block ?_ | refine awp_skip ?_ | refine awp_exit ?_ | ((first | refine rR (fun K kp hK hkp => ?_) | refine rU (id := 3) mixed 11 [⟨0, 0, [], [(0, 1)]⟩, ⟨0, 0, [0], [(0, 1)]⟩, ⟨0, 0, [0, 1], [(0, 1)]⟩, ⟨0, 0, [], [(0, 1)]⟩, ⟨0, 0, [3], [(0, 1)]⟩, ⟨0, 0, [3, 4], [(0, 1)]⟩, ⟨0, 0, [3, 4, 5], [(0, 1)]⟩, ⟨0, 1, [3, 4, 5, 6], []⟩, ⟨1, 0, [3, 4, 5, 6, 7], []⟩, ⟨1, 0, [0, 1, 2, 3, 4, 5, 6, 7, 8], []⟩, ⟨1, 0, [0, 1, 2, 3, 4, 5, 6, 7, 8, 9], []⟩] 1 [10, 11, 12, 13, 14, 15, 16, 17, 18, 19, 2] [] (fun K kp hK hkp => ?_) | refine iG ?_ | refine iD ?_); simp (implicitDefEqProofs := false) (maxSteps := 2000000) (disch := omega) only [go_sem, d1, w1, unb_one]; (repeat' (first | (refine hK _ ?_; clear hK hkp kp K) | (with_reducible refine And.intro ?_ ?_) | omega))) | ((first | refine aG (fun h => ?_) (fun h => ?_) | refine aD (fun h => ?_) (fun h => ?_) | refine aX (fun h => ?_) (fun h => ?_)) <;> simp only [h]) | refine awp_cond_t rfl ?_ | refine awp_cond_f rfl ?_ | ((refine awp_cond rfl (fun h => ?_) (fun h => ?_) <;> try simp only [ifs] at h) <;> (try (exfalso; omega))) | refine awp_ret ?_))
      (refine retA_is (by (simp (implicitDefEqProofs := false) (maxSteps := 2000000) (disch := omega) only [go_sem, Go.Proofs.Tryd.results40]); rfl) ?_; refine eN hE ?_; simp [oneA, ren, renL])
    · have d1 : decide ((n : Int) < 10) = false := decide_eq_false (by omega)
      have ic := ih (n / 10) (by omega) (by omega)
      have w1 := dig_wrap (n := n % 10) (by omega)
      have e1 : IntKind.i64.wrap ((n : Int).tdiv 10) = ((n / 10 : Nat) : Int) := by
        rw [Int.tdiv_eq_ediv_of_nonneg (by omega), wrapA (by omega) (by omega)]; omega
      have e2 : (n : Int).tmod 10 = ((n % 10 : Nat) : Int) := by
        rw [Int.tmod_eq_emod_of_nonneg (by omega)]; omega
      have hD : (⟨(Lib.decDigits n).toArray⟩ : ByteArray) = (⟨(Lib.decDigits (n / 10)).toArray⟩ : ByteArray) ++ ⟨[UInt8.ofNat (48 + n % 10)].toArray⟩ := by
        rw [show Lib.decDigits n = Lib.decDigits (n / 10) ++ [UInt8.ofNat (48 + n % 10)] by rw [Lib.decDigits, dif_neg h]]
        apply ByteArray.ext; simp [ByteArray.data_append]
      have dl := decD_len (n / 10)
      have z1 : ((Lib.decDigits (n / 10)).toArray.size + #[UInt8.ofNat (48 + n % 10)].size ≤ 9223372036854775807) = True := eq_true (by simp; omega)
      rw [hD]
      refine con_of_awp Go.Proofs.Tryd.func40 rfl (by kernel_rfl) (of_decide_eq_true (by kernel_rfl)) ?_; intro E hG hE; subst hG; simp only [ent]
      (repeat' (first | refine awp_seq ?_ | refine awp_block ?_ | refine awp_skip ?_ | refine awp_exit ?_ | ((first | refine rR (fun K kp hK hkp => ?_) | refine rU (id := 3) mixed 11 [⟨0, 0, [], [(0, 1)]⟩, ⟨0, 0, [0], [(0, 1)]⟩, ⟨0, 0, [0, 1], [(0, 1)]⟩, ⟨0, 0, [], [(0, 1)]⟩, ⟨0, 0, [3], [(0, 1)]⟩, ⟨0, 0, [3, 4], [(0, 1)]⟩, ⟨0, 0, [3, 4, 5], [(0, 1)]⟩, ⟨0, 1, [3, 4, 5, 6], []⟩, ⟨1, 0, [3, 4, 5, 6, 7], []⟩, ⟨1, 0, [0, 1, 2, 3, 4, 5, 6, 7, 8], []⟩, ⟨1, 0, [0, 1, 2, 3, 4, 5, 6, 7, 8, 9], []⟩] 1 [10, 11, 12, 13, 14, 15, 16, 17, 18, 19, 2] [] (fun K kp hK hkp => ?_) | refine cR ic ?_ | refine cD ic ?_ | refine cU ic ?_ | refine iG ?_ | refine iD ?_); simp (implicitDefEqProofs := false) (maxSteps := 2000000) (disch := omega) only [go_sem, d1, e1, e2, w1, unb_one, z1]; (repeat' (first | (refine hK _ ?_; clear hK hkp kp K) | (with_reducible refine And.intro ?_ ?_) | omega))) | ((first | refine aG (fun h => ?_) (fun h => ?_) | refine aD (fun h => ?_) (fun h => ?_) | refine aX (fun h => ?_) (fun h => ?_)) <;> simp only [h]) | refine awp_cond_t rfl ?_ | refine awp_cond_f rfl ?_ | ((refine awp_cond rfl (fun h => ?_) (fun h => ?_) <;> try simp only [ifs] at h) <;> (try (exfalso; omega))) | refine awp_ret ?_))
      (refine retA_is (by (simp (implicitDefEqProofs := false) (maxSteps := 2000000) (disch := omega) only [go_sem, Go.Proofs.Tryd.results40]); rfl) ?_; refine eN hE ?_; simp [oneA, ren, renL])
end Go.AM
/- The abstract machine: calls of the library that rewrite one own row of plain cells. -/
namespace Go.AM
open Go Go.RowKit Go.Sort
/-- One own thing, rewritten in its place. -/
theorem mem_one {w w' : World} {own : Nat → Prop} {z : Zone} {G : List (Nat × List Value)} {L : NLoc} {nd nd' : Nd} (hm : Mem ⟨w, own, z, G, [L]⟩ [(0, nd)] 1 [L] z w) (ho : own L.b) (hp : L.ph = false) (hs : w.heap.size ≤ w'.heap.size)
    (hb : ∀ b, b < w.heap.size → b ≠ L.b → w'.heap[b]? = w.heap[b]?) (hy : Sys w w') (hn : NdAt w' z [L] L nd') : Mem ⟨w, own, z, G, [L]⟩ [(0, nd')] 1 [L] z w' := by
  obtain ⟨M, e1, _, e3⟩ := hm.nds 0 nd rfl
  obtain rfl : L = M := by simpa using e1
  obtain ⟨e4, e5, _⟩ := e3 hp
  refine ⟨rfl, fun i x hi => ?_, fun i j x y A B hi hj hA hB _ _ _ => ?_, fun t b hz => Nat.lt_of_lt_of_le (hm.zlt t b hz) hs, hs, fun b hb1 hb2 => hb b hb1 (fun e => hb2 (e ▸ ho)), fun t b h => h, fun b h => .inl h, fun b h => h, fun g cs hg => ?_, fun i M h => h, hy⟩
  · simp only [lk] at hi
    by_cases h0 : 0 = i
    · subst h0; rw [if_pos rfl] at hi; cases hi
      exact ⟨L, rfl, hn, fun _ => ⟨Nat.lt_of_lt_of_le e4 hs, e5, .inl ho⟩⟩
    · rw [if_neg h0] at hi; cases hi
  · simp only [lk] at hi hj
    by_cases h0 : 0 = i
    · by_cases h1 : 0 = j
      · omega
      · rw [if_neg h1] at hj; cases hj
    · rw [if_neg h0] at hi; cases hi
  · obtain ⟨h1, h2⟩ := hm.globs g cs hg
    exact ⟨h1, fun j u hu => (cell_heap (hb g (hm.zlt _ _ h1) (fun e => e5 true (e ▸ h1))) j).trans (h2 j u hu)⟩
theorem reps_r {w : World} {z : Zone} {th : List NLoc} : ∀ {us vs : List Value}, Reps w z th (us.map .r) vs → vs = us
  | [], vs, h => h.of_nil
  | u :: r, vs, h => by
    obtain ⟨y, ys, rfl, h1, h2⟩ := h.head
    rw [h1.r_inv, reps_r h2]
theorem putRow_at {α : Type} [Inhabited α] {enc : α → Value} {w : World} {b off n : Nat} {d : Array α} {os : Array Obj} {cells : Array Value} {T : TypeId} {fr : Nat × Nat} (h : w.heap[b]? = some (.cells cells T fr)) :
    (grow (putRow enc (Go.Sort.ahead w n) b off d) os).heap[b]? = some (.cells (putCells enc off d cells) T fr) := by
  have hb : b < w.heap.size := (Array.getElem?_eq_some_iff.1 h).1
  simp only [grow]
  rw [Array.getElem?_append_left (by simpa [putRow, mapBlock] using hb)]
  simp [putRow, mapBlock, Array.getElem?_modify, h, onCells]
theorem putRow_else {α : Type} [Inhabited α] {enc : α → Value} {w : World} {b off n : Nat} {d : Array α} {os : Array Obj} {k : Nat} (hk : k < w.heap.size) (hn : k ≠ b) :
    (grow (putRow enc (Go.Sort.ahead w n) b off d) os).heap[k]? = w.heap[k]? := by
  simp only [grow]
  rw [Array.getElem?_append_left (by simpa [putRow, mapBlock] using hk)]
  simp [putRow, mapBlock, Array.getElem?_modify, Ne.symm hn]
theorem putRow_size {α : Type} [Inhabited α] {enc : α → Value} {w : World} {b off n : Nat} {d : Array α} {os : Array Obj} : w.heap.size ≤ (grow (putRow enc (Go.Sort.ahead w n) b off d) os).heap.size := by
  simp [grow, putRow, mapBlock]
def eEnc {α : Type} (enc : α → Value) (x : α) : List AV := [.r (enc x)]
/-- A call that rewrites an own row of plain cells in its place and gives back a head of it (or what else a function of the slice says). -/
theorem con_put {α : Type} [Inhabited α] {P : Program} {G : List (Nat × List Value)} {f : Nat} {T : TypeId} (hok : okFn P f = true) (enc : α → Value) (h1 : ∀ x, (enc x).oneCell' = true) (us : List Value) (l l' lr : List α) (hl : l'.length = l.length) (hlr : ∀ (i : Nat) y, lr[i]? = some y → l'[i]? = some y) (m : Nat) (hm : m ≤ l.length) (y : AV) (rv : Option Addr → Nat → Value) (hy : (y = .s 0 0 m ∧ rv = fun a c => .slice a m c) ∨ ∃ u, y = .r u ∧ rv = fun _ _ => u)
    (h0 : l = [] → ∀ w, Calls P f (.slice none 0 0 :: us).toArray w fun e w' => e = .returned (rv none 0) ∧ w' = w)
    (h : ∀ (w : World) (b off c : Nat), Holds enc w b off l.toArray → b < w.heap.size → l.length ≤ c → Calls P f (.slice (some ⟨b, off, none⟩) l.length c :: us).toArray w fun e w' => e = .returned (rv (some ⟨b, off, none⟩) c) ∧ ∃ n os, w' = grow (putRow enc (Go.Sort.ahead w n) b off l'.toArray) os) :
    Con P G f (.s 0 0 l.length :: us.map .r) [(0, .lst T 1 (l.map (eEnc enc)))] 1 (Is y [(0, .lst T 1 (lr.map (eEnc enc)))] 1) No := by
  refine ⟨hok, fun w th z own vs ho hmem hr => ?_⟩
  obtain ⟨v, r, rfl, g1, g2⟩ := hr.head
  obtain rfl := reps_r g2
  obtain ⟨L, rfl⟩ : ∃ L, th = [L] := List.length_eq_one_iff.1 hmem.len
  obtain ⟨M, e1, e2, e3⟩ := hmem.nds 0 _ rfl
  obtain rfl : L = M := by simpa using e1
  rcases e2 with ⟨hp, he⟩ | ⟨hp, cells, fr, hb, hf, hk, hsz, hle, hcl⟩
  · have hl0 : l = [] := by simpa using he
    subst hl0
    obtain rfl : l' = [] := List.length_eq_zero_iff.1 (by simpa using hl)
    obtain rfl : m = 0 := by simpa using hm
    obtain rfl : lr = [] := by
      cases lr with
      | nil => rfl
      | cons a r => have := hlr 0 a rfl; simp at this
    have hv : v = .slice none 0 0 := by
      cases g1 with
      | s _ _ _ _ c x M hL hp' => obtain rfl : L = M := by simpa using hL
                                  rw [hp] at hp'; cases hp'
      | sn => rfl
    subst hv
    refine (h0 rfl w).mono ?_
    rintro e w' ⟨rfl, rfl⟩
    refine ⟨_, y, _, 1, [L], z, .inl ⟨rfl, rfl, rfl, rfl⟩, by simpa using hmem, ?_⟩
    rcases hy with ⟨rfl, rfl⟩ | ⟨u, rfl, rfl⟩
    · exact .sn _ 0 0 L rfl hp
    · exact .r _ _
  · have hown : own L.b := (ho _).2 ⟨0, _, L, rfl, rfl, hp, rfl⟩
    have hlt := (e3 hp).1
    obtain ⟨c, x, rfl, hc1, hc2, hx⟩ : ∃ c x, v = .slice (some ⟨L.b, x, none⟩) l.length c ∧ l.length ≤ c ∧ c ≤ L.cap ∧ (0 < c → x = L.o) := by
      generalize hq : l.length = q at g1
      cases g1 with
      | s _ _ _ _ c x M hL hp' h3 h4 h5 =>
        obtain rfl : L = M := by simpa using hL
        exact ⟨c, x, rfl, h3, by omega, fun hc => by simpa using h5 hc⟩
      | sn _ _ _ M hL hp' => obtain rfl : L = M := by simpa using hL
                             rw [hp] at hp'; cases hp'
    have hx' : 0 < l.length → x = L.o := fun hh => hx (by omega)
    have H : Holds enc w L.b x l.toArray := by
      intro j hj
      have hj : j < l.length := by simpa using hj
      obtain rfl := hx' (by omega)
      obtain ⟨_, q2⟩ := hcl j (eEnc enc l[j]) (by rw [List.getElem?_map, List.getElem?_eq_getElem hj]; rfl)
      obtain ⟨y, q3, q4, _⟩ := q2 0 _ rfl
      rw [hk] at q3
      obtain rfl := q4.r_inv
      have q5 : cells[L.o + j]? = some (enc l[j]) := by simpa using q3
      have q6 : L.o + j < cells.size := (Array.getElem?_eq_some_iff.1 q5).1
      refine ⟨?_, ?_⟩
      · simp only [World.cell?, hb]
        simpa [hj] using q5
      · simp only [World.frozen?, hb]
        have := hf (L.o + j) q6
        simpa using this
    refine (h w L.b x c H hlt hc1).mono ?_
    rintro e w' ⟨rfl, n, os, rfl⟩
    have hcell : ∀ j, j < l.length → (putCells enc x l'.toArray cells)[L.o + j]? = (l'[j]?).map enc := by
      intro j hj
      obtain rfl := hx' (by omega)
      have hsz' : L.o + j < cells.size := by rw [hk] at hsz; have : l.length ≤ L.cap := by omega
                                             omega
      simp only [putCells, Array.getElem?_mapIdx, Array.getElem?_eq_getElem hsz', Option.map_some]
      have hj' : j < l'.length := by omega
      rw [if_pos (by simp; omega)]
      simp [show L.o + j - L.o = j by omega, hj']
    have hN : NdAt (grow (putRow enc (Go.Sort.ahead w n) L.b x l'.toArray) os) z [L] L (.lst T 1 (lr.map (eEnc enc))) := by
      have hlen : lr.length ≤ l'.length := by
        rcases Nat.lt_or_ge l'.length lr.length with hh | hh
        · have h1 := hlr l'.length lr[l'.length] (by simp [hh])
          simp at h1
        · exact hh
      refine .inr ⟨hp, _, fr, putRow_at hb, ?_, hk, ?_, ?_, ?_⟩
      · intro i hi; exact hf i (by simpa [putCells] using hi)
      · simpa [putCells] using hsz
      · simp only [List.length_map] at hle ⊢; omega
      · intro i e he
        rw [List.getElem?_map] at he
        obtain ⟨y, hy, rfl⟩ := Option.map_eq_some_iff.1 he
        have hy := hlr i y hy
        refine ⟨by simp [eEnc, hk], fun j a ha => ?_⟩
        have hi : i < l'.length := (List.getElem?_eq_some_iff.1 hy).1
        have hj0 : j = 0 := by
          have := (List.getElem?_eq_some_iff.1 ha).1
          simp [eEnc] at this; omega
        subst hj0
        simp [eEnc] at ha
        subst ha
        refine ⟨enc y, ?_, .r _ _, h1 y⟩
        have := hcell i (by omega)
        rw [hk]
        simpa [hy] using this
    refine ⟨_, y, _, 1, [L], z, .inl ⟨rfl, rfl, rfl, rfl⟩, mem_one hmem hown hp putRow_size (fun b hb1 hb2 => putRow_else hb1 hb2) ⟨rfl, rfl, rfl⟩ hN, ?_⟩
    rcases hy with ⟨rfl, rfl⟩ | ⟨u, rfl, rfl⟩
    · exact .s _ 0 0 m c x L rfl hp (by omega) (by omega) (fun hc => by simpa using hx hc)
    · exact .r _ _
end Go.AM
/- The abstract machine, 26: the same thing under another description: a nil slice in a box as an own list. -/
namespace Go.AM
open Go
section
variable {P : Program} {E : Env} {N : Nat} {st : AS} {th : List NLoc} {z : Zone} {a : Act} {w : World}
/-- An own thing under another description. -/
theorem Mem.say {o : List (Nat × Nd)} {n : Nat} (h : Mem E o n th z w) {i : Nat} {nd nd' : Nd} (hi : lk o i = some nd) (hn : ∀ L, th[i]? = some L → NdAt w z th L nd → NdAt w z th L nd') : Mem E ((i, nd') :: o) n th z w := by
  have key : ∀ j x, lk ((i, nd') :: o) j = some x → ∃ y, lk o j = some y := by
    intro j x hj
    simp only [lk] at hj
    split at hj
    · rename_i e; subst e; exact ⟨_, hi⟩
    · exact ⟨_, hj⟩
  refine ⟨h.len, fun j x hj => ?_, fun j k x y L M hj hk => ?_, h.zlt, h.grow, h.frame, h.zin, h.zout, h.zb, h.globs, h.pre, h.sys⟩
  · simp only [lk] at hj
    split at hj
    · rename_i e; subst e; cases hj
      obtain ⟨L, h1, h2, h3⟩ := h.nds i nd hi
      exact ⟨L, h1, hn L h1 h2, h3⟩
    · exact h.nds j x hj
  · obtain ⟨x', hj'⟩ := key j x hj
    obtain ⟨y', hk'⟩ := key k y hk
    exact h.inj j k x' y' L M hj' hk'
theorem Sim.say (h : Sim E N st th z a w) {i : Nat} {nd nd' : Nd} (hi : lk st.o i = some nd) (hn : ∀ L, th[i]? = some L → NdAt w z th L nd → NdAt w z th L nd') : Sim E N (setNd st i nd') th z a w :=
  ⟨h.mem.say hi hn, h.size, h.dfs, h.slots⟩
theorem Reps.set_at {c : List AV} {ys : List Value} (h : Reps w z th c ys) {j : Nat} {x : AV} (hx : ∀ y, ys[j]? = some y → Rep w z th x y) : Reps w z th (c.set j x) ys := by
  refine ⟨by simp [h.1], fun i u y h1 h2 => ?_⟩
  rw [List.getElem?_set] at h1
  split at h1
  · rename_i e; subst e
    split at h1
    · cases h1; exact hx y h2
    · cases h1
  · exact h.2 i u y h1 h2
/-- A nil slice in a box as an own list without elements. -/
theorem emb_nilB (n j : Nat) (T : TypeId) (k : Nat) {T' : TypeId} {c : List AV} (h : lk st.o n = some (.box T' c)) (hj : c[j]? = some (.r (.slice none 0 0))) (hne : n < st.n) :
    Emb E N st { m := st.m, o := (n, .box T' (c.set j (.s st.n 0 0))) :: (st.n, .lst T k []) :: st.o, n := st.n + 1 } := by
  intro th z a w hs
  have hk := hs.know ⟨0, 0, 0, 0, true⟩ (.lst T k []) (fun hp => by cases hp) (fun _ _ _ _ _ _ hp => by cases hp) (.inl ⟨rfl, rfl⟩)
  have hl : lk (putNd st (.lst T k [])).o n = some (.box T' c) := by simp only [putNd, lk]; rw [if_neg (by omega)]; exact h
  refine ⟨_, z, hk.say hl (fun L hL hn => ?_)⟩
  obtain ⟨hp, cells, fr, h1, h2, h3, h4⟩ := hn
  refine ⟨hp, cells, fr, h1, h2, h3, h4.set_at fun y hy => ?_⟩
  obtain ⟨y', hy', hr⟩ := h4.get hj
  rw [hy] at hy'; cases hy'
  rw [show y = .slice none 0 0 from hr.r_inv]
  exact .sn _ _ 0 _ (hs.get_new _) rfl
end
section
variable {E : Env} {N : Nat} {st : AS}
/-- The round's end by a way out of the round's block. -/
theorem nextE {ι : Type} {I : ι → AS} {ok : ι → Prop} {μ : ι → Nat} {i : ι} {AQ : AExit → AS → Prop} {id : Nat} {K : AS → Prop} (i' : ι) (h1 : ok i') (h2 : μ i' < μ i) (h3 : Emb E N st (I i')) : thenA K (blockA id (loopA E N I ok μ i AQ)) (.exit id) st := by
  show blockA id (loopA E N I ok μ i AQ) (.exit id) st
  have e : blockA id (loopA E N I ok μ i AQ) (.exit id) st = loopA E N I ok μ i AQ .normal st := by
    have hb : Nat.beq id id = true := Nat.beq_refl id
    simp only [blockA, hb]
  rw [e]
  exact ⟨i', h1, h2, h3⟩
end
end Go.AM
/- The reference's TokensJoined. -/
namespace Go.AM
open Go Go.RowKit
open Go.Proofs.YteebiklebedneaaDoor (tokM)
attribute [local irreducible] AWP retA
theorem catB (a b : List UInt8) : (⟨a.toArray⟩ : ByteArray) ++ ⟨b.toArray⟩ = ⟨(a ++ b).toArray⟩ := by apply ByteArray.ext; simp [ByteArray.data_append]
theorem tokF_con (G : List (Nat × List Value)) (x : TK0) (hs : x.s.size ≤ 1048576) : Con Go.Proofs.Tryd.prog G 39 [.agg (eT x)] [] 0 (Is (.r (.int .i64 (tokM x.k x.s x.n))) [] 0) No :=
  con_of_calls (by kernel_rfl) (fun w z vs hz hr hG => by
    obtain ⟨v, r, rfl, h1, h2⟩ := hr.head
    obtain rfl := h2.of_nil
    obtain ⟨ys, rfl, hy⟩ := h1.agg_inv
    obtain rfl := reps_r (us := [.int .i64 x.k, .string x.s, .int .i64 x.n]) hy
    rw [Go.Proofs.YteebiklebedneaaDoor.tok_same]
    exact Go.Proofs.YteebiklebedneaaDoor.tokenFault_any x.k x.s x.n w (by unfold maxLen; omega))
theorem repM_app (c : UInt8) (new a b : List UInt8) : repM c new (a ++ b) = repM c new a ++ repM c new b := by
  induction a with
  | nil => rfl
  | cons x r ih =>
    simp only [List.cons_append, repM]
    split <;> simp [ih]
theorem repM_at {c : UInt8} {new l : List UInt8} {j : Nat} {x : UInt8} (h : l[j]? = some x) : repM c new (l.take (j + 1)) = repM c new (l.take j) ++ if x = c then new else [x] := by
  rw [List.take_add_one, h, repM_app]
  simp only [Option.toList, repM, List.append_nil]
theorem repM_le (c a b : UInt8) : ∀ l : List UInt8, (repM c [a, b] l).length ≤ 2 * l.length
  | [] => by simp [repM]
  | x :: r => by
    have := repM_le c a b r
    unfold repM
    split <;> simp <;> omega
theorem ba_get (l : List UInt8) (j : Nat) : (⟨l.toArray⟩ : ByteArray)[j]? = l[j]? := by
  rcases Nat.lt_or_ge j l.length with h | h
  · have hs : (⟨l.toArray⟩ : ByteArray).size = l.length := by show l.toArray.size = _; simp
    rw [getElem?_pos _ j (by omega), getElem?_pos _ j h]; rfl
  · have hs : (⟨l.toArray⟩ : ByteArray).size = l.length := by show l.toArray.size = _; simp
    rw [getElem?_neg _ j (by omega), getElem?_neg _ j (by omega)]
set_option maxRecDepth 100000 in
set_option maxHeartbeats 16000000 in
theorem joined_con (G : List (Nat × List Value)) (t : Bool) (l : List TK0) (hl : l.length ≤ 1048576) (hz : ∀ x ∈ l, x.s.size ≤ 1048576) (hn : ∀ x ∈ l, x.n ≤ 9223372036854775807) : Con Go.Proofs.Tryd.prog G 15 [.ro t 3 (l.map eT)] [] 0 (Is (.tup [.r (.string ⟨(joinM l).1.toArray⟩), .r (.int .i64 (joinM l).2)]) [] 0) No := by
  by_cases hc : 100 < l.length
  · have d1 : decide ((l.length : Int) > 100) = true := decide_eq_true (by omega)
    rw [show joinM l = ([], 10) by simp [joinM, hc]]
    refine con_of_awp Go.Proofs.Tryd.func15 rfl (by kernel_rfl) (of_decide_eq_true (by kernel_rfl)) ?_; intro E hG hE; subst hG; simp only [ent]
    (repeat' (first | refine awp_seq ?_ | refine awp_block ?_ | refine awp_skip ?_ | refine awp_exit ?_ | ((first | refine rR (fun K kp hK hkp => ?_) | refine iG ?_); simp (implicitDefEqProofs := false) (maxSteps := 2000000) (disch := omega) only [go_sem, d1]; (repeat' (first | (refine hK _ ?_; clear hK hkp kp K) | (with_reducible refine And.intro ?_ ?_) | omega))) | ((first | refine aG (fun h => ?_) (fun h => ?_) | refine aD (fun h => ?_) (fun h => ?_) | refine aX (fun h => ?_) (fun h => ?_)) <;> simp only [h]) | refine awp_cond_t rfl ?_ | refine awp_cond_f rfl ?_ | ((refine awp_cond rfl (fun h => ?_) (fun h => ?_) <;> try simp only [ifs] at h) <;> (try (exfalso; omega))) | refine awp_ret ?_))
    (refine retA_is (by (simp (implicitDefEqProofs := false) (maxSteps := 2000000) (disch := omega) only [go_sem, Go.Proofs.Tryd.results15]); rfl) ?_; refine eN hE ?_; simp [oneA, ren, renL])
  have d1 : decide ((l.length : Int) > 100) = false := decide_eq_false (by omega)
  obtain ⟨R, hR⟩ : ∃ R, joinFrom [] l = R := ⟨_, rfl⟩
  rw [show joinM l = R by rw [joinM, if_neg hc, hR]]
  refine con_of_awp Go.Proofs.Tryd.func15 rfl (by kernel_rfl) (of_decide_eq_true (by kernel_rfl)) ?_; intro E hG hE; subst hG; simp only [ent]
  (repeat' (first | refine awp_seq ?_ | refine awp_block ?_ | refine awp_skip ?_ | refine awp_exit ?_ | ((first | refine rR (fun K kp hK hkp => ?_) | refine iG ?_); simp (implicitDefEqProofs := false) (maxSteps := 2000000) (disch := omega) only [go_sem, d1]; (repeat' (first | (refine hK _ ?_; clear hK hkp kp K) | (with_reducible refine And.intro ?_ ?_) | omega))) | ((first | refine aG (fun h => ?_) (fun h => ?_) | refine aD (fun h => ?_) (fun h => ?_) | refine aX (fun h => ?_) (fun h => ?_)) <;> simp only [h]) | refine awp_cond_t rfl ?_ | refine awp_cond_f rfl ?_ | ((refine awp_cond rfl (fun h => ?_) (fun h => ?_) <;> try simp only [ifs] at h) <;> (try (exfalso; omega))) | refine awp_ret ?_))
  refine awp_loop (fun d : Nat × List UInt8 => ⟨[(5, .r (.int .i64 d.1)), (4, .r (.string ⟨d.2.toArray⟩)), (0, .ro t 3 (l.map eT))], [], 0⟩) (fun d => d.1 ≤ l.length ∧ d.2.length ≤ 400 ∧ joinFrom d.2 (l.drop d.1) = R) (fun d => l.length - d.1) (0, []) ?_ ?_ ?_
  · exact ⟨Nat.zero_le _, by simp, hR⟩
  · (refine emb [] ?_ ?_ rfl ?_ ?_ ?_ ?_ <;> simp [okM, okO, lk, ren, renL, renNd, by_, hE] <;> (try omega) <;> (try (intro i hi; first | (rcases (by omega : i = 0 ∨ i = 1 ∨ i = 2) with rfl | rfl | rfl <;> rfl) | (rcases (by omega : i = 0 ∨ i = 1) with rfl | rfl <;> rfl))))
  rintro ⟨k, acc⟩ ⟨hk, ha, hj⟩
  simp only at hk ha hj ⊢
  by_cases hlt : k < l.length
  · obtain ⟨x, hx⟩ : ∃ x, l[k]? = some x := ⟨l[k], by simp [hlt]⟩
    have hxs := hz x (List.mem_of_getElem? hx)
    have hxn := hn x (List.mem_of_getElem? hx)
    have hd : l.drop k = x :: l.drop (k + 1) := by
      rw [List.drop_eq_getElem_cons hlt]; congr 1
      have := hx; simp [hlt] at this; exact this
    rw [hd] at hj
    have tc := tokF_con E.G x hxs
    by_cases he : tokM x.k x.s x.n = 0
    · have b1 : (tokM x.k x.s x.n != 0) = false := by simpa using he
      obtain ⟨hkk, hk2⟩ := tok_kind he
      by_cases h2 : x.k = 2
      · obtain ⟨m, hm⟩ := Int.eq_ofNat_of_zero_le (hk2 h2)
        have e2 : (x.k == 2) = true := by simpa using h2
        have hm2 : m ≤ 9223372036854775807 := by omega
        have dc := dec_con E.G m hm2
        rw [← hm] at dc
        obtain ⟨jt, hjt⟩ : ∃ j, Lib.decDigits m = j := ⟨_, rfl⟩
        rw [hjt] at dc
        have hJT : joinT x = jt := by rw [joinT, if_pos h2, Lib.itoa, if_neg (by omega), hm, ← hjt]; rfl
        have e3 : (x.k == 3) = false := by rw [h2]; rfl
        have hjl := Lib.itoa_length_le (m : Int) (by omega) (by omega)
        rw [Lib.itoa, if_neg (by omega), show (m : Int).toNat = m by rfl, hjt] at hjl
        have z1 : (acc.toArray.size + jt.toArray.size ≤ 9223372036854775807) = True := eq_true (by simp only [List.size_toArray]; omega)
        have z2 : ((acc ++ jt).toArray.size + #[(32 : UInt8)].size ≤ 9223372036854775807) = True := eq_true (by simp only [List.size_toArray, List.length_append, List.length_cons, List.length_nil]; omega)
        by_cases h4 : 400 < (acc ++ jt ++ [32]).length
        · have d4 : decide ((((acc ++ jt ++ [32]).toArray.size : Nat) : Int) > 400) = true := decide_eq_true (by rw [List.size_toArray]; omega)
          rw [join_long he (by rw [hJT]; exact h4)] at hj
          subst hj
          (repeat' (first | refine awp_seq ?_ | refine awp_block ?_ | refine awp_skip ?_ | refine awp_exit ?_ | ((first | refine rR (fun K kp hK hkp => ?_) | refine cR tc ?_ | refine cR dc ?_ | refine iG ?_); simp (implicitDefEqProofs := false) (maxSteps := 2000000) (disch := omega) only [go_sem, hx, eT, b1, e2, e3, catB, z1, z2, d4]; (repeat' (first | (refine hK _ ?_; clear hK hkp kp K) | (with_reducible refine And.intro ?_ ?_) | omega))) | ((first | refine aG (fun h => ?_) (fun h => ?_) | refine aD (fun h => ?_) (fun h => ?_) | refine aX (fun h => ?_) (fun h => ?_)) <;> simp only [h]) | refine awp_cond_t rfl ?_ | refine awp_cond_f rfl ?_ | ((refine awp_cond rfl (fun h => ?_) (fun h => ?_) <;> try simp only [ifs] at h) <;> (try (exfalso; omega))) | refine awp_ret ?_))
          (refine retA_is (by (simp (implicitDefEqProofs := false) (maxSteps := 2000000) (disch := omega) only [go_sem, Go.Proofs.Tryd.results15]); rfl) ?_; refine eN hE ?_; simp [oneA, ren, renL])
        · have d4 : decide ((((acc ++ jt ++ [32]).toArray.size : Nat) : Int) > 400) = false := decide_eq_false (by rw [List.size_toArray]; omega)
          rw [join_on he (by rw [hJT]; exact h4), hJT] at hj
          (repeat' (first | refine awp_seq ?_ | refine awp_block ?_ | refine awp_skip ?_ | refine awp_exit ?_ | ((first | refine rR (fun K kp hK hkp => ?_) | refine cR tc ?_ | refine cR dc ?_ | refine iG ?_); simp (implicitDefEqProofs := false) (maxSteps := 2000000) (disch := omega) only [go_sem, hx, eT, b1, e2, e3, catB, z1, z2, d4]; (repeat' (first | (refine hK _ ?_; clear hK hkp kp K) | (with_reducible refine And.intro ?_ ?_) | omega))) | ((first | refine aG (fun h => ?_) (fun h => ?_) | refine aD (fun h => ?_) (fun h => ?_) | refine aX (fun h => ?_) (fun h => ?_)) <;> simp only [h]) | refine awp_cond_t rfl ?_ | refine awp_cond_f rfl ?_ | ((refine awp_cond rfl (fun h => ?_) (fun h => ?_) <;> try simp only [ifs] at h) <;> (try (exfalso; omega))) | refine awp_ret ?_))
          ((first | (refine nextB ((k + 1, acc ++ jt ++ [32])) ?_ ?_ ?_) | (refine nextA ((k + 1, acc ++ jt ++ [32])) ?_ ?_ ?_) | (refine nextE ((k + 1, acc ++ jt ++ [32])) ?_ ?_ ?_)); rotate_left; (· (try dsimp only); (first | omega | (simp only [List.length_drop, List.length_cons, List.length_append]; omega) | (simp; done) | (simp; omega))); (· (refine emb [] ?_ ?_ rfl ?_ ?_ ?_ ?_ <;> simp [okM, okO, lk, ren, renL, renNd, by_, hE] <;> (try omega) <;> (try (intro i hi; first | (rcases (by omega : i = 0 ∨ i = 1 ∨ i = 2) with rfl | rfl | rfl <;> rfl) | (rcases (by omega : i = 0 ∨ i = 1) with rfl | rfl <;> rfl))))))
          exact ⟨Nat.succ_le_of_lt hlt, by simp only; omega, hj⟩
      by_cases h3 : x.k = 3
      · have e2 : (x.k == 2) = false := by simpa using h2
        have e3 : (x.k == 3) = true := by simpa using h3
        obtain ⟨xk, xs, xn⟩ := x
        obtain ⟨sl, rfl⟩ : ∃ j : List UInt8, xs = ⟨j.toArray⟩ := ⟨xs.data.toList, by simp⟩
        have hss : (⟨sl.toArray⟩ : ByteArray).size = sl.length := by show sl.toArray.size = _; simp
        have hsl : sl.length ≤ 1048576 := by rw [← hss]; exact hxs
        simp only at he h2 h3 e2 e3 b1 hxs hxn
        (repeat' (first | refine awp_seq ?_ | refine awp_block ?_ | refine awp_skip ?_ | refine awp_exit ?_ | ((first | refine rR (fun K kp hK hkp => ?_) | refine cR tc ?_ | refine iG ?_); simp (implicitDefEqProofs := false) (maxSteps := 2000000) (disch := omega) only [go_sem, hx, eT, b1, e2, e3]; (repeat' (first | (refine hK _ ?_; clear hK hkp kp K) | (with_reducible refine And.intro ?_ ?_) | omega))) | ((first | refine aG (fun h => ?_) (fun h => ?_) | refine aD (fun h => ?_) (fun h => ?_) | refine aX (fun h => ?_) (fun h => ?_)) <;> simp only [h]) | refine awp_cond_t rfl ?_ | refine awp_cond_f rfl ?_ | ((refine awp_cond rfl (fun h => ?_) (fun h => ?_) <;> try simp only [ifs] at h) <;> (try (exfalso; omega))) | refine awp_ret ?_))
        (refine AWP.emb (emb_nil 9 5 1 ?_) ?_; (· rfl); dsimp only)
        refine awp_loop (fun j : Nat => ⟨[(10, .r (.int .i64 j)), (9, .s 1 0 (repM 39 [39, 39] (sl.take j)).length), (6, .p 0 0 0), (5, .r (.int .i64 k)), (4, .r (.string ⟨acc.toArray⟩)), (0, .ro t 3 (l.map eT))], [(0, .box 66 (eT ⟨xk, ⟨sl.toArray⟩, xn⟩)), (1, .lst 5 1 ((repM 39 [39, 39] (sl.take j)).map eByte))], 2⟩) (fun j => j ≤ sl.length) (fun j => sl.length - j) 0 ?_ ?_ ?_
        · simp
        · (refine emb [0, 1] ?_ ?_ rfl ?_ ?_ ?_ ?_ <;> simp [okM, okO, lk, ren, renL, renNd, by_, hE, eT, repM] <;> (try omega) <;> (try (intro i hi; first | (rcases (by omega : i = 0 ∨ i = 1 ∨ i = 2) with rfl | rfl | rfl <;> rfl) | (rcases (by omega : i = 0 ∨ i = 1) with rfl | rfl <;> rfl))))
        intro j hjl
        by_cases hlj : j < sl.length
        · have dj : decide ((j : Int) < (sl.toArray.size : Int)) = true := decide_eq_true (by rw [List.size_toArray]; omega)
          obtain ⟨c, hcj⟩ : ∃ c, sl[j]? = some c := ⟨sl[j], by simp [hlj]⟩
          have hbj : (⟨sl.toArray⟩ : ByteArray)[j]? = some c := by rw [ba_get]; exact hcj
          have hq := repM_at (c := 39) (new := [39, 39]) hcj
          have hql := repM_le 39 39 39 (sl.take j)
          have htl : (sl.take j).length ≤ j := List.length_take_le _ _
          by_cases h39 : c = 39
          · have ec : ((c.toNat : Int) == 39) = true := by rw [h39]; rfl
            rw [if_pos h39] at hq
            (repeat' (first | refine awp_seq ?_ | refine awp_block ?_ | refine awp_skip ?_ | refine awp_exit ?_ | ((first | refine rR (fun K kp hK hkp => ?_) | refine iG ?_); simp (implicitDefEqProofs := false) (maxSteps := 2000000) (disch := omega) only [go_sem, hbj, eT, dj, ec]; (repeat' (first | (refine hK _ ?_; clear hK hkp kp K) | (with_reducible refine And.intro ?_ ?_) | omega))) | ((first | refine aG (fun h => ?_) (fun h => ?_) | refine aD (fun h => ?_) (fun h => ?_) | refine aX (fun h => ?_) (fun h => ?_)) <;> simp only [h]) | refine awp_cond_t rfl ?_ | refine awp_cond_f rfl ?_ | ((refine awp_cond rfl (fun h => ?_) (fun h => ?_) <;> try simp only [ifs] at h) <;> (try (exfalso; omega))) | refine awp_ret ?_))
            ((first | (refine nextB (j + 1) ?_ ?_ ?_) | (refine nextA (j + 1) ?_ ?_ ?_) | (refine nextE (j + 1) ?_ ?_ ?_)); rotate_left; (· (try dsimp only); (first | omega | (simp only [List.length_drop, List.length_cons, List.length_append]; omega) | (simp; done) | (simp; omega))); (· (refine emb [0, 5] ?_ ?_ rfl ?_ ?_ ?_ ?_ <;> simp [okM, okO, lk, ren, renL, renNd, by_, hE, eT, eByte, hq, h39] <;> (try omega) <;> (try (intro i hi; first | (rcases (by omega : i = 0 ∨ i = 1 ∨ i = 2) with rfl | rfl | rfl <;> rfl) | (rcases (by omega : i = 0 ∨ i = 1) with rfl | rfl <;> rfl))))))
            omega
          · have ec : ((c.toNat : Int) == 39) = false := by
              rw [beq_eq_false_iff_ne]; intro h; exact h39 (UInt8.toNat_inj.1 (show c.toNat = (39 : UInt8).toNat by have : (39 : UInt8).toNat = 39 := rfl; omega))
            rw [if_neg h39] at hq
            (repeat' (first | refine awp_seq ?_ | refine awp_block ?_ | refine awp_skip ?_ | refine awp_exit ?_ | ((first | refine rR (fun K kp hK hkp => ?_) | refine iG ?_); simp (implicitDefEqProofs := false) (maxSteps := 2000000) (disch := omega) only [go_sem, hbj, eT, dj, ec]; (repeat' (first | (refine hK _ ?_; clear hK hkp kp K) | (with_reducible refine And.intro ?_ ?_) | omega))) | ((first | refine aG (fun h => ?_) (fun h => ?_) | refine aD (fun h => ?_) (fun h => ?_) | refine aX (fun h => ?_) (fun h => ?_)) <;> simp only [h]) | refine awp_cond_t rfl ?_ | refine awp_cond_f rfl ?_ | ((refine awp_cond rfl (fun h => ?_) (fun h => ?_) <;> try simp only [ifs] at h) <;> (try (exfalso; omega))) | refine awp_ret ?_))
            ((first | (refine nextB (j + 1) ?_ ?_ ?_) | (refine nextA (j + 1) ?_ ?_ ?_) | (refine nextE (j + 1) ?_ ?_ ?_)); rotate_left; (· (try dsimp only); (first | omega | (simp only [List.length_drop, List.length_cons, List.length_append]; omega) | (simp; done) | (simp; omega))); (· (refine emb [0, 3] ?_ ?_ rfl ?_ ?_ ?_ ?_ <;> simp [okM, okO, lk, ren, renL, renNd, by_, hE, eT, eByte, hq] <;> (try omega) <;> (try (intro i hi; first | (rcases (by omega : i = 0 ∨ i = 1 ∨ i = 2) with rfl | rfl | rfl <;> rfl) | (rcases (by omega : i = 0 ∨ i = 1) with rfl | rfl <;> rfl))))))
            omega
        · have dj : decide ((j : Int) < (sl.toArray.size : Int)) = false := decide_eq_false (by rw [List.size_toArray]; omega)
          obtain rfl : j = sl.length := by omega
          have hql := repM_le 39 39 39 sl
          rw [List.take_length]
          obtain ⟨q, hq⟩ : ∃ q, repM 39 [39, 39] sl = q := ⟨_, rfl⟩
          rw [hq] at hql ⊢
          have hJT : joinT ⟨xk, ⟨sl.toArray⟩, xn⟩ = (39 :: (q ++ [39])) := by rw [joinT, if_neg h2, if_pos h3, ← hq]
          have z1 : (acc.toArray.size + (39 :: (q ++ [39])).toArray.size ≤ 9223372036854775807) = True := eq_true (by simp only [List.size_toArray, List.length_append, List.length_cons, List.length_nil]; omega)
          have z2 : ((acc ++ (39 :: (q ++ [39]))).toArray.size + #[(32 : UInt8)].size ≤ 9223372036854775807) = True := eq_true (by simp only [List.size_toArray, List.length_append, List.length_cons, List.length_nil]; omega)
          have z3 : (#[(39 : UInt8)].size + q.toArray.size ≤ 9223372036854775807) = True := eq_true (by simp only [List.size_toArray, List.length_singleton]; omega)
          have z4 : ((39 :: q).toArray.size + #[(39 : UInt8)].size ≤ 9223372036854775807) = True := eq_true (by simp only [List.size_toArray, List.length_append, List.length_cons, List.length_nil]; omega)
          by_cases h4 : 400 < (acc ++ (39 :: (q ++ [39])) ++ [32]).length
          · have d4 : decide ((((acc ++ (39 :: (q ++ [39])) ++ [32]).toArray.size : Nat) : Int) > 400) = true := decide_eq_true (by rw [List.size_toArray]; omega)
            rw [join_long he (by rw [hJT]; exact h4)] at hj
            subst hj
            (repeat' (first | refine awp_seq ?_ | refine awp_block ?_ | refine awp_skip ?_ | refine awp_exit ?_ | ((first | refine rR (fun K kp hK hkp => ?_) | refine cR tc ?_ | refine iG ?_); simp (implicitDefEqProofs := false) (maxSteps := 2000000) (disch := omega) only [go_sem, eT, dj, unb_map, catB, z1, z2, z3, z4, d4]; (repeat' (first | (refine hK _ ?_; clear hK hkp kp K) | (with_reducible refine And.intro ?_ ?_) | omega))) | ((first | refine aG (fun h => ?_) (fun h => ?_) | refine aD (fun h => ?_) (fun h => ?_) | refine aX (fun h => ?_) (fun h => ?_)) <;> simp only [h]) | refine awp_cond_t rfl ?_ | refine awp_cond_f rfl ?_ | ((refine awp_cond rfl (fun h => ?_) (fun h => ?_) <;> try simp only [ifs] at h) <;> (try (exfalso; omega))) | refine awp_ret ?_))
            (refine retA_is (by (simp (implicitDefEqProofs := false) (maxSteps := 2000000) (disch := omega) only [go_sem, Go.Proofs.Tryd.results15]); rfl) ?_; refine eN hE ?_; simp [oneA, ren, renL])
          · have d4 : decide ((((acc ++ (39 :: (q ++ [39])) ++ [32]).toArray.size : Nat) : Int) > 400) = false := decide_eq_false (by rw [List.size_toArray]; omega)
            rw [join_on he (by rw [hJT]; exact h4), hJT] at hj
            (repeat' (first | refine awp_seq ?_ | refine awp_block ?_ | refine awp_skip ?_ | refine awp_exit ?_ | ((first | refine rR (fun K kp hK hkp => ?_) | refine cR tc ?_ | refine iG ?_); simp (implicitDefEqProofs := false) (maxSteps := 2000000) (disch := omega) only [go_sem, eT, dj, unb_map, catB, z1, z2, z3, z4, d4]; (repeat' (first | (refine hK _ ?_; clear hK hkp kp K) | (with_reducible refine And.intro ?_ ?_) | omega))) | ((first | refine aG (fun h => ?_) (fun h => ?_) | refine aD (fun h => ?_) (fun h => ?_) | refine aX (fun h => ?_) (fun h => ?_)) <;> simp only [h]) | refine awp_cond_t rfl ?_ | refine awp_cond_f rfl ?_ | ((refine awp_cond rfl (fun h => ?_) (fun h => ?_) <;> try simp only [ifs] at h) <;> (try (exfalso; omega))) | refine awp_ret ?_))
            ((first | (refine nextB ((k + 1, acc ++ (39 :: (q ++ [39])) ++ [32])) ?_ ?_ ?_) | (refine nextA ((k + 1, acc ++ (39 :: (q ++ [39])) ++ [32])) ?_ ?_ ?_) | (refine nextE ((k + 1, acc ++ (39 :: (q ++ [39])) ++ [32])) ?_ ?_ ?_)); rotate_left; (· (try dsimp only); (first | omega | (simp only [List.length_drop, List.length_cons, List.length_append]; omega) | (simp; done) | (simp; omega))); (· (refine emb [] ?_ ?_ rfl ?_ ?_ ?_ ?_ <;> simp [okM, okO, lk, ren, renL, renNd, by_, hE] <;> (try omega) <;> (try (intro i hi; first | (rcases (by omega : i = 0 ∨ i = 1 ∨ i = 2) with rfl | rfl | rfl <;> rfl) | (rcases (by omega : i = 0 ∨ i = 1) with rfl | rfl <;> rfl))))))
            exact ⟨Nat.succ_le_of_lt hlt, by simp only; omega, hj⟩
      · have e2 : (x.k == 2) = false := by simpa using h2
        have e3 : (x.k == 3) = false := by simpa using h3
        obtain ⟨xk, xs, xn⟩ := x
        obtain ⟨jt, rfl⟩ : ∃ j : List UInt8, xs = ⟨j.toArray⟩ := ⟨xs.data.toList, by simp⟩
        have hJT : joinT ⟨xk, ⟨jt.toArray⟩, xn⟩ = jt := by rw [joinT, if_neg h2, if_neg h3]
        have hjl : jt.length ≤ 1048576 := by
          have : (⟨jt.toArray⟩ : ByteArray).size = jt.length := by show jt.toArray.size = _; simp
          rw [← this]; exact hxs
        simp only at he h2 h3 e2 e3 b1 hxs hxn
        have z1 : (acc.toArray.size + jt.toArray.size ≤ 9223372036854775807) = True := eq_true (by simp only [List.size_toArray]; omega)
        have z2 : ((acc ++ jt).toArray.size + #[(32 : UInt8)].size ≤ 9223372036854775807) = True := eq_true (by simp only [List.size_toArray, List.length_append, List.length_cons, List.length_nil]; omega)
        by_cases h4 : 400 < (acc ++ jt ++ [32]).length
        · have d4 : decide ((((acc ++ jt ++ [32]).toArray.size : Nat) : Int) > 400) = true := decide_eq_true (by rw [List.size_toArray]; omega)
          rw [join_long he (by rw [hJT]; exact h4)] at hj
          subst hj
          (repeat' (first | refine awp_seq ?_ | refine awp_block ?_ | refine awp_skip ?_ | refine awp_exit ?_ | ((first | refine rR (fun K kp hK hkp => ?_) | refine cR tc ?_ | refine iG ?_); simp (implicitDefEqProofs := false) (maxSteps := 2000000) (disch := omega) only [go_sem, hx, eT, b1, e2, e3, catB, z1, z2, d4]; (repeat' (first | (refine hK _ ?_; clear hK hkp kp K) | (with_reducible refine And.intro ?_ ?_) | omega))) | ((first | refine aG (fun h => ?_) (fun h => ?_) | refine aD (fun h => ?_) (fun h => ?_) | refine aX (fun h => ?_) (fun h => ?_)) <;> simp only [h]) | refine awp_cond_t rfl ?_ | refine awp_cond_f rfl ?_ | ((refine awp_cond rfl (fun h => ?_) (fun h => ?_) <;> try simp only [ifs] at h) <;> (try (exfalso; omega))) | refine awp_ret ?_))
          (refine retA_is (by (simp (implicitDefEqProofs := false) (maxSteps := 2000000) (disch := omega) only [go_sem, Go.Proofs.Tryd.results15]); rfl) ?_; refine eN hE ?_; simp [oneA, ren, renL])
        · have d4 : decide ((((acc ++ jt ++ [32]).toArray.size : Nat) : Int) > 400) = false := decide_eq_false (by rw [List.size_toArray]; omega)
          rw [join_on he (by rw [hJT]; exact h4), hJT] at hj
          (repeat' (first | refine awp_seq ?_ | refine awp_block ?_ | refine awp_skip ?_ | refine awp_exit ?_ | ((first | refine rR (fun K kp hK hkp => ?_) | refine cR tc ?_ | refine iG ?_); simp (implicitDefEqProofs := false) (maxSteps := 2000000) (disch := omega) only [go_sem, hx, eT, b1, e2, e3, catB, z1, z2, d4]; (repeat' (first | (refine hK _ ?_; clear hK hkp kp K) | (with_reducible refine And.intro ?_ ?_) | omega))) | ((first | refine aG (fun h => ?_) (fun h => ?_) | refine aD (fun h => ?_) (fun h => ?_) | refine aX (fun h => ?_) (fun h => ?_)) <;> simp only [h]) | refine awp_cond_t rfl ?_ | refine awp_cond_f rfl ?_ | ((refine awp_cond rfl (fun h => ?_) (fun h => ?_) <;> try simp only [ifs] at h) <;> (try (exfalso; omega))) | refine awp_ret ?_))
          ((first | (refine nextB ((k + 1, acc ++ jt ++ [32])) ?_ ?_ ?_) | (refine nextA ((k + 1, acc ++ jt ++ [32])) ?_ ?_ ?_) | (refine nextE ((k + 1, acc ++ jt ++ [32])) ?_ ?_ ?_)); rotate_left; (· (try dsimp only); (first | omega | (simp only [List.length_drop, List.length_cons, List.length_append]; omega) | (simp; done) | (simp; omega))); (· (refine emb [] ?_ ?_ rfl ?_ ?_ ?_ ?_ <;> simp [okM, okO, lk, ren, renL, renNd, by_, hE] <;> (try omega) <;> (try (intro i hi; first | (rcases (by omega : i = 0 ∨ i = 1 ∨ i = 2) with rfl | rfl | rfl <;> rfl) | (rcases (by omega : i = 0 ∨ i = 1) with rfl | rfl <;> rfl))))))
          exact ⟨Nat.succ_le_of_lt hlt, by simp only; omega, hj⟩
    · have b1 : (tokM x.k x.s x.n != 0) = true := by simpa using he
      rw [join_bad he] at hj
      subst hj
      (repeat' (first | refine awp_seq ?_ | refine awp_block ?_ | refine awp_skip ?_ | refine awp_exit ?_ | ((first | refine rR (fun K kp hK hkp => ?_) | refine cR tc ?_ | refine iG ?_); simp (implicitDefEqProofs := false) (maxSteps := 2000000) (disch := omega) only [go_sem, hx, eT, b1]; (repeat' (first | (refine hK _ ?_; clear hK hkp kp K) | (with_reducible refine And.intro ?_ ?_) | omega))) | ((first | refine aG (fun h => ?_) (fun h => ?_) | refine aD (fun h => ?_) (fun h => ?_) | refine aX (fun h => ?_) (fun h => ?_)) <;> simp only [h]) | refine awp_cond_t rfl ?_ | refine awp_cond_f rfl ?_ | ((refine awp_cond rfl (fun h => ?_) (fun h => ?_) <;> try simp only [ifs] at h) <;> (try (exfalso; omega))) | refine awp_ret ?_))
      (refine retA_is (by (simp (implicitDefEqProofs := false) (maxSteps := 2000000) (disch := omega) only [go_sem, Go.Proofs.Tryd.results15]); rfl) ?_; refine eN hE ?_; simp [oneA, ren, renL])
  · obtain rfl : k = l.length := by omega
    rw [List.drop_length, joinFrom] at hj
    subst hj
    (repeat' (first | refine awp_seq ?_ | refine awp_block ?_ | refine awp_skip ?_ | refine awp_exit ?_ | ((first | refine rR (fun K kp hK hkp => ?_) | refine iG ?_); simp (implicitDefEqProofs := false) (maxSteps := 2000000) (disch := omega) only [go_sem, eT]; (repeat' (first | (refine hK _ ?_; clear hK hkp kp K) | (with_reducible refine And.intro ?_ ?_) | omega))) | ((first | refine aG (fun h => ?_) (fun h => ?_) | refine aD (fun h => ?_) (fun h => ?_) | refine aX (fun h => ?_) (fun h => ?_)) <;> simp only [h]) | refine awp_cond_t rfl ?_ | refine awp_cond_f rfl ?_ | ((refine awp_cond rfl (fun h => ?_) (fun h => ?_) <;> try simp only [ifs] at h) <;> (try (exfalso; omega))) | refine awp_ret ?_))
    (refine retA_is (by (simp (implicitDefEqProofs := false) (maxSteps := 2000000) (disch := omega) only [go_sem, Go.Proofs.Tryd.results15]); rfl) ?_; refine eN hE ?_; simp [oneA, ren, renL])
end Go.AM
/- Statements cut into tokens: the model; spans. -/
namespace Go.AM
open Go Go.RowKit
open Go.Proofs.YteebiklebedneaaDoor (letB digB wrdB)
attribute [local irreducible] AWP retA
def spanP (p : Int → Bool) : List UInt8 → Nat
  | [] => 0
  | c :: r => if p c.toNat = true then spanP p r + 1 else 0
theorem spanP_le (p : Int → Bool) : ∀ l : List UInt8, spanP p l ≤ l.length
  | [] => Nat.le_refl _
  | c :: r => by
    have := spanP_le p r
    unfold spanP
    split <;> simp <;> omega
theorem drop_cons {α : Type} {l : List α} {k : Nat} {x : α} (h : l[k]? = some x) : l.drop k = x :: l.drop (k + 1) := by
  have hlt := (List.getElem?_eq_some_iff.1 h).1
  rw [List.drop_eq_getElem_cons hlt]; congr 1
  simpa [hlt] using h
theorem spanP_yes {p : Int → Bool} {l : List UInt8} {k : Nat} {c : UInt8} (h : l[k]? = some c) (hp : p c.toNat = true) : k + spanP p (l.drop k) = k + 1 + spanP p (l.drop (k + 1)) := by
  rw [drop_cons h, spanP, if_pos hp]; omega
theorem spanP_no {p : Int → Bool} {l : List UInt8} {k : Nat} {c : UInt8} (h : l[k]? = some c) (hp : p c.toNat = false) : spanP p (l.drop k) = 0 := by
  rw [drop_cons h, spanP, if_neg (by simp [hp])]
def blankB (c : Int) : Bool := c == 32 || c == 9 || c == 13 || c == 10
/-- What stands behind the first quote: the text, and how many bytes. -/
def textM : List UInt8 → Option (List UInt8 × Nat)
  | [] => none
  | [c] => if c = 39 then some ([], 1) else none
  | c :: d :: r => if c = 39 then (if d = 39 then (textM r).map fun x => (39 :: x.1, x.2 + 2) else some ([], 1)) else (textM (d :: r)).map fun x => (c :: x.1, x.2 + 1)
def marksB : List (List UInt8) := [[60, 61], [62, 61], [60, 62], [40], [41], [44], [42], [43], [45], [61], [60], [62]]
def decV (l : List UInt8) : Nat := l.foldl (fun a c => 10 * a + (c.toNat - 48)) 0
def isPre (m l : List UInt8) : Bool := m.isPrefixOf l
def oneM : List UInt8 → Except Int (TK0 × Nat)
  | [] => .error 6
  | c :: r =>
    if letB c.toNat = true then .ok (⟨1, ⟨((c :: r).take (spanP wrdB (c :: r))).toArray⟩, 0⟩, spanP wrdB (c :: r))
    else if digB c.toNat = true then
      if ((c :: r)[spanP digB (c :: r)]?.map fun d => letB d.toNat) = some true then .error 6
      else if 9223372036854775807 < decV ((c :: r).take (spanP digB (c :: r))) then .error 5
      else .ok (⟨2, ⟨#[]⟩, decV ((c :: r).take (spanP digB (c :: r)))⟩, spanP digB (c :: r))
    else if c = 39 then match textM r with
      | none => .error 7
      | some x => .ok (⟨3, ⟨x.1.toArray⟩, 0⟩, x.2 + 1)
    else match marksB.find? fun m => isPre m (c :: r) with
      | some m => .ok (⟨4, ⟨m.toArray⟩, 0⟩, m.length)
      | none => .error 6
def cutF : Nat → List UInt8 → Nat → List TK0 → List TK0 × Nat × Int
  | 0, _, at_, _ => ([], at_, 6)
  | f + 1, r, at_, acc =>
    if r.drop (spanP blankB r) = [] then (acc, 0, 0)
    else if acc.length = 100 then ([], at_ + spanP blankB r, 10)
    else match oneM (r.drop (spanP blankB r)) with
      | .error e => ([], at_ + spanP blankB r, e)
      | .ok x => cutF f ((r.drop (spanP blankB r)).drop x.2) (at_ + spanP blankB r + x.2) (acc ++ [x.1])
def cutM (l : List UInt8) : List TK0 × Nat × Int := if 400 < l.length then ([], 0, 1) else cutF (l.length + 1) l 0 []
theorem byte_con {f : Nat} {p : Int → Bool} (G : List (Nat × List Value)) (hok : okFn Go.Proofs.Tryd.prog f = true) (h : ∀ (c : UInt8) (w : World), Calls Go.Proofs.Tryd.prog f #[.int .u8 c.toNat] w fun e w' => e = .returned (.bool (p c.toNat)) ∧ w = w') (c : UInt8) : Con Go.Proofs.Tryd.prog G f [.r (.int .u8 c.toNat)] [] 0 (Is (.r (.bool (p c.toNat))) [] 0) No :=
  con_of_calls hok (fun w z vs hz hr hG => by
    obtain ⟨v, r, rfl, h1, h2⟩ := hr.head
    obtain rfl := h1.r_inv
    obtain rfl := h2.of_nil
    exact (h c w).mono (fun e w' ⟨he, hw⟩ => by subst hw; exact ⟨he, Below.refl _ _⟩))
theorem u8_rng (c : UInt8) : 0 ≤ (c.toNat : Int) ∧ (c.toNat : Int) ≤ 255 := by have := c.toNat_lt; omega
theorem letter_con (G : List (Nat × List Value)) (c : UInt8) : Con Go.Proofs.Tryd.prog G 63 [.r (.int .u8 c.toNat)] [] 0 (Is (.r (.bool (letB c.toNat))) [] 0) No := byte_con G (by kernel_rfl) (fun c w => Go.Proofs.YteebiklebedneaaDoor.letter_any _ w) c
theorem digit_con (G : List (Nat × List Value)) (c : UInt8) : Con Go.Proofs.Tryd.prog G 65 [.r (.int .u8 c.toNat)] [] 0 (Is (.r (.bool (digB c.toNat))) [] 0) No := byte_con G (by kernel_rfl) (fun c w => Go.Proofs.YteebiklebedneaaDoor.digit_any _ w) c
theorem wordB_con (G : List (Nat × List Value)) (c : UInt8) : Con Go.Proofs.Tryd.prog G 70 [.r (.int .u8 c.toNat)] [] 0 (Is (.r (.bool (letB c.toNat))) [] 0) No := byte_con G (by kernel_rfl) (fun c w => Go.Proofs.YteebiklebedneaaDoor.wordByte_any _ w (u8_rng c).1 (u8_rng c).2) c
theorem blank_con (G : List (Nat × List Value)) (c : UInt8) : Con Go.Proofs.Tryd.prog G 42 [.r (.int .u8 c.toNat)] [] 0 (Is (.r (.bool (blankB c.toNat))) [] 0) No := by
  unfold blankB
  cases h1 : ((c.toNat : Int) == 32)
  · cases h2 : ((c.toNat : Int) == 9)
    · cases h3 : ((c.toNat : Int) == 10)
      · refine con_of_awp Go.Proofs.Tryd.func42 rfl (by kernel_rfl) (of_decide_eq_true (by kernel_rfl)) ?_; intro E hG hE; subst hG; simp only [ent]
        (repeat' (first | refine awp_seq ?_ | refine awp_block ?_ | refine awp_skip ?_ | refine awp_exit ?_ | ((first | refine rR (fun K kp hK hkp => ?_) | refine iG ?_); simp (implicitDefEqProofs := false) (maxSteps := 2000000) (disch := omega) only [go_sem, h1, h2, h3]; (repeat' (first | (refine hK _ ?_; clear hK hkp kp K) | (with_reducible refine And.intro ?_ ?_) | omega))) | ((first | refine aG (fun h => ?_) (fun h => ?_) | refine aD (fun h => ?_) (fun h => ?_) | refine aX (fun h => ?_) (fun h => ?_)) <;> simp only [h]) | refine awp_cond_t rfl ?_ | refine awp_cond_f rfl ?_ | ((refine awp_cond rfl (fun h => ?_) (fun h => ?_) <;> try simp only [ifs] at h) <;> (try (exfalso; omega))) | refine awp_ret ?_))
        (refine retA_is (by (simp (implicitDefEqProofs := false) (maxSteps := 2000000) (disch := omega) only [go_sem, Go.Proofs.Tryd.results42]); rfl) ?_; refine eN hE ?_; simp [oneA, ren, renL])
      · refine con_of_awp Go.Proofs.Tryd.func42 rfl (by kernel_rfl) (of_decide_eq_true (by kernel_rfl)) ?_; intro E hG hE; subst hG; simp only [ent]
        (repeat' (first | refine awp_seq ?_ | refine awp_block ?_ | refine awp_skip ?_ | refine awp_exit ?_ | ((first | refine rR (fun K kp hK hkp => ?_) | refine iG ?_); simp (implicitDefEqProofs := false) (maxSteps := 2000000) (disch := omega) only [go_sem, h1, h2, h3]; (repeat' (first | (refine hK _ ?_; clear hK hkp kp K) | (with_reducible refine And.intro ?_ ?_) | omega))) | ((first | refine aG (fun h => ?_) (fun h => ?_) | refine aD (fun h => ?_) (fun h => ?_) | refine aX (fun h => ?_) (fun h => ?_)) <;> simp only [h]) | refine awp_cond_t rfl ?_ | refine awp_cond_f rfl ?_ | ((refine awp_cond rfl (fun h => ?_) (fun h => ?_) <;> try simp only [ifs] at h) <;> (try (exfalso; omega))) | refine awp_ret ?_))
        (refine retA_is (by (simp (implicitDefEqProofs := false) (maxSteps := 2000000) (disch := omega) only [go_sem, Go.Proofs.Tryd.results42]); rfl) ?_; refine eN hE ?_; simp [oneA, ren, renL])
    · refine con_of_awp Go.Proofs.Tryd.func42 rfl (by kernel_rfl) (of_decide_eq_true (by kernel_rfl)) ?_; intro E hG hE; subst hG; simp only [ent]
      (repeat' (first | refine awp_seq ?_ | refine awp_block ?_ | refine awp_skip ?_ | refine awp_exit ?_ | ((first | refine rR (fun K kp hK hkp => ?_) | refine iG ?_); simp (implicitDefEqProofs := false) (maxSteps := 2000000) (disch := omega) only [go_sem, h1, h2]; (repeat' (first | (refine hK _ ?_; clear hK hkp kp K) | (with_reducible refine And.intro ?_ ?_) | omega))) | ((first | refine aG (fun h => ?_) (fun h => ?_) | refine aD (fun h => ?_) (fun h => ?_) | refine aX (fun h => ?_) (fun h => ?_)) <;> simp only [h]) | refine awp_cond_t rfl ?_ | refine awp_cond_f rfl ?_ | ((refine awp_cond rfl (fun h => ?_) (fun h => ?_) <;> try simp only [ifs] at h) <;> (try (exfalso; omega))) | refine awp_ret ?_))
      (refine retA_is (by (simp (implicitDefEqProofs := false) (maxSteps := 2000000) (disch := omega) only [go_sem, Go.Proofs.Tryd.results42]); rfl) ?_; refine eN hE ?_; simp [oneA, ren, renL])
  · refine con_of_awp Go.Proofs.Tryd.func42 rfl (by kernel_rfl) (of_decide_eq_true (by kernel_rfl)) ?_; intro E hG hE; subst hG; simp only [ent]
    (repeat' (first | refine awp_seq ?_ | refine awp_block ?_ | refine awp_skip ?_ | refine awp_exit ?_ | ((first | refine rR (fun K kp hK hkp => ?_) | refine iG ?_); simp (implicitDefEqProofs := false) (maxSteps := 2000000) (disch := omega) only [go_sem, h1]; (repeat' (first | (refine hK _ ?_; clear hK hkp kp K) | (with_reducible refine And.intro ?_ ?_) | omega))) | ((first | refine aG (fun h => ?_) (fun h => ?_) | refine aD (fun h => ?_) (fun h => ?_) | refine aX (fun h => ?_) (fun h => ?_)) <;> simp only [h]) | refine awp_cond_t rfl ?_ | refine awp_cond_f rfl ?_ | ((refine awp_cond rfl (fun h => ?_) (fun h => ?_) <;> try simp only [ifs] at h) <;> (try (exfalso; omega))) | refine awp_ret ?_))
    (refine retA_is (by (simp (implicitDefEqProofs := false) (maxSteps := 2000000) (disch := omega) only [go_sem, Go.Proofs.Tryd.results42]); rfl) ?_; refine eN hE ?_; simp [oneA, ren, renL])
set_option maxRecDepth 100000 in
theorem wrd_con (G : List (Nat × List Value)) (c : UInt8) : Con Go.Proofs.Tryd.prog G 72 [.r (.int .u8 c.toNat)] [] 0 (Is (.r (.bool (wrdB c.toNat))) [] 0) No := by
  have lc := letter_con G c
  have dc := digit_con G c
  cases h1 : letB c.toNat <;> rw [h1] at lc
  all_goals
    refine con_of_awp Go.Proofs.Tryd.func72 rfl (by kernel_rfl) (of_decide_eq_true (by kernel_rfl)) ?_; intro E hG hE; subst hG; simp only [ent]
    (repeat' (first | refine awp_seq ?_ | refine awp_block ?_ | refine awp_skip ?_ | refine awp_exit ?_ | ((first | refine rR (fun K kp hK hkp => ?_) | refine cR lc ?_ | refine cR dc ?_ | refine iG ?_); simp (implicitDefEqProofs := false) (maxSteps := 2000000) (disch := omega) only [go_sem]; (repeat' (first | (refine hK _ ?_; clear hK hkp kp K) | (with_reducible refine And.intro ?_ ?_) | omega))) | ((first | refine aG (fun h => ?_) (fun h => ?_) | refine aD (fun h => ?_) (fun h => ?_) | refine aX (fun h => ?_) (fun h => ?_)) <;> simp only [h]) | refine awp_cond_t rfl ?_ | refine awp_cond_f rfl ?_ | ((refine awp_cond rfl (fun h => ?_) (fun h => ?_) <;> try simp only [ifs] at h) <;> (try (exfalso; omega))) | refine awp_ret ?_))
    (refine retA_is (by (simp (implicitDefEqProofs := false) (maxSteps := 2000000) (disch := omega) only [go_sem, Go.Proofs.Tryd.results72]); rfl) ?_; refine eN hE ?_; simp [oneA, ren, renL])
    simp [wrdB, h1]
set_option maxRecDepth 100000 in
set_option maxHeartbeats 4000000 in
theorem span_con (G : List (Nat × List Value)) (f : Nat) (p : Int → Bool) (hf : ∀ G (c : UInt8), Con Go.Proofs.Tryd.prog G f [.r (.int .u8 c.toNat)] [] 0 (Is (.r (.bool (p c.toNat))) [] 0) No) (l : List UInt8) (hl : l.length ≤ 1048576) :
    Con Go.Proofs.Tryd.prog G 41 [.r (.string ⟨l.toArray⟩), .fn f []] [] 0 (Is (.r (.int .i64 (spanP p l))) [] 0) No := by
  refine con_of_awp Go.Proofs.Tryd.func41 rfl (by kernel_rfl) (of_decide_eq_true (by kernel_rfl)) ?_; intro E hG hE; subst hG; simp only [ent]
  (repeat' (first | refine awp_seq ?_ | refine awp_block ?_ | refine awp_skip ?_ | refine awp_exit ?_ | ((first | refine rR (fun K kp hK hkp => ?_) | refine iG ?_); simp (implicitDefEqProofs := false) (maxSteps := 2000000) (disch := omega) only [go_sem]; (repeat' (first | (refine hK _ ?_; clear hK hkp kp K) | (with_reducible refine And.intro ?_ ?_) | omega))) | ((first | refine aG (fun h => ?_) (fun h => ?_) | refine aD (fun h => ?_) (fun h => ?_) | refine aX (fun h => ?_) (fun h => ?_)) <;> simp only [h]) | refine awp_cond_t rfl ?_ | refine awp_cond_f rfl ?_ | ((refine awp_cond rfl (fun h => ?_) (fun h => ?_) <;> try simp only [ifs] at h) <;> (try (exfalso; omega))) | refine awp_ret ?_))
  refine awp_loop (fun k : Nat => ⟨[(5, .r (.int .i64 k)), (0, .r (.string ⟨l.toArray⟩)), (1, .fn f [])], [], 0⟩) (fun k => k ≤ l.length ∧ k + spanP p (l.drop k) = spanP p l) (fun k => l.length - k) 0 ?_ ?_ ?_
  · simp
  · (refine emb [] ?_ ?_ rfl ?_ ?_ ?_ ?_ <;> simp [okM, okO, lk, ren, renL, renNd, by_, hE] <;> (try omega) <;> (try (intro i hi; first | (rcases (by omega : i = 0 ∨ i = 1 ∨ i = 2) with rfl | rfl | rfl <;> rfl) | (rcases (by omega : i = 0 ∨ i = 1) with rfl | rfl <;> rfl))))
  rintro k ⟨hk, hs⟩
  by_cases hlt : k < l.length
  · have d1 : decide ((k : Int) < (l.toArray.size : Int)) = true := decide_eq_true (by rw [List.size_toArray]; omega)
    obtain ⟨c, hc⟩ : ∃ c, l[k]? = some c := ⟨l[k], by simp [hlt]⟩
    have hb : (⟨l.toArray⟩ : ByteArray)[k]? = some c := by rw [ba_get]; exact hc
    have fc := hf E.G c
    cases hp : p c.toNat
    · rw [hp] at fc
      rw [spanP_no hc hp] at hs
      (repeat' (first | refine awp_seq ?_ | refine awp_block ?_ | refine awp_skip ?_ | refine awp_exit ?_ | ((first | refine rR (fun K kp hK hkp => ?_) | refine cR fc ?_ | refine iG ?_); simp (implicitDefEqProofs := false) (maxSteps := 2000000) (disch := omega) only [go_sem, d1, hb]; (repeat' (first | (refine hK _ ?_; clear hK hkp kp K) | (with_reducible refine And.intro ?_ ?_) | omega))) | ((first | refine aG (fun h => ?_) (fun h => ?_) | refine aD (fun h => ?_) (fun h => ?_) | refine aX (fun h => ?_) (fun h => ?_)) <;> simp only [h]) | refine awp_cond_t rfl ?_ | refine awp_cond_f rfl ?_ | ((refine awp_cond rfl (fun h => ?_) (fun h => ?_) <;> try simp only [ifs] at h) <;> (try (exfalso; omega))) | refine awp_ret ?_))
      rw [← hs]
      (refine retA_is (by (simp (implicitDefEqProofs := false) (maxSteps := 2000000) (disch := omega) only [go_sem, Go.Proofs.Tryd.results41]); rfl) ?_; refine eN hE ?_; simp [oneA, ren, renL])
    · rw [hp] at fc
      rw [spanP_yes hc hp] at hs
      (repeat' (first | refine awp_seq ?_ | refine awp_block ?_ | refine awp_skip ?_ | refine awp_exit ?_ | ((first | refine rR (fun K kp hK hkp => ?_) | refine cR fc ?_ | refine iG ?_); simp (implicitDefEqProofs := false) (maxSteps := 2000000) (disch := omega) only [go_sem, d1, hb]; (repeat' (first | (refine hK _ ?_; clear hK hkp kp K) | (with_reducible refine And.intro ?_ ?_) | omega))) | ((first | refine aG (fun h => ?_) (fun h => ?_) | refine aD (fun h => ?_) (fun h => ?_) | refine aX (fun h => ?_) (fun h => ?_)) <;> simp only [h]) | refine awp_cond_t rfl ?_ | refine awp_cond_f rfl ?_ | ((refine awp_cond rfl (fun h => ?_) (fun h => ?_) <;> try simp only [ifs] at h) <;> (try (exfalso; omega))) | refine awp_ret ?_))
      ((first | (refine nextB (k + 1) ?_ ?_ ?_) | (refine nextA (k + 1) ?_ ?_ ?_) | (refine nextE (k + 1) ?_ ?_ ?_)); rotate_left; (· (try dsimp only); (first | omega | (simp only [List.length_drop, List.length_cons, List.length_append]; omega) | (simp; done) | (simp; omega))); (· (refine emb [] ?_ ?_ rfl ?_ ?_ ?_ ?_ <;> simp [okM, okO, lk, ren, renL, renNd, by_, hE] <;> (try omega) <;> (try (intro i hi; first | (rcases (by omega : i = 0 ∨ i = 1 ∨ i = 2) with rfl | rfl | rfl <;> rfl) | (rcases (by omega : i = 0 ∨ i = 1) with rfl | rfl <;> rfl))))))
      exact ⟨hlt, hs⟩
  · have d1 : decide ((k : Int) < (l.toArray.size : Int)) = false := decide_eq_false (by rw [List.size_toArray]; omega)
    rw [List.drop_of_length_le (by omega)] at hs
    simp only [spanP, Nat.add_zero] at hs
    (repeat' (first | refine awp_seq ?_ | refine awp_block ?_ | refine awp_skip ?_ | refine awp_exit ?_ | ((first | refine rR (fun K kp hK hkp => ?_) | refine iG ?_); simp (implicitDefEqProofs := false) (maxSteps := 2000000) (disch := omega) only [go_sem, d1]; (repeat' (first | (refine hK _ ?_; clear hK hkp kp K) | (with_reducible refine And.intro ?_ ?_) | omega))) | ((first | refine aG (fun h => ?_) (fun h => ?_) | refine aD (fun h => ?_) (fun h => ?_) | refine aX (fun h => ?_) (fun h => ?_)) <;> simp only [h]) | refine awp_cond_t rfl ?_ | refine awp_cond_f rfl ?_ | ((refine awp_cond rfl (fun h => ?_) (fun h => ?_) <;> try simp only [ifs] at h) <;> (try (exfalso; omega))) | refine awp_ret ?_))
    rw [← hs]
    (refine retA_is (by (simp (implicitDefEqProofs := false) (maxSteps := 2000000) (disch := omega) only [go_sem, Go.Proofs.Tryd.results41]); rfl) ?_; refine eN hE ?_; simp [oneA, ren, renL])
end Go.AM
/- Texts in quotes. -/
namespace Go.AM
open Go Go.RowKit
attribute [local irreducible] AWP retA
def oneR : Except Int (TK0 × Nat) → AV
  | .error e => .tup [.agg (eT ⟨0, ⟨#[]⟩, 0⟩), .r (.int .i64 0), .r (.int .i64 e)]
  | .ok x => .tup [.agg (eT x.1), .r (.int .i64 x.2), .r (.int .i64 0)]
def textE : Option (List UInt8 × Nat) → Except Int (TK0 × Nat)
  | none => .error 7
  | some x => .ok (⟨3, ⟨x.1.toArray⟩, 0⟩, x.2 + 1)
theorem text_else {c : UInt8} {r : List UInt8} (h : c ≠ 39) : textM (c :: r) = (textM r).map fun x => (c :: x.1, x.2 + 1) := by
  cases r with
  | nil => simp [textM, h]
  | cons d r => rw [textM, if_neg h]
theorem text_two (r : List UInt8) : textM (39 :: 39 :: r) = (textM r).map fun x => (39 :: x.1, x.2 + 2) := by rw [textM, if_pos rfl, if_pos rfl]
theorem text_end {r : List UInt8} (h : r[0]? ≠ some 39) : textM (39 :: r) = some ([], 1) := by
  cases r with
  | nil => simp [textM]
  | cons d r => rw [textM, if_pos rfl, if_neg (by simpa using h)]
def onT (acc : List UInt8) (i : Nat) (x : List UInt8 × Nat) : List UInt8 × Nat := (acc ++ x.1, x.2 + i)
theorem onT_one (acc : List UInt8) (i : Nat) (c : UInt8) (o : Option (List UInt8 × Nat)) : (o.map fun x => (c :: x.1, x.2 + 1)).map (onT acc i) = o.map (onT (acc ++ [c]) (i + 1)) := by
  cases o with
  | none => rfl
  | some x => simp [onT]; omega
theorem onT_two (acc : List UInt8) (i : Nat) (c : UInt8) (o : Option (List UInt8 × Nat)) : (o.map fun x => (c :: x.1, x.2 + 2)).map (onT acc i) = o.map (onT (acc ++ [c]) (i + 2)) := by
  cases o with
  | none => rfl
  | some x => simp [onT]; omega
set_option maxRecDepth 100000 in
set_option maxHeartbeats 8000000 in
theorem text_con (G : List (Nat × List Value)) (l : List UInt8) (h0 : 0 < l.length) (hl : l.length ≤ 1048576) : Con Go.Proofs.Tryd.prog G 74 [.r (.string ⟨l.toArray⟩)] [] 0 (Is (oneR (textE (textM (l.drop 1)))) [] 0) No := by
  obtain ⟨R, hR⟩ : ∃ R, textM (l.drop 1) = R := ⟨_, rfl⟩
  rw [hR]
  refine con_of_awp Go.Proofs.Tryd.func74 rfl (by kernel_rfl) (of_decide_eq_true (by kernel_rfl)) ?_; intro E hG hE; subst hG; simp only [ent]
  (repeat' (first | refine awp_seq ?_ | refine awp_block ?_ | refine awp_skip ?_ | refine awp_exit ?_ | ((first | refine rR (fun K kp hK hkp => ?_) | refine iG ?_); simp (implicitDefEqProofs := false) (maxSteps := 2000000) (disch := omega) only [go_sem]; (repeat' (first | (refine hK _ ?_; clear hK hkp kp K) | (with_reducible refine And.intro ?_ ?_) | omega))) | ((first | refine aG (fun h => ?_) (fun h => ?_) | refine aD (fun h => ?_) (fun h => ?_) | refine aX (fun h => ?_) (fun h => ?_)) <;> simp only [h]) | refine awp_cond_t rfl ?_ | refine awp_cond_f rfl ?_ | ((refine awp_cond rfl (fun h => ?_) (fun h => ?_) <;> try simp only [ifs] at h) <;> (try (exfalso; omega))) | refine awp_ret ?_))
  (refine AWP.emb (emb_nil 5 5 1 ?_) ?_; (· rfl); dsimp only)
  refine awp_loop (fun d : Nat × List UInt8 => ⟨[(6, .r (.int .i64 d.1)), (5, .s 1 0 d.2.length), (2, .p 0 0 0), (0, .r (.string ⟨l.toArray⟩))], [(0, .box 66 (eT ⟨0, ⟨#[]⟩, 0⟩)), (1, .lst 5 1 (d.2.map eByte))], 2⟩) (fun d => 1 ≤ d.1 ∧ d.1 ≤ l.length ∧ d.2.length ≤ d.1 ∧ (textM (l.drop d.1)).map (onT d.2 (d.1 - 1)) = R) (fun d => l.length - d.1) (1, []) ?_ ?_ ?_
  · refine ⟨Nat.le_refl _, h0, by simp, ?_⟩
    rw [← hR]
    cases textM (l.drop 1) <;> simp [onT]
  · (refine emb [0, 1] ?_ ?_ rfl ?_ ?_ ?_ ?_ <;> simp [okM, okO, lk, ren, renL, renNd, by_, hE, eT] <;> (try omega) <;> (try (intro i hi; first | (rcases (by omega : i = 0 ∨ i = 1 ∨ i = 2) with rfl | rfl | rfl <;> rfl) | (rcases (by omega : i = 0 ∨ i = 1) with rfl | rfl <;> rfl))))
  rintro ⟨j, acc⟩ ⟨h1, hi, ha, ht⟩
  simp only at h1 hi ha ht ⊢
  by_cases hlt : j < l.length
  · have d1 : decide ((j : Int) < (l.toArray.size : Int)) = true := decide_eq_true (by rw [List.size_toArray]; omega)
    obtain ⟨c, hc⟩ : ∃ c, l[j]? = some c := ⟨l[j], by simp [hlt]⟩
    have hb : (⟨l.toArray⟩ : ByteArray)[j]? = some c := by rw [ba_get]; exact hc
    rw [drop_cons hc] at ht
    by_cases h39 : c = 39
    · have e39 : ((c.toNat : Int) == 39) = true := by rw [h39]; rfl
      rw [h39] at ht
      by_cases hlt2 : j + 1 < l.length
      · obtain ⟨d, hd⟩ : ∃ d, l[j + 1]? = some d := ⟨l[j + 1], by simp [hlt2]⟩
        have hb2 : (⟨l.toArray⟩ : ByteArray)[j + 1]? = some d := by rw [ba_get]; exact hd
        have d2 : ((j : Int) + 1 == (l.toArray.size : Int)) = false := by
          rw [List.size_toArray, beq_eq_false_iff_ne]; omega
        by_cases hd39 : d = 39
        · have ed : ((d.toNat : Int) != 39) = false := by rw [hd39]; rfl
          rw [drop_cons hd, hd39, text_two, onT_two, ← hd39, show j - 1 + 2 = j + 2 - 1 by omega] at ht
          (repeat' (first | refine awp_seq ?_ | refine awp_block ?_ | refine awp_skip ?_ | refine awp_exit ?_ | ((first | refine rR (fun K kp hK hkp => ?_) | refine iG ?_); simp (implicitDefEqProofs := false) (maxSteps := 2000000) (disch := omega) only [go_sem, eT, d1, hb, e39, d2, hb2, ed]; (repeat' (first | (refine hK _ ?_; clear hK hkp kp K) | (with_reducible refine And.intro ?_ ?_) | omega))) | ((first | refine aG (fun h => ?_) (fun h => ?_) | refine aD (fun h => ?_) (fun h => ?_) | refine aX (fun h => ?_) (fun h => ?_)) <;> simp only [h]) | refine awp_cond_t rfl ?_ | refine awp_cond_f rfl ?_ | ((refine awp_cond rfl (fun h => ?_) (fun h => ?_) <;> try simp only [ifs] at h) <;> (try (exfalso; omega))) | refine awp_ret ?_))
          ((first | (refine nextB ((j + 2, acc ++ [d])) ?_ ?_ ?_) | (refine nextA ((j + 2, acc ++ [d])) ?_ ?_ ?_) | (refine nextE ((j + 2, acc ++ [d])) ?_ ?_ ?_)); rotate_left; (· (try dsimp only); (first | omega | (simp only [List.length_drop, List.length_cons, List.length_append]; omega) | (simp; done) | (simp; omega))); (· (refine emb [0, 3] ?_ ?_ rfl ?_ ?_ ?_ ?_ <;> simp [okM, okO, lk, ren, renL, renNd, by_, hE, eT, eByte] <;> (try omega) <;> (try (intro i hi; first | (rcases (by omega : i = 0 ∨ i = 1 ∨ i = 2) with rfl | rfl | rfl <;> rfl) | (rcases (by omega : i = 0 ∨ i = 1) with rfl | rfl <;> rfl))))))
          exact ⟨by simp only; omega, hlt2, by simp; omega, ht⟩
        · have ed : ((d.toNat : Int) != 39) = true := by
            rw [bne_iff_ne]; intro h; exact hd39 (UInt8.toNat_inj.1 (show d.toNat = (39 : UInt8).toNat by have : (39 : UInt8).toNat = 39 := rfl; omega))
          rw [text_end (by rw [List.getElem?_drop]; simpa [hd] using hd39)] at ht
          simp only [Option.map_some, onT, List.append_nil] at ht
          subst ht
          (repeat' (first | refine awp_seq ?_ | refine awp_block ?_ | refine awp_skip ?_ | refine awp_exit ?_ | ((first | refine rR (fun K kp hK hkp => ?_) | refine iG ?_); simp (implicitDefEqProofs := false) (maxSteps := 2000000) (disch := omega) only [go_sem, eT, d1, hb, e39, d2, hb2, ed, unb_map]; (repeat' (first | (refine hK _ ?_; clear hK hkp kp K) | (with_reducible refine And.intro ?_ ?_) | omega))) | ((first | refine aG (fun h => ?_) (fun h => ?_) | refine aD (fun h => ?_) (fun h => ?_) | refine aX (fun h => ?_) (fun h => ?_)) <;> simp only [h]) | refine awp_cond_t rfl ?_ | refine awp_cond_f rfl ?_ | ((refine awp_cond rfl (fun h => ?_) (fun h => ?_) <;> try simp only [ifs] at h) <;> (try (exfalso; omega))) | refine awp_ret ?_))
          (refine retA_is (by (simp (implicitDefEqProofs := false) (maxSteps := 2000000) (disch := omega) only [go_sem, Go.Proofs.Tryd.results74, oneR, textE, eT]); rfl) ?_; refine eN hE ?_; simp [oneA, ren, renL, oneR, textE, eT])
          omega
      · have d2 : ((j : Int) + 1 == (l.toArray.size : Int)) = true := by
          rw [List.size_toArray, beq_iff_eq]; omega
        rw [text_end (by rw [List.getElem?_drop, List.getElem?_eq_none (by omega)]; simp)] at ht
        simp only [Option.map_some, onT, List.append_nil] at ht
        subst ht
        (repeat' (first | refine awp_seq ?_ | refine awp_block ?_ | refine awp_skip ?_ | refine awp_exit ?_ | ((first | refine rR (fun K kp hK hkp => ?_) | refine iG ?_); simp (implicitDefEqProofs := false) (maxSteps := 2000000) (disch := omega) only [go_sem, eT, d1, hb, e39, d2, unb_map]; (repeat' (first | (refine hK _ ?_; clear hK hkp kp K) | (with_reducible refine And.intro ?_ ?_) | omega))) | ((first | refine aG (fun h => ?_) (fun h => ?_) | refine aD (fun h => ?_) (fun h => ?_) | refine aX (fun h => ?_) (fun h => ?_)) <;> simp only [h]) | refine awp_cond_t rfl ?_ | refine awp_cond_f rfl ?_ | ((refine awp_cond rfl (fun h => ?_) (fun h => ?_) <;> try simp only [ifs] at h) <;> (try (exfalso; omega))) | refine awp_ret ?_))
        (refine retA_is (by (simp (implicitDefEqProofs := false) (maxSteps := 2000000) (disch := omega) only [go_sem, Go.Proofs.Tryd.results74, oneR, textE, eT]); rfl) ?_; refine eN hE ?_; simp [oneA, ren, renL, oneR, textE, eT])
        omega
    · have ec : ((c.toNat : Int) == 39) = false := by
        rw [beq_eq_false_iff_ne]; intro h; exact h39 (UInt8.toNat_inj.1 (show c.toNat = (39 : UInt8).toNat by have : (39 : UInt8).toNat = 39 := rfl; omega))
      rw [text_else h39, onT_one, show j - 1 + 1 = j + 1 - 1 by omega] at ht
      (repeat' (first | refine awp_seq ?_ | refine awp_block ?_ | refine awp_skip ?_ | refine awp_exit ?_ | ((first | refine rR (fun K kp hK hkp => ?_) | refine iG ?_); simp (implicitDefEqProofs := false) (maxSteps := 2000000) (disch := omega) only [go_sem, eT, d1, hb, ec]; (repeat' (first | (refine hK _ ?_; clear hK hkp kp K) | (with_reducible refine And.intro ?_ ?_) | omega))) | ((first | refine aG (fun h => ?_) (fun h => ?_) | refine aD (fun h => ?_) (fun h => ?_) | refine aX (fun h => ?_) (fun h => ?_)) <;> simp only [h]) | refine awp_cond_t rfl ?_ | refine awp_cond_f rfl ?_ | ((refine awp_cond rfl (fun h => ?_) (fun h => ?_) <;> try simp only [ifs] at h) <;> (try (exfalso; omega))) | refine awp_ret ?_))
      ((first | (refine nextB ((j + 1, acc ++ [c])) ?_ ?_ ?_) | (refine nextA ((j + 1, acc ++ [c])) ?_ ?_ ?_) | (refine nextE ((j + 1, acc ++ [c])) ?_ ?_ ?_)); rotate_left; (· (try dsimp only); (first | omega | (simp only [List.length_drop, List.length_cons, List.length_append]; omega) | (simp; done) | (simp; omega))); (· (refine emb [0, 3] ?_ ?_ rfl ?_ ?_ ?_ ?_ <;> simp [okM, okO, lk, ren, renL, renNd, by_, hE, eT, eByte] <;> (try omega) <;> (try (intro i hi; first | (rcases (by omega : i = 0 ∨ i = 1 ∨ i = 2) with rfl | rfl | rfl <;> rfl) | (rcases (by omega : i = 0 ∨ i = 1) with rfl | rfl <;> rfl))))))
      exact ⟨by simp only; omega, hlt, by simp; omega, ht⟩
  · have d1 : decide ((j : Int) < (l.toArray.size : Int)) = false := decide_eq_false (by rw [List.size_toArray]; omega)
    rw [List.drop_of_length_le (by omega)] at ht
    simp only [textM, Option.map_none] at ht
    subst ht
    (repeat' (first | refine awp_seq ?_ | refine awp_block ?_ | refine awp_skip ?_ | refine awp_exit ?_ | ((first | refine rR (fun K kp hK hkp => ?_) | refine iG ?_); simp (implicitDefEqProofs := false) (maxSteps := 2000000) (disch := omega) only [go_sem, eT, d1]; (repeat' (first | (refine hK _ ?_; clear hK hkp kp K) | (with_reducible refine And.intro ?_ ?_) | omega))) | ((first | refine aG (fun h => ?_) (fun h => ?_) | refine aD (fun h => ?_) (fun h => ?_) | refine aX (fun h => ?_) (fun h => ?_)) <;> simp only [h]) | refine awp_cond_t rfl ?_ | refine awp_cond_f rfl ?_ | ((refine awp_cond rfl (fun h => ?_) (fun h => ?_) <;> try simp only [ifs] at h) <;> (try (exfalso; omega))) | refine awp_ret ?_))
    (refine retA_is (by (simp (implicitDefEqProofs := false) (maxSteps := 2000000) (disch := omega) only [go_sem, Go.Proofs.Tryd.results74, oneR, textE, eT]); rfl) ?_; refine eN hE ?_; simp [oneA, ren, renL, oneR, textE, eT])
end Go.AM
/-
  DERIVED: THE SHELF's CONTRACTS AT THIS DUMP, IN PLAIN WORDS (tools/lay-plain.mjs out of 'TrydSaShelf.lean', which tools/lay-shelf.mjs wrote): THE SAME DECLARATIONS UNDER THE SAME NAMES: 'import', 'namespace', 'open', 'def', 'theorem' AND NOTHING ELSE: no command of the shelf's: FOR A HAND-IN. Each laying: the table of numbers ('.._ren') and one theorem, a field a fact of the dump's own or the kernel's comparison; each contract: ONE APPLICATION.
-/
namespace Go.Proofs.YteebiklebedneaaDoor
open Go.Shelf
def Sh.laysC172_ren : Go.Shelf.Ren := ⟨fun | 172 => 73 | 244 => 98 | 245 => 99 | 247 => 126 | 279 => 127 | 280 => 128 | 281 => 129 | 282 => 130 | 287 => 147 | 316 => 148 | 171 => 35 | 205 => 149 | 321 => 155 | 322 => 156 | 243 => 68 | 246 => 97 | 283 => 122 | 284 => 123 | 285 => 124 | 286 => 125 | 129 => 116 | 317 => 143 | 318 => 144 | 319 => 145 | 320 => 146 | 337 => 153 | 338 => 154 | n => n, fun | 9 => 9 | 3 => 3 | 75 => 69 | 76 => 70 | 4 => 4 | 5 => 5 | 167 => 149 | 37 => 24 | 0 => 0 | 85 => 150 | 2 => 2 | 168 => 152 | 53 => 59 | 175 => 169 | 46 => 120 | 210 => 173 | 127 => 104 | 145 => 183 | 143 => 181 | 21 => 21 | 171 => 145 | 173 => 147 | 212 => 167 | 51 => 141 | 20 => 20 | 213 => 168 | 232 => 184 | 233 => 185 | 80 => 75 | n => n, fun | 15 => 7 | 16 => 8 | 17 => 6 | 18 => 9 | 19 => 10 | n => n⟩
theorem Sh.laysC172 : Go.Proofs.LaysC.n172 Tryd.prog Sh.laysC172_ren := {
  mixed := by kernel_rfl
  f129 := Tryd.func116.trans (congrArg some (by kernel_rfl))
  f171 := Tryd.func35.trans (congrArg some (by kernel_rfl))
  f172 := Tryd.func73.trans (congrArg some (by kernel_rfl))
  f205 := Tryd.func149.trans (congrArg some (by kernel_rfl))
  f243 := Tryd.func68.trans (congrArg some (by kernel_rfl))
  f244 := Tryd.func98.trans (congrArg some (by kernel_rfl))
  f245 := Tryd.func99.trans (congrArg some (by kernel_rfl))
  f246 := Tryd.func97.trans (congrArg some (by kernel_rfl))
  f247 := Tryd.func126.trans (congrArg some (by kernel_rfl))
  f279 := Tryd.func127.trans (congrArg some (by kernel_rfl))
  f280 := Tryd.func128.trans (congrArg some (by kernel_rfl))
  f281 := Tryd.func129.trans (congrArg some (by kernel_rfl))
  f282 := Tryd.func130.trans (congrArg some (by kernel_rfl))
  f283 := Tryd.func122.trans (congrArg some (by kernel_rfl))
  f284 := Tryd.func123.trans (congrArg some (by kernel_rfl))
  f285 := Tryd.func124.trans (congrArg some (by kernel_rfl))
  f286 := Tryd.func125.trans (congrArg some (by kernel_rfl))
  f287 := Tryd.func147.trans (congrArg some (by kernel_rfl))
  f316 := Tryd.func148.trans (congrArg some (by kernel_rfl))
  f317 := Tryd.func143.trans (congrArg some (by kernel_rfl))
  f318 := Tryd.func144.trans (congrArg some (by kernel_rfl))
  f319 := Tryd.func145.trans (congrArg some (by kernel_rfl))
  f320 := Tryd.func146.trans (congrArg some (by kernel_rfl))
  f321 := Tryd.func155.trans (congrArg some (by kernel_rfl))
  f322 := Tryd.func156.trans (congrArg some (by kernel_rfl))
  f337 := Tryd.func153.trans (congrArg some (by kernel_rfl))
  f338 := Tryd.func154.trans (congrArg some (by kernel_rfl))
  t0 := Tryd.underlying0
  a0 := Tryd.isAgg0
  z0 := Tryd.sizeOf0
  v0 := Tryd.zeroValue0
  t2 := Tryd.underlying2
  a2 := Tryd.isAgg2
  z2 := Tryd.sizeOf2
  v2 := Tryd.zeroValue2
  t3 := Tryd.underlying3
  a3 := Tryd.isAgg3
  z3 := Tryd.sizeOf3
  v3 := Tryd.zeroValue3
  t4 := Tryd.underlying4
  a4 := Tryd.isAgg4
  z4 := Tryd.sizeOf4
  v4 := Tryd.zeroValue4
  t5 := Tryd.underlying5
  a5 := Tryd.isAgg5
  z5 := Tryd.sizeOf5
  v5 := Tryd.zeroValue5
  t9 := Tryd.underlying9
  a9 := Tryd.isAgg9
  z9 := Tryd.sizeOf9
  v9 := Tryd.zeroValue9
  t20 := Tryd.underlying20
  a20 := Tryd.isAgg20
  z20 := Tryd.sizeOf20
  v20 := Tryd.zeroValue20
  t21 := Tryd.underlying21
  a21 := Tryd.isAgg21
  z21 := Tryd.sizeOf21
  v21 := Tryd.zeroValue21
  t37 := Tryd.underlying24
  a37 := Tryd.isAgg24
  z37 := Tryd.sizeOf24
  v37 := Tryd.zeroValue24
  t46 := Tryd.underlying120
  a46 := Tryd.isAgg120
  z46 := Tryd.sizeOf120
  v46 := Tryd.zeroValue120
  t51 := Tryd.underlying141
  a51 := Tryd.isAgg141
  z51 := Tryd.sizeOf141
  v51 := Tryd.zeroValue141
  t53 := Tryd.underlying59
  a53 := Tryd.isAgg59
  z53 := Tryd.sizeOf59
  v53 := Tryd.zeroValue59
  t75 := Tryd.underlying69
  a75 := Tryd.isAgg69
  z75 := Tryd.sizeOf69
  v75 := Tryd.zeroValue69
  t76 := Tryd.underlying70
  a76 := Tryd.isAgg70
  z76 := Tryd.sizeOf70
  v76 := Tryd.zeroValue70
  t85 := Tryd.underlying150
  a85 := Tryd.isAgg150
  z85 := Tryd.sizeOf150
  v85 := Tryd.zeroValue150
  t127 := Tryd.underlying104
  a127 := Tryd.isAgg104
  z127 := Tryd.sizeOf104
  v127 := Tryd.zeroValue104
  t143 := Tryd.underlying181
  a143 := Tryd.isAgg181
  z143 := Tryd.sizeOf181
  v143 := Tryd.zeroValue181
  t145 := Tryd.underlying183
  a145 := Tryd.isAgg183
  z145 := Tryd.sizeOf183
  v145 := Tryd.zeroValue183
  t167 := Tryd.underlying149
  a167 := Tryd.isAgg149
  z167 := Tryd.sizeOf149
  v167 := Tryd.zeroValue149
  t168 := Tryd.underlying152
  a168 := Tryd.isAgg152
  z168 := Tryd.sizeOf152
  v168 := Tryd.zeroValue152
  t171 := Tryd.underlying145
  a171 := Tryd.isAgg145
  z171 := Tryd.sizeOf145
  v171 := Tryd.zeroValue145
  t173 := Tryd.underlying147
  a173 := Tryd.isAgg147
  z173 := Tryd.sizeOf147
  v173 := Tryd.zeroValue147
  t175 := Tryd.underlying169
  a175 := Tryd.isAgg169
  z175 := Tryd.sizeOf169
  v175 := Tryd.zeroValue169
  t210 := Tryd.underlying173
  a210 := Tryd.isAgg173
  z210 := Tryd.sizeOf173
  v210 := Tryd.zeroValue173
  t212 := Tryd.underlying167
  a212 := Tryd.isAgg167
  z212 := Tryd.sizeOf167
  v212 := Tryd.zeroValue167
  t213 := Tryd.underlying168
  a213 := Tryd.isAgg168
  z213 := Tryd.sizeOf168
  t232 := Tryd.underlying184
  a232 := Tryd.isAgg184
  z232 := Tryd.sizeOf184
  v232 := Tryd.zeroValue184
  t233 := Tryd.underlying185
  a233 := Tryd.isAgg185
  z233 := Tryd.sizeOf185
  v233 := Tryd.zeroValue185
  g15 := by kernel_rfl
  g16 := by kernel_rfl
  g17 := by kernel_rfl
  g18 := by kernel_rfl
  g19 := by kernel_rfl
  t80 := Tryd.underlying75
  a80 := Tryd.isAgg75
  z80 := Tryd.sizeOf75
  v80 := Tryd.zeroValue75
  i0 := by kernel_rfl
  i2 := by kernel_rfl
  i3 := by kernel_rfl
  i4 := by kernel_rfl
  i5 := by kernel_rfl
  i9 := by kernel_rfl
  i20 := by kernel_rfl
  i21 := by kernel_rfl
  i37 := by kernel_rfl
  i46 := by kernel_rfl
  i51 := by kernel_rfl
  i53 := by kernel_rfl
  i75 := by kernel_rfl
  i76 := by kernel_rfl
  i80 := by kernel_rfl
  i85 := by kernel_rfl
  i127 := by kernel_rfl
  i143 := by kernel_rfl
  i145 := by kernel_rfl
  i167 := by kernel_rfl
  i168 := by kernel_rfl
  i171 := by kernel_rfl
  i173 := by kernel_rfl
  i175 := by kernel_rfl
  i210 := by kernel_rfl
  i212 := by kernel_rfl
  i232 := by kernel_rfl
  i233 := by kernel_rfl
  m15 := by kernel_rfl
  m16 := by kernel_rfl
  m17 := by kernel_rfl
  m18 := by kernel_rfl
  m19 := by kernel_rfl
  c0 := by kernel_rfl
  c2 := by kernel_rfl
  c3 := by kernel_rfl
  c4 := by kernel_rfl
  c5 := by kernel_rfl
  c9 := by kernel_rfl
  c20 := by kernel_rfl
  c21 := by kernel_rfl
  c37 := by kernel_rfl
  c46 := by kernel_rfl
  c51 := by kernel_rfl
  c53 := by kernel_rfl
  c75 := by kernel_rfl
  c76 := by kernel_rfl
  c80 := by kernel_rfl
  c85 := by kernel_rfl
  c127 := by kernel_rfl
  c143 := by kernel_rfl
  c145 := by kernel_rfl
  c167 := by kernel_rfl
  c168 := by kernel_rfl
  c171 := by kernel_rfl
  c173 := by kernel_rfl
  c175 := by kernel_rfl
  c210 := by kernel_rfl
  c212 := by kernel_rfl
  c213 := by kernel_rfl
  c232 := by kernel_rfl
  c233 := by kernel_rfl }
open Go.RowKit in
/-- strconv.Atoi, AT EVERY STRING THAT SPELLS AN int ('Lib.atoiAll .. = .ok v'; of whatever length: leading zeros count): v, AND NO ERROR. The world: as it was, or with the one new row that '[]byte(..)' lays. (LAID: no walk: one application.) -/
theorem Sh.strconv_Atoi_ok (s : ByteArray) (hmax : s.size ≤ 9223372036854775806) (v : Int) (h : Lib.atoiAll s.data.toList = .ok v) (w : World) :
    Calls Tryd.prog 73 #[.string s] w fun e w' => e = .returned (.tuple #[.int .i64 v, .nilIface]) ∧ (w' = w ∨ ∃ t, w' = Lib.bytesWorld w 5 t) := Any.strconv_Atoi_ok Sh.laysC172 s hmax v h w
open Go.RowKit in
/-- strconv.Atoi, AT EVERY NUMERAL THAT NO int HOLDS ('.range'): THE GREATEST OR THE LEAST int, BY THE SIGN ('Lib.atoiSat'), AND AN ERROR THAT IS NOT nil: a *NumError in a new block N: {Func: "Atoi", Num: s's bytes, Err: what the variable ErrRange holds}. Of what was there nothing has turned. (LAID: no walk: one application.) -/
theorem Sh.strconv_Atoi_range (s : ByteArray) (hlim : s.size ≤ 281474976710656) (h : Lib.atoiAll s.data.toList = .range) (ev : Value) (w : World) (hv : w.cell? ⟨8, 0, none⟩ = some ev) (hev : ev = .nilIface ∨ ∃ te pe, ev = .iface te pe) :
    Calls Tryd.prog 73 #[.string s] w fun e w' => ∃ N, e = .returned (.tuple #[.int .i64 (Lib.atoiSat s.data.toList), .iface 152 (.pointer (some ⟨N, 0, none⟩))]) ∧ w.heap.size ≤ N ∧ w'.heap[N]? = some (.cells #[.string ⟨#[65, 116, 111, 105]⟩, .string s, ev] 173 (0, 0)) ∧ Below w.heap.size w w' := Any.strconv_Atoi_range Sh.laysC172 s hlim h ev w hv hev
def Sh.lays99_ren : Go.Shelf.Ren := ⟨fun | 99 => 75 | 206 => 100 | n => n, fun | 9 => 9 | 4 => 4 | 3 => 3 | n => n, fun | n => n⟩
theorem Sh.lays99 : Go.Proofs.Lays.n99 Tryd.prog Sh.lays99_ren := {
  mixed := by kernel_rfl
  f99 := Tryd.func75.trans (congrArg some (by kernel_rfl))
  f206 := Tryd.func100.trans (congrArg some (by kernel_rfl))
  t3 := Tryd.underlying3
  a3 := Tryd.isAgg3
  z3 := Tryd.sizeOf3
  v3 := Tryd.zeroValue3
  t4 := Tryd.underlying4
  a4 := Tryd.isAgg4
  z4 := Tryd.sizeOf4
  v4 := Tryd.zeroValue4
  t9 := Tryd.underlying9
  a9 := Tryd.isAgg9
  z9 := Tryd.sizeOf9
  v9 := Tryd.zeroValue9 }
open Go.RowKit Go.Lib in
/-- strings.HasPrefix: "HasPrefix reports whether the string s begins with prefix.": IT RETURNS 'Lib.hasPrefix s prefix'; the world is as it was. (LAID: no walk: one application.) -/
theorem Sh.strings_HasPrefix (s p : ByteArray) (w : World) :
    Calls Tryd.prog 75 #[.string s, .string p] w fun e w' => e = .returned (.bool (Lib.hasPrefix s.data.toList p.data.toList)) ∧ w' = w := Any.strings_HasPrefix Sh.lays99 s p w
end Go.Proofs.YteebiklebedneaaDoor
/- Numerals: strconv.Atoi over digits. -/
namespace Go.AM
open Go Go.RowKit
open Go.Proofs.YteebiklebedneaaDoor (letB digB wrdB)
attribute [local irreducible] AWP retA
def decF (a : Nat) (l : List UInt8) : Nat := l.foldl (fun a c => 10 * a + (c.toNat - 48)) a
theorem decF_ge : ∀ (l : List UInt8) (a : Nat), a ≤ decF a l
  | [], a => Nat.le_refl _
  | c :: r, a => Nat.le_trans (by omega) (decF_ge r (10 * a + (c.toNat - 48)))
theorem dig_nat {c : UInt8} (h : digB c.toNat = true) : 48 ≤ c.toNat ∧ c.toNat ≤ 57 := by
  unfold digB at h
  simp only [Bool.and_eq_true, decide_eq_true_eq] at h
  omega
theorem parse_dig : ∀ (l : List UInt8) (a : Nat), (∀ c ∈ l, digB c.toNat = true) → a < 18446744073709551616 → Lib.parseUint10 a l = if decF a l < 18446744073709551616 then .ok (decF a l) else .range
  | [], a, _, ha => by rw [Lib.parseUint10, decF, List.foldl_nil, if_pos ha]
  | c :: r, a, h, ha => by
    have hc := dig_nat (h c (by simp))
    have hg := decF_ge r (10 * a + (c.toNat - 48))
    have hd : decF a (c :: r) = decF (10 * a + (c.toNat - 48)) r := rfl
    rw [Lib.parseUint10, if_pos hc]
    split
    · rw [if_neg (by rw [hd]; omega)]
    · split
      · rw [if_neg (by rw [hd]; omega)]
      · rw [parse_dig r _ (fun c hc => h c (by simp [hc])) (by omega), hd, show a * 10 + (c.toNat - 48) = 10 * a + (c.toNat - 48) by omega]
theorem atoi_dig {l : List UInt8} (h0 : l ≠ []) (h : ∀ c ∈ l, digB c.toNat = true) : Lib.atoiAll l = if 9223372036854775807 < decV l then .range else .ok (decV l : Int) := by
  cases l with
  | nil => exact absurd rfl h0
  | cons c r =>
    have hc := dig_nat (h c (by simp))
    have hd : decF 0 (c :: r) = decV (c :: r) := rfl
    rw [Lib.atoiAll, if_neg (by omega), Lib.parseMag, if_neg (by simp), parse_dig _ _ h (by omega), hd]
    by_cases h1 : decV (c :: r) < 18446744073709551616
    · rw [if_pos h1]
      simp only
      by_cases h2 : 9223372036854775808 ≤ decV (c :: r)
      · rw [if_pos ⟨by omega, h2⟩, if_pos (by omega)]
      · rw [if_neg (by omega), if_neg (by omega), if_neg (by omega), if_neg (by omega)]
    · rw [if_neg h1]
      simp only
      rw [if_pos (by omega)]
theorem spanP_all {p : Int → Bool} : ∀ {l : List UInt8}, ∀ c ∈ l.take (spanP p l), p c.toNat = true
  | [], c, h => by simp at h
  | x :: r, c, h => by
    unfold spanP at h
    split at h
    · rename_i hx
      rw [List.take_succ_cons] at h
      rcases List.mem_cons.1 h with rfl | h
      · exact hx
      · exact spanP_all c h
    · simp at h
/-- A call of the old form that gives back a tuple of plain values. -/
theorem con_of_tup {P : Program} {f : Nat} {G : List (Nat × List Value)} {xs : List AV} (hok : okFn P f = true) (φ : List Value → Prop)
    (h : ∀ (w : World) (z : Zone) (vs : List Value), (∀ t b, z t b → b < w.heap.size) → Reps w z [] xs vs → Globs G w → Calls P f vs.toArray w (fun e w' => (∃ us : List Value, e = .returned (.tuple us.toArray) ∧ φ us) ∧ Below w.heap.size w w')) :
    Con P G f xs [] 0 (fun y o n => ∃ us : List Value, y = .tup (us.map .r) ∧ φ us ∧ o = [] ∧ n = 0) No := by
  refine ⟨hok, fun w th z own vs ho hm hr => ?_⟩
  have hth : th = [] := List.length_eq_zero_iff.1 hm.len
  subst hth
  refine (h w z vs hm.zlt hr (fun g cs hg => ⟨hm.zlt _ _ (hm.globs g cs hg).1, (hm.globs g cs hg).2⟩)).mono ?_
  rintro e w' ⟨⟨us, rfl, hu⟩, hb⟩
  refine ⟨_, .tup (us.map .r), [], 0, [], z, .inl ⟨rfl, us, rfl, hu, rfl, rfl⟩, ?_, ?_⟩
  · refine ⟨rfl, fun i nd hi => by simp [lk] at hi, fun i j x y L M hi => by simp [lk] at hi, fun t b hz => Nat.lt_of_lt_of_le (hm.zlt t b hz) hb.size, hb.size, fun b hlt _ => hb.block b hlt, fun t b h => h, fun b h => .inl h, fun b h => h, ?_, fun i L hi => by simp at hi, ⟨hb.os, hb.tape, hb.output⟩⟩
    intro g cs hg
    obtain ⟨h1, h2⟩ := hm.globs g cs hg
    exact ⟨h1, fun j u hu => (cell_heap (hb.block g (hm.zlt _ _ h1)) j).trans (h2 j u hu)⟩
  · have := Reps.plain (w := w') (z := z) (th := []) us
    exact .tup _ _ us this.1 this.2
end Go.AM
/- lex.one. -/
namespace Go.AM
open Go Go.RowKit
open Go.Proofs.YteebiklebedneaaDoor (letB digB wrdB)
attribute [local irreducible] AWP retA
def marksV : List Value := marksB.map fun m => .string ⟨m.toArray⟩
/-- What lex.one reads of the package's variables. -/
structure LexT (G : List (Nat × List Value)) : Prop where
  marks : lk G 0 = some marksV
  range : ∃ ev, (8, [ev]) ∈ G ∧ (ev = .nilIface ∨ ∃ te pe, ev = .iface te pe)
theorem bytes_below (w : World) (t : ByteArray) : Below w.heap.size w (Lib.bytesWorld w 5 t) := by
  have h : Below w.heap.size w (w.drew.alloc (.cells (Lib.bytesCells w 5 t) 5)) := (Below.refl _ _).drew.alloc (Nat.le_refl _) _
  refine h.trans ⟨by unfold Lib.bytesWorld World.freeze; split <;> rfl, by unfold Lib.bytesWorld World.freeze; split <;> rfl, by unfold Lib.bytesWorld World.freeze; split <;> rfl, by unfold Lib.bytesWorld World.freeze; split <;> simp, fun k hk => ?_⟩
  unfold Lib.bytesWorld World.freeze
  split
  · rfl
  · simp only [Array.getElem?_modify]
    rw [if_neg (by omega)]
theorem ext_take (l : List UInt8) (a b : Nat) : (⟨l.toArray⟩ : ByteArray).extract a b = ⟨((l.take b).drop a).toArray⟩ := by
  apply ByteArray.ext
  rw [ByteArray.data_extract]
  apply Array.ext'
  simp [List.extract_eq_take_drop, List.drop_take]
theorem ba_size (l : List UInt8) : (⟨l.toArray⟩ : ByteArray).size = l.length := by show l.toArray.size = _; simp
theorem atoi_ok {G : List (Nat × List Value)} (l : List UInt8) (hl : l.length ≤ 1048576) (v : Int) (h : Lib.atoiAll l = .ok v) : Con Go.Proofs.Tryd.prog G 73 [.r (.string ⟨l.toArray⟩)] [] 0 (fun y o n => ∃ us : List Value, y = .tup (us.map .r) ∧ us = [.int .i64 v, .nilIface] ∧ o = [] ∧ n = 0) No :=
  con_of_tup (by kernel_rfl) _ (fun w z vs hz hr hG => by
    obtain ⟨u, r, rfl, h1, h2⟩ := hr.head
    obtain rfl := h1.r_inv
    obtain rfl := h2.of_nil
    refine (Go.Proofs.YteebiklebedneaaDoor.Sh.strconv_Atoi_ok ⟨l.toArray⟩ (by rw [ba_size]; omega) v (by simpa using h) w).mono ?_
    rintro e w' ⟨rfl, hw⟩
    refine ⟨⟨_, rfl, rfl⟩, ?_⟩
    rcases hw with rfl | ⟨t, rfl⟩
    · exact Below.refl _ _
    · exact bytes_below w t)
theorem atoi_range {G : List (Nat × List Value)} (T : LexT G) (l : List UInt8) (hl : l.length ≤ 1048576) (h : Lib.atoiAll l = .range) : Con Go.Proofs.Tryd.prog G 73 [.r (.string ⟨l.toArray⟩)] [] 0 (fun y o n => ∃ us : List Value, y = .tup (us.map .r) ∧ (∃ v t x, us = [.int .i64 v, .iface t x]) ∧ o = [] ∧ n = 0) No := by
  obtain ⟨ev, hG, hev⟩ := T.range
  exact con_of_tup (by kernel_rfl) (fun us => ∃ v t x, us = [.int .i64 v, .iface t x]) (fun w z vs hz hr hGl => by
    obtain ⟨u, r, rfl, h1, h2⟩ := hr.head
    obtain rfl := h1.r_inv
    obtain rfl := h2.of_nil
    refine (Go.Proofs.YteebiklebedneaaDoor.Sh.strconv_Atoi_range ⟨l.toArray⟩ (by rw [ba_size]; omega) (by simpa using h) ev w ((hGl _ _ hG).2 0 _ rfl) hev).mono ?_
    rintro e w' ⟨N, rfl, _, _, hb⟩
    exact ⟨⟨_, rfl, _, _, _, rfl⟩, hb⟩)
theorem pre_con (G : List (Nat × List Value)) (l m : List UInt8) : Con Go.Proofs.Tryd.prog G 75 [.r (.string ⟨l.toArray⟩), .r (.string ⟨m.toArray⟩)] [] 0 (Is (.r (.bool (isPre m l))) [] 0) No :=
  con_of_calls (by kernel_rfl) (fun w z vs hz hr hG => by
    obtain ⟨u, r, rfl, h1, h2⟩ := hr.head
    obtain ⟨u2, r2, rfl, h3, h4⟩ := h2.head
    obtain rfl := h1.r_inv
    obtain rfl := h3.r_inv
    obtain rfl := h4.of_nil
    refine (Go.Proofs.YteebiklebedneaaDoor.Sh.strings_HasPrefix ⟨l.toArray⟩ ⟨m.toArray⟩ w).mono ?_
    rintro e w' ⟨rfl, rfl⟩
    exact ⟨by simp [Lib.hasPrefix, isPre], Below.refl _ _⟩)
set_option maxRecDepth 100000 in
set_option maxHeartbeats 8000000 in
theorem one_word (G : List (Nat × List Value)) (l : List UInt8) (hl : l.length ≤ 1048576) (c : UInt8) (hc : l[0]? = some c) (h1 : letB c.toNat = true) : Con Go.Proofs.Tryd.prog G 43 [.r (.string ⟨l.toArray⟩)] [] 0 (Is (oneR (.ok (⟨1, ⟨(l.take (spanP wrdB l)).toArray⟩, 0⟩, spanP wrdB l))) [] 0) No := by
  have hb : (⟨l.toArray⟩ : ByteArray)[0]? = some c := by rw [ba_get]; exact hc
  have lc := letter_con G c
  rw [h1] at lc
  have sc := span_con G 72 wrdB wrd_con l hl
  have hs := spanP_le wrdB l
  have ht := ext_take l 0 (spanP wrdB l)
  rw [List.drop_zero] at ht
  refine con_of_awp Go.Proofs.Tryd.func43 rfl (by kernel_rfl) (of_decide_eq_true (by kernel_rfl)) ?_; intro E hG hE; subst hG; simp only [ent]
  have z1 : ((spanP wrdB l : Int) ≤ (l.toArray.size : Int)) = True := eq_true (by rw [List.size_toArray]; omega)
  (repeat' (first | refine awp_seq ?_ | refine awp_block ?_ | refine awp_skip ?_ | refine awp_exit ?_ | ((first | refine rR (fun K kp hK hkp => ?_) | refine cR lc ?_ | refine cR sc ?_ | refine iG ?_); simp (implicitDefEqProofs := false) (maxSteps := 2000000) (disch := omega) only [go_sem, eT, hb, hiA, z1, ht]; (repeat' (first | (refine hK _ ?_; clear hK hkp kp K) | (with_reducible refine And.intro ?_ ?_) | omega))) | ((first | refine aG (fun h => ?_) (fun h => ?_) | refine aD (fun h => ?_) (fun h => ?_) | refine aX (fun h => ?_) (fun h => ?_)) <;> simp only [h]) | refine awp_cond_t rfl ?_ | refine awp_cond_f rfl ?_ | ((refine awp_cond rfl (fun h => ?_) (fun h => ?_) <;> try simp only [ifs] at h) <;> (try (exfalso; omega))) | refine awp_ret ?_))
  (refine retA_is (by (simp (implicitDefEqProofs := false) (maxSteps := 2000000) (disch := omega) only [go_sem, Go.Proofs.Tryd.results43, oneR, eT]); rfl) ?_; refine eN hE ?_; simp [oneA, ren, renL, oneR, eT])
set_option maxRecDepth 100000 in
set_option maxHeartbeats 8000000 in
theorem one_num {G : List (Nat × List Value)} (T : LexT G) (l : List UInt8) (hl : l.length ≤ 1048576) (c : UInt8) (hc : l[0]? = some c) (h1 : letB c.toNat = false) (h2 : digB c.toNat = true) : Con Go.Proofs.Tryd.prog G 43 [.r (.string ⟨l.toArray⟩)] [] 0
    (Is (oneR (if (l[spanP digB l]?.map fun d => letB d.toNat) = some true then .error 6
      else if 9223372036854775807 < decV (l.take (spanP digB l)) then .error 5
      else .ok (⟨2, ⟨#[]⟩, decV (l.take (spanP digB l))⟩, spanP digB l))) [] 0) No := by
  have hb : (⟨l.toArray⟩ : ByteArray)[0]? = some c := by rw [ba_get]; exact hc
  have lc := letter_con G c
  rw [h1] at lc
  have dc := digit_con G c
  rw [h2] at dc
  have sc := span_con G 65 digB digit_con l hl
  have hs := spanP_le digB l
  obtain ⟨n, hn⟩ : ∃ n, spanP digB l = n := ⟨_, rfl⟩
  have hall : ∀ x ∈ l.take n, digB x.toNat = true := by rw [← hn]; exact fun x hx => spanP_all x hx
  rw [hn] at sc hs ⊢
  have ht := ext_take l 0 n
  rw [List.drop_zero] at ht
  have hnz : l.take n ≠ [] := by
    cases l with
    | nil => simp at hc
    | cons x r =>
      obtain rfl : x = c := by simpa using hc
      rw [spanP, if_pos h2] at hn
      subst hn
      simp
  have hat := atoi_dig hnz hall
  have z1 : ((n : Int) ≤ (l.toArray.size : Int)) = True := eq_true (by rw [List.size_toArray]; omega)
  have htl : (l.take n).length ≤ 1048576 := by rw [List.length_take]; omega
  rcases hd : l[n]? with _ | d
  · have hlen : l.length ≤ n := List.getElem?_eq_none_iff.1 hd
    have d1 : decide ((n : Int) < (l.toArray.size : Int)) = false := decide_eq_false (by rw [List.size_toArray]; omega)
    rw [if_neg (by simp)]
    by_cases h5 : 9223372036854775807 < decV (l.take n)
    · rw [if_pos h5] at hat
      rw [if_pos h5]
      have ac := fun G' (T' : LexT G') => atoi_range T' (l.take n) htl hat
      refine con_of_awp Go.Proofs.Tryd.func43 rfl (by kernel_rfl) (of_decide_eq_true (by kernel_rfl)) ?_; intro E hG hE; subst hG; simp only [ent]
      (repeat' (first | refine awp_seq ?_ | refine awp_block ?_ | refine awp_skip ?_ | refine awp_exit ?_ | ((first | refine rR (fun K kp hK hkp => ?_) | refine cR lc ?_ | refine cR dc ?_ | refine cR sc ?_ | refine iG ?_); simp (implicitDefEqProofs := false) (maxSteps := 2000000) (disch := omega) only [go_sem, eT, hb, hiA, z1, ht, d1]; (repeat' (first | (refine hK _ ?_; clear hK hkp kp K) | (with_reducible refine And.intro ?_ ?_) | omega))) | ((first | refine aG (fun h => ?_) (fun h => ?_) | refine aD (fun h => ?_) (fun h => ?_) | refine aX (fun h => ?_) (fun h => ?_)) <;> simp only [h]) | refine awp_cond_t rfl ?_ | refine awp_cond_f rfl ?_ | ((refine awp_cond rfl (fun h => ?_) (fun h => ?_) <;> try simp only [ifs] at h) <;> (try (exfalso; omega))) | refine awp_ret ?_))
      (refine callR_q (ac _ T) (by simp (implicitDefEqProofs := false) (maxSteps := 2000000) (disch := omega) only [go_sem]; first | done | rfl) ?_; intro y o m hq; (obtain ⟨us, rfl, ⟨v, t, x, rfl⟩, rfl, rfl⟩ := hq; simp only [List.map_cons, List.map_nil]); refine ⟨(by simp [-List.map_drop, -List.map_take]), (by simp [PTNd]), ?_⟩; simp only [ren, renL, shO, List.map_cons, List.map_nil, List.nil_append, List.cons_append, Nat.add_zero]; (try (simp (implicitDefEqProofs := false) (maxSteps := 2000000) (disch := omega) only [go_sem])); (repeat' (first | (refine hK _ ?_; clear hK hkp kp K) | (with_reducible refine And.intro ?_ ?_) | omega)))
      (repeat' (first | refine awp_seq ?_ | refine awp_block ?_ | refine awp_skip ?_ | refine awp_exit ?_ | ((first | refine rR (fun K kp hK hkp => ?_) | refine iG ?_); simp (implicitDefEqProofs := false) (maxSteps := 2000000) (disch := omega) only [go_sem, eT]; (repeat' (first | (refine hK _ ?_; clear hK hkp kp K) | (with_reducible refine And.intro ?_ ?_) | omega))) | ((first | refine aG (fun h => ?_) (fun h => ?_) | refine aD (fun h => ?_) (fun h => ?_) | refine aX (fun h => ?_) (fun h => ?_)) <;> simp only [h]) | refine awp_cond_t rfl ?_ | refine awp_cond_f rfl ?_ | ((refine awp_cond rfl (fun h => ?_) (fun h => ?_) <;> try simp only [ifs] at h) <;> (try (exfalso; omega))) | refine awp_ret ?_))
      (refine retA_is (by (simp (implicitDefEqProofs := false) (maxSteps := 2000000) (disch := omega) only [go_sem, Go.Proofs.Tryd.results43, oneR, eT]); rfl) ?_; refine eN hE ?_; simp [oneA, ren, renL, oneR, eT])
    · rw [if_neg h5] at hat
      rw [if_neg h5]
      have ac := atoi_ok (G := G) (l.take n) htl _ hat
      refine con_of_awp Go.Proofs.Tryd.func43 rfl (by kernel_rfl) (of_decide_eq_true (by kernel_rfl)) ?_; intro E hG hE; subst hG; simp only [ent]
      (repeat' (first | refine awp_seq ?_ | refine awp_block ?_ | refine awp_skip ?_ | refine awp_exit ?_ | ((first | refine rR (fun K kp hK hkp => ?_) | refine cR lc ?_ | refine cR dc ?_ | refine cR sc ?_ | refine iG ?_); simp (implicitDefEqProofs := false) (maxSteps := 2000000) (disch := omega) only [go_sem, eT, hb, hiA, z1, ht, d1]; (repeat' (first | (refine hK _ ?_; clear hK hkp kp K) | (with_reducible refine And.intro ?_ ?_) | omega))) | ((first | refine aG (fun h => ?_) (fun h => ?_) | refine aD (fun h => ?_) (fun h => ?_) | refine aX (fun h => ?_) (fun h => ?_)) <;> simp only [h]) | refine awp_cond_t rfl ?_ | refine awp_cond_f rfl ?_ | ((refine awp_cond rfl (fun h => ?_) (fun h => ?_) <;> try simp only [ifs] at h) <;> (try (exfalso; omega))) | refine awp_ret ?_))
      (refine callR_q (ac) (by simp (implicitDefEqProofs := false) (maxSteps := 2000000) (disch := omega) only [go_sem]; first | done | rfl) ?_; intro y o m hq; (obtain ⟨us, rfl, rfl, rfl, rfl⟩ := hq; simp only [List.map_cons, List.map_nil]); refine ⟨(by simp [-List.map_drop, -List.map_take]), (by simp [PTNd]), ?_⟩; simp only [ren, renL, shO, List.map_cons, List.map_nil, List.nil_append, List.cons_append, Nat.add_zero]; (try (simp (implicitDefEqProofs := false) (maxSteps := 2000000) (disch := omega) only [go_sem])); (repeat' (first | (refine hK _ ?_; clear hK hkp kp K) | (with_reducible refine And.intro ?_ ?_) | omega)))
      (repeat' (first | refine awp_seq ?_ | refine awp_block ?_ | refine awp_skip ?_ | refine awp_exit ?_ | ((first | refine rR (fun K kp hK hkp => ?_) | refine iG ?_); simp (implicitDefEqProofs := false) (maxSteps := 2000000) (disch := omega) only [go_sem, eT]; (repeat' (first | (refine hK _ ?_; clear hK hkp kp K) | (with_reducible refine And.intro ?_ ?_) | omega))) | ((first | refine aG (fun h => ?_) (fun h => ?_) | refine aD (fun h => ?_) (fun h => ?_) | refine aX (fun h => ?_) (fun h => ?_)) <;> simp only [h]) | refine awp_cond_t rfl ?_ | refine awp_cond_f rfl ?_ | ((refine awp_cond rfl (fun h => ?_) (fun h => ?_) <;> try simp only [ifs] at h) <;> (try (exfalso; omega))) | refine awp_ret ?_))
      (refine retA_is (by (simp (implicitDefEqProofs := false) (maxSteps := 2000000) (disch := omega) only [go_sem, Go.Proofs.Tryd.results43, oneR, eT]); rfl) ?_; refine eN hE ?_; simp [oneA, ren, renL, oneR, eT])
  · have hlen : n < l.length := (List.getElem?_eq_some_iff.1 hd).1
    have d1 : decide ((n : Int) < (l.toArray.size : Int)) = true := decide_eq_true (by rw [List.size_toArray]; omega)
    have hbd : (⟨l.toArray⟩ : ByteArray)[n]? = some d := by rw [ba_get]; exact hd
    have ld := letter_con G d
    cases hld : letB d.toNat
    · rw [hld] at ld
      rw [if_neg (by simp [hld])]
      by_cases h5 : 9223372036854775807 < decV (l.take n)
      · rw [if_pos h5] at hat
        rw [if_pos h5]
        have ac := fun G' (T' : LexT G') => atoi_range T' (l.take n) htl hat
        refine con_of_awp Go.Proofs.Tryd.func43 rfl (by kernel_rfl) (of_decide_eq_true (by kernel_rfl)) ?_; intro E hG hE; subst hG; simp only [ent]
        (repeat' (first | refine awp_seq ?_ | refine awp_block ?_ | refine awp_skip ?_ | refine awp_exit ?_ | ((first | refine rR (fun K kp hK hkp => ?_) | refine cR lc ?_ | refine cR dc ?_ | refine cR sc ?_ | refine cR ld ?_ | refine iG ?_); simp (implicitDefEqProofs := false) (maxSteps := 2000000) (disch := omega) only [go_sem, eT, hb, hiA, z1, ht, d1, hbd]; (repeat' (first | (refine hK _ ?_; clear hK hkp kp K) | (with_reducible refine And.intro ?_ ?_) | omega))) | ((first | refine aG (fun h => ?_) (fun h => ?_) | refine aD (fun h => ?_) (fun h => ?_) | refine aX (fun h => ?_) (fun h => ?_)) <;> simp only [h]) | refine awp_cond_t rfl ?_ | refine awp_cond_f rfl ?_ | ((refine awp_cond rfl (fun h => ?_) (fun h => ?_) <;> try simp only [ifs] at h) <;> (try (exfalso; omega))) | refine awp_ret ?_))
        (refine callR_q (ac _ T) (by simp (implicitDefEqProofs := false) (maxSteps := 2000000) (disch := omega) only [go_sem]; first | done | rfl) ?_; intro y o m hq; (obtain ⟨us, rfl, ⟨v, t, x, rfl⟩, rfl, rfl⟩ := hq; simp only [List.map_cons, List.map_nil]); refine ⟨(by simp [-List.map_drop, -List.map_take]), (by simp [PTNd]), ?_⟩; simp only [ren, renL, shO, List.map_cons, List.map_nil, List.nil_append, List.cons_append, Nat.add_zero]; (try (simp (implicitDefEqProofs := false) (maxSteps := 2000000) (disch := omega) only [go_sem])); (repeat' (first | (refine hK _ ?_; clear hK hkp kp K) | (with_reducible refine And.intro ?_ ?_) | omega)))
        (repeat' (first | refine awp_seq ?_ | refine awp_block ?_ | refine awp_skip ?_ | refine awp_exit ?_ | ((first | refine rR (fun K kp hK hkp => ?_) | refine iG ?_); simp (implicitDefEqProofs := false) (maxSteps := 2000000) (disch := omega) only [go_sem, eT]; (repeat' (first | (refine hK _ ?_; clear hK hkp kp K) | (with_reducible refine And.intro ?_ ?_) | omega))) | ((first | refine aG (fun h => ?_) (fun h => ?_) | refine aD (fun h => ?_) (fun h => ?_) | refine aX (fun h => ?_) (fun h => ?_)) <;> simp only [h]) | refine awp_cond_t rfl ?_ | refine awp_cond_f rfl ?_ | ((refine awp_cond rfl (fun h => ?_) (fun h => ?_) <;> try simp only [ifs] at h) <;> (try (exfalso; omega))) | refine awp_ret ?_))
        (refine retA_is (by (simp (implicitDefEqProofs := false) (maxSteps := 2000000) (disch := omega) only [go_sem, Go.Proofs.Tryd.results43, oneR, eT]); rfl) ?_; refine eN hE ?_; simp [oneA, ren, renL, oneR, eT])
      · rw [if_neg h5] at hat
        rw [if_neg h5]
        have ac := atoi_ok (G := G) (l.take n) htl _ hat
        refine con_of_awp Go.Proofs.Tryd.func43 rfl (by kernel_rfl) (of_decide_eq_true (by kernel_rfl)) ?_; intro E hG hE; subst hG; simp only [ent]
        (repeat' (first | refine awp_seq ?_ | refine awp_block ?_ | refine awp_skip ?_ | refine awp_exit ?_ | ((first | refine rR (fun K kp hK hkp => ?_) | refine cR lc ?_ | refine cR dc ?_ | refine cR sc ?_ | refine cR ld ?_ | refine iG ?_); simp (implicitDefEqProofs := false) (maxSteps := 2000000) (disch := omega) only [go_sem, eT, hb, hiA, z1, ht, d1, hbd]; (repeat' (first | (refine hK _ ?_; clear hK hkp kp K) | (with_reducible refine And.intro ?_ ?_) | omega))) | ((first | refine aG (fun h => ?_) (fun h => ?_) | refine aD (fun h => ?_) (fun h => ?_) | refine aX (fun h => ?_) (fun h => ?_)) <;> simp only [h]) | refine awp_cond_t rfl ?_ | refine awp_cond_f rfl ?_ | ((refine awp_cond rfl (fun h => ?_) (fun h => ?_) <;> try simp only [ifs] at h) <;> (try (exfalso; omega))) | refine awp_ret ?_))
        (refine callR_q (ac) (by simp (implicitDefEqProofs := false) (maxSteps := 2000000) (disch := omega) only [go_sem]; first | done | rfl) ?_; intro y o m hq; (obtain ⟨us, rfl, rfl, rfl, rfl⟩ := hq; simp only [List.map_cons, List.map_nil]); refine ⟨(by simp [-List.map_drop, -List.map_take]), (by simp [PTNd]), ?_⟩; simp only [ren, renL, shO, List.map_cons, List.map_nil, List.nil_append, List.cons_append, Nat.add_zero]; (try (simp (implicitDefEqProofs := false) (maxSteps := 2000000) (disch := omega) only [go_sem])); (repeat' (first | (refine hK _ ?_; clear hK hkp kp K) | (with_reducible refine And.intro ?_ ?_) | omega)))
        (repeat' (first | refine awp_seq ?_ | refine awp_block ?_ | refine awp_skip ?_ | refine awp_exit ?_ | ((first | refine rR (fun K kp hK hkp => ?_) | refine iG ?_); simp (implicitDefEqProofs := false) (maxSteps := 2000000) (disch := omega) only [go_sem, eT]; (repeat' (first | (refine hK _ ?_; clear hK hkp kp K) | (with_reducible refine And.intro ?_ ?_) | omega))) | ((first | refine aG (fun h => ?_) (fun h => ?_) | refine aD (fun h => ?_) (fun h => ?_) | refine aX (fun h => ?_) (fun h => ?_)) <;> simp only [h]) | refine awp_cond_t rfl ?_ | refine awp_cond_f rfl ?_ | ((refine awp_cond rfl (fun h => ?_) (fun h => ?_) <;> try simp only [ifs] at h) <;> (try (exfalso; omega))) | refine awp_ret ?_))
        (refine retA_is (by (simp (implicitDefEqProofs := false) (maxSteps := 2000000) (disch := omega) only [go_sem, Go.Proofs.Tryd.results43, oneR, eT]); rfl) ?_; refine eN hE ?_; simp [oneA, ren, renL, oneR, eT])
    · rw [hld] at ld
      rw [if_pos (by simp [hld])]
      refine con_of_awp Go.Proofs.Tryd.func43 rfl (by kernel_rfl) (of_decide_eq_true (by kernel_rfl)) ?_; intro E hG hE; subst hG; simp only [ent]
      (repeat' (first | refine awp_seq ?_ | refine awp_block ?_ | refine awp_skip ?_ | refine awp_exit ?_ | ((first | refine rR (fun K kp hK hkp => ?_) | refine cR lc ?_ | refine cR dc ?_ | refine cR sc ?_ | refine cR ld ?_ | refine iG ?_); simp (implicitDefEqProofs := false) (maxSteps := 2000000) (disch := omega) only [go_sem, eT, hb, hiA, z1, ht, d1, hbd]; (repeat' (first | (refine hK _ ?_; clear hK hkp kp K) | (with_reducible refine And.intro ?_ ?_) | omega))) | ((first | refine aG (fun h => ?_) (fun h => ?_) | refine aD (fun h => ?_) (fun h => ?_) | refine aX (fun h => ?_) (fun h => ?_)) <;> simp only [h]) | refine awp_cond_t rfl ?_ | refine awp_cond_f rfl ?_ | ((refine awp_cond rfl (fun h => ?_) (fun h => ?_) <;> try simp only [ifs] at h) <;> (try (exfalso; omega))) | refine awp_ret ?_))
      (refine retA_is (by (simp (implicitDefEqProofs := false) (maxSteps := 2000000) (disch := omega) only [go_sem, Go.Proofs.Tryd.results43, oneR, eT]); rfl) ?_; refine eN hE ?_; simp [oneA, ren, renL, oneR, eT])
end Go.AM
/- lex.one: texts and marks; lex.Cut. -/
namespace Go.AM
open Go Go.RowKit
open Go.Proofs.YteebiklebedneaaDoor (letB digB wrdB)
attribute [local irreducible] AWP retA
set_option maxRecDepth 100000 in
set_option maxHeartbeats 8000000 in
theorem one_quote (G : List (Nat × List Value)) (l : List UInt8) (hl : l.length ≤ 1048576) (c : UInt8) (hc : l[0]? = some c) (h1 : letB c.toNat = false) (h2 : digB c.toNat = false) (h3 : c = 39) : Con Go.Proofs.Tryd.prog G 43 [.r (.string ⟨l.toArray⟩)] [] 0 (Is (oneR (textE (textM (l.drop 1)))) [] 0) No := by
  have hb : (⟨l.toArray⟩ : ByteArray)[0]? = some c := by rw [ba_get]; exact hc
  have e39 : ((c.toNat : Int) == 39) = true := by rw [h3]; rfl
  have lc := letter_con G c
  rw [h1] at lc
  have dc := digit_con G c
  rw [h2] at dc
  have tc := text_con G l (by have := (List.getElem?_eq_some_iff.1 hc).1; omega) hl
  cases ht : textM (l.drop 1) with
  | none =>
    rw [ht] at tc
    simp only [textE, oneR, eT] at tc ⊢
    refine con_of_awp Go.Proofs.Tryd.func43 rfl (by kernel_rfl) (of_decide_eq_true (by kernel_rfl)) ?_; intro E hG hE; subst hG; simp only [ent]
    (repeat' (first | refine awp_seq ?_ | refine awp_block ?_ | refine awp_skip ?_ | refine awp_exit ?_ | ((first | refine rR (fun K kp hK hkp => ?_) | refine cR lc ?_ | refine cR dc ?_ | refine cR tc ?_ | refine iG ?_); simp (implicitDefEqProofs := false) (maxSteps := 2000000) (disch := omega) only [go_sem, eT, hb, e39]; (repeat' (first | (refine hK _ ?_; clear hK hkp kp K) | (with_reducible refine And.intro ?_ ?_) | omega))) | ((first | refine aG (fun h => ?_) (fun h => ?_) | refine aD (fun h => ?_) (fun h => ?_) | refine aX (fun h => ?_) (fun h => ?_)) <;> simp only [h]) | refine awp_cond_t rfl ?_ | refine awp_cond_f rfl ?_ | ((refine awp_cond rfl (fun h => ?_) (fun h => ?_) <;> try simp only [ifs] at h) <;> (try (exfalso; omega))) | refine awp_ret ?_))
    (refine retA_is (by (simp (implicitDefEqProofs := false) (maxSteps := 2000000) (disch := omega) only [go_sem, Go.Proofs.Tryd.results43]); rfl) ?_; refine eN hE ?_; simp [oneA, ren, renL])
  | some x =>
    rw [ht] at tc
    simp only [textE, oneR, eT] at tc ⊢
    refine con_of_awp Go.Proofs.Tryd.func43 rfl (by kernel_rfl) (of_decide_eq_true (by kernel_rfl)) ?_; intro E hG hE; subst hG; simp only [ent]
    (repeat' (first | refine awp_seq ?_ | refine awp_block ?_ | refine awp_skip ?_ | refine awp_exit ?_ | ((first | refine rR (fun K kp hK hkp => ?_) | refine cR lc ?_ | refine cR dc ?_ | refine cR tc ?_ | refine iG ?_); simp (implicitDefEqProofs := false) (maxSteps := 2000000) (disch := omega) only [go_sem, eT, hb, e39]; (repeat' (first | (refine hK _ ?_; clear hK hkp kp K) | (with_reducible refine And.intro ?_ ?_) | omega))) | ((first | refine aG (fun h => ?_) (fun h => ?_) | refine aD (fun h => ?_) (fun h => ?_) | refine aX (fun h => ?_) (fun h => ?_)) <;> simp only [h]) | refine awp_cond_t rfl ?_ | refine awp_cond_f rfl ?_ | ((refine awp_cond rfl (fun h => ?_) (fun h => ?_) <;> try simp only [ifs] at h) <;> (try (exfalso; omega))) | refine awp_ret ?_))
    (refine retA_is (by (simp (implicitDefEqProofs := false) (maxSteps := 2000000) (disch := omega) only [go_sem, Go.Proofs.Tryd.results43]); rfl) ?_; refine eN hE ?_; simp [oneA, ren, renL])
theorem drop_cons' {α : Type} {l : List α} {k : Nat} {x : α} (h : l[k]? = some x) : l.drop k = x :: l.drop (k + 1) := drop_cons h
def markE : Option (List UInt8) → Except Int (TK0 × Nat)
  | none => .error 6
  | some m => .ok (⟨4, ⟨m.toArray⟩, 0⟩, m.length)
set_option maxRecDepth 100000 in
set_option maxHeartbeats 8000000 in
theorem one_mark {G : List (Nat × List Value)} (T : LexT G) (l : List UInt8) (hl : l.length ≤ 1048576) (c : UInt8) (hc : l[0]? = some c) (h1 : letB c.toNat = false) (h2 : digB c.toNat = false) (h3 : c ≠ 39) : Con Go.Proofs.Tryd.prog G 43 [.r (.string ⟨l.toArray⟩)] [] 0 (Is (oneR (markE (marksB.find? fun m => isPre m l))) [] 0) No := by
  have hb : (⟨l.toArray⟩ : ByteArray)[0]? = some c := by rw [ba_get]; exact hc
  have e39 : ((c.toNat : Int) == 39) = false := by
    rw [beq_eq_false_iff_ne]; intro h; exact h3 (UInt8.toNat_inj.1 (show c.toNat = (39 : UInt8).toNat by have : (39 : UInt8).toNat = 39 := rfl; omega))
  have lc := letter_con G c
  rw [h1] at lc
  have dc := digit_con G c
  rw [h2] at dc
  have hm := T.marks
  obtain ⟨R, hR⟩ : ∃ R, (marksB.find? fun m => isPre m l) = R := ⟨_, rfl⟩
  rw [hR]
  refine con_of_awp Go.Proofs.Tryd.func43 rfl (by kernel_rfl) (of_decide_eq_true (by kernel_rfl)) ?_; intro E hG hE; subst hG; simp only [ent]
  (repeat' (first | refine awp_seq ?_ | refine awp_block ?_ | refine awp_skip ?_ | refine awp_exit ?_ | ((first | refine rR (fun K kp hK hkp => ?_) | refine cR lc ?_ | refine cR dc ?_ | refine iG ?_); simp (implicitDefEqProofs := false) (maxSteps := 2000000) (disch := omega) only [go_sem, eT, hb, e39, hm]; (repeat' (first | (refine hK _ ?_; clear hK hkp kp K) | (with_reducible refine And.intro ?_ ?_) | omega))) | ((first | refine aG (fun h => ?_) (fun h => ?_) | refine aD (fun h => ?_) (fun h => ?_) | refine aX (fun h => ?_) (fun h => ?_)) <;> simp only [h]) | refine awp_cond_t rfl ?_ | refine awp_cond_f rfl ?_ | ((refine awp_cond rfl (fun h => ?_) (fun h => ?_) <;> try simp only [ifs] at h) <;> (try (exfalso; omega))) | refine awp_ret ?_))
  rw [show List.take 12 (marksV.map AV.r) = marksV.map AV.r from rfl]
  simp only [AS.put]
  refine awp_loop (fun k : Nat => ⟨[(62, .r (.int .i64 k)), (61, .agg (marksV.map .r)), (2, .p 0 0 0), (0, .r (.string ⟨l.toArray⟩))], [(0, .box 66 (eT ⟨0, ⟨#[]⟩, 0⟩))], 1⟩) (fun k => k ≤ 12 ∧ ((marksB.drop k).find? fun m => isPre m l) = R) (fun k => 12 - k) 0 ?_ ?_ ?_
  · exact ⟨by omega, hR⟩
  · (refine emb [0] ?_ ?_ rfl ?_ ?_ ?_ ?_ <;> simp [okM, okO, lk, ren, renL, renNd, by_, hE, eT, renL_r] <;> (try omega) <;> (try (intro i hi; first | (rcases (by omega : i = 0 ∨ i = 1 ∨ i = 2) with rfl | rfl | rfl <;> rfl) | (rcases (by omega : i = 0 ∨ i = 1) with rfl | rfl <;> rfl))))
  rintro k ⟨hk, hf⟩
  by_cases hlt : k < 12
  · have d1 : decide ((k : Int) < 12) = true := decide_eq_true (by omega)
    obtain ⟨m, hm⟩ : ∃ m, marksB[k]? = some m := ⟨marksB[k]'(by simpa [marksB] using hlt), by rw [List.getElem?_eq_getElem]⟩
    have z1 : ((k : Int) < 12) = True := eq_true (by omega)
    have hi : marksV[k * 1]? = some (.string ⟨m.toArray⟩) := by rw [Nat.mul_one, marksV, List.getElem?_map, hm]; rfl
    rw [drop_cons' hm, List.find?_cons] at hf
    have pc := pre_con E.G l m
    cases hp : isPre m l
    · rw [hp] at pc hf
      simp only at hf
      (repeat' (first | refine awp_seq ?_ | refine awp_block ?_ | refine awp_skip ?_ | refine awp_exit ?_ | ((first | refine rR (fun K kp hK hkp => ?_) | refine cR pc ?_ | refine iG ?_); simp (implicitDefEqProofs := false) (maxSteps := 2000000) (disch := omega) only [go_sem, eT, d1, z1, hi]; (repeat' (first | (refine hK _ ?_; clear hK hkp kp K) | (with_reducible refine And.intro ?_ ?_) | omega))) | ((first | refine aG (fun h => ?_) (fun h => ?_) | refine aD (fun h => ?_) (fun h => ?_) | refine aX (fun h => ?_) (fun h => ?_)) <;> simp only [h]) | refine awp_cond_t rfl ?_ | refine awp_cond_f rfl ?_ | ((refine awp_cond rfl (fun h => ?_) (fun h => ?_) <;> try simp only [ifs] at h) <;> (try (exfalso; omega))) | refine awp_ret ?_))
      ((first | (refine nextB (k + 1) ?_ ?_ ?_) | (refine nextA (k + 1) ?_ ?_ ?_) | (refine nextE (k + 1) ?_ ?_ ?_)); rotate_left; (· (try dsimp only); (first | omega | (simp only [List.length_drop, List.length_cons, List.length_append]; omega) | (simp; done) | (simp; omega))); (· (refine emb [0] ?_ ?_ rfl ?_ ?_ ?_ ?_ <;> simp [okM, okO, lk, ren, renL, renNd, by_, hE, eT, renL_r] <;> (try omega) <;> (try (intro i hi; first | (rcases (by omega : i = 0 ∨ i = 1 ∨ i = 2) with rfl | rfl | rfl <;> rfl) | (rcases (by omega : i = 0 ∨ i = 1) with rfl | rfl <;> rfl))))))
      exact ⟨hlt, hf⟩
    · rw [hp] at pc hf
      simp only at hf
      subst hf
      (repeat' (first | refine awp_seq ?_ | refine awp_block ?_ | refine awp_skip ?_ | refine awp_exit ?_ | ((first | refine rR (fun K kp hK hkp => ?_) | refine cR pc ?_ | refine iG ?_); simp (implicitDefEqProofs := false) (maxSteps := 2000000) (disch := omega) only [go_sem, eT, d1, z1, hi]; (repeat' (first | (refine hK _ ?_; clear hK hkp kp K) | (with_reducible refine And.intro ?_ ?_) | omega))) | ((first | refine aG (fun h => ?_) (fun h => ?_) | refine aD (fun h => ?_) (fun h => ?_) | refine aX (fun h => ?_) (fun h => ?_)) <;> simp only [h]) | refine awp_cond_t rfl ?_ | refine awp_cond_f rfl ?_ | ((refine awp_cond rfl (fun h => ?_) (fun h => ?_) <;> try simp only [ifs] at h) <;> (try (exfalso; omega))) | refine awp_ret ?_))
      (refine retA_is (by (simp (implicitDefEqProofs := false) (maxSteps := 2000000) (disch := omega) only [go_sem, Go.Proofs.Tryd.results43, oneR, markE, eT]); rfl) ?_; refine eN hE ?_; simp [oneA, ren, renL, oneR, markE, eT])
  · have d1 : decide ((k : Int) < 12) = false := decide_eq_false (by omega)
    rw [List.drop_of_length_le (by simp [marksB]; omega), List.find?_nil] at hf
    subst hf
    (repeat' (first | refine awp_seq ?_ | refine awp_block ?_ | refine awp_skip ?_ | refine awp_exit ?_ | ((first | refine rR (fun K kp hK hkp => ?_) | refine iG ?_); simp (implicitDefEqProofs := false) (maxSteps := 2000000) (disch := omega) only [go_sem, eT, d1]; (repeat' (first | (refine hK _ ?_; clear hK hkp kp K) | (with_reducible refine And.intro ?_ ?_) | omega))) | ((first | refine aG (fun h => ?_) (fun h => ?_) | refine aD (fun h => ?_) (fun h => ?_) | refine aX (fun h => ?_) (fun h => ?_)) <;> simp only [h]) | refine awp_cond_t rfl ?_ | refine awp_cond_f rfl ?_ | ((refine awp_cond rfl (fun h => ?_) (fun h => ?_) <;> try simp only [ifs] at h) <;> (try (exfalso; omega))) | refine awp_ret ?_))
    (refine retA_is (by (simp (implicitDefEqProofs := false) (maxSteps := 2000000) (disch := omega) only [go_sem, Go.Proofs.Tryd.results43, oneR, markE, eT]); rfl) ?_; refine eN hE ?_; simp [oneA, ren, renL, oneR, markE, eT])
theorem one_con {G : List (Nat × List Value)} (T : LexT G) (l : List UInt8) (hl : l.length ≤ 1048576) (h0 : 0 < l.length) : Con Go.Proofs.Tryd.prog G 43 [.r (.string ⟨l.toArray⟩)] [] 0 (Is (oneR (oneM l)) [] 0) No := by
  obtain ⟨c, r, rfl⟩ : ∃ c r, l = c :: r := by
    cases l with
    | nil => simp at h0
    | cons c r => exact ⟨c, r, rfl⟩
  have hc : (c :: r)[0]? = some c := rfl
  rw [oneM]
  by_cases h1 : letB c.toNat = true
  · rw [if_pos h1]; exact one_word G _ hl c hc h1
  have h1 : letB c.toNat = false := by simpa using h1
  rw [if_neg (by simp [h1])]
  by_cases h2 : digB c.toNat = true
  · rw [if_pos h2]; exact one_num T _ hl c hc h1 h2
  have h2 : digB c.toNat = false := by simpa using h2
  rw [if_neg (by simp [h2])]
  by_cases h3 : c = 39
  · rw [if_pos h3]
    have := one_quote G _ hl c hc h1 h2 h3
    exact this
  · rw [if_neg h3]
    have := one_mark T _ hl c hc h1 h2 h3
    revert this
    cases List.find? (fun m => isPre m (c :: r)) marksB <;> exact id
end Go.AM
/- lex.Cut. -/
namespace Go.AM
open Go Go.RowKit
open Go.Proofs.YteebiklebedneaaDoor (letB digB wrdB)
attribute [local irreducible] AWP retA
def cutA (R : List TK0 × Nat × Int) : AV := .tup [if R.2.2 = 0 then .ro true 3 (R.1.map eT) else .r (.slice none 0 0), .r (.int .i64 R.2.1), .r (.int .i64 R.2.2)]
theorem text_le : ∀ {l : List UInt8} {x : List UInt8 × Nat}, textM l = some x → x.2 ≤ l.length
  | [], x, h => by simp [textM] at h
  | [c], x, h => by
    rw [textM] at h
    split at h
    · obtain rfl := Option.some.inj h; simp
    · cases h
  | c :: d :: r, x, h => by
    rw [textM] at h
    split at h
    · split at h
      · obtain ⟨y, hy, rfl⟩ := Option.map_eq_some_iff.1 h
        have := text_le hy
        simp; omega
      · obtain rfl := Option.some.inj h; simp
    · obtain ⟨y, hy, rfl⟩ := Option.map_eq_some_iff.1 h
      have := text_le hy
      simp at this ⊢; omega
theorem span_pos {p : Int → Bool} {c : UInt8} {r : List UInt8} (h : p c.toNat = true) : 1 ≤ spanP p (c :: r) := by rw [spanP, if_pos h]; omega
theorem one_ok {l : List UInt8} {x : TK0 × Nat} (h : oneM l = .ok x) : 1 ≤ x.2 ∧ x.2 ≤ l.length := by
  cases l with
  | nil => simp [oneM] at h
  | cons c r =>
    rw [oneM] at h
    split at h
    · rename_i h1
      cases h
      exact ⟨span_pos (by simp [wrdB, h1]), spanP_le _ _⟩
    · split at h
      · rename_i h2
        split at h
        · cases h
        · split at h
          · cases h
          · cases h
            exact ⟨span_pos h2, spanP_le _ _⟩
      · split at h
        · split at h
          · cases h
          · rename_i x' hx
            cases h
            have := text_le hx
            simp; omega
        · split at h
          · rename_i m hm
            cases h
            have h1 := List.mem_of_find?_eq_some hm
            have h2 : isPre m (c :: r) = true := by simpa using List.find?_some hm
            have h3 := List.IsPrefix.length_le (List.isPrefixOf_iff_prefix.1 h2)
            refine ⟨?_, h3⟩
            simp only [marksB, List.mem_cons, List.not_mem_nil, or_false] at h1
            rcases h1 with rfl | rfl | rfl | rfl | rfl | rfl | rfl | rfl | rfl | rfl | rfl | rfl <;> decide
          · cases h
theorem one_err {l : List UInt8} {e : Int} (h : oneM l = .error e) : e ≠ 0 := by
  cases l with
  | nil => simp [oneM] at h; omega
  | cons c r =>
    rw [oneM] at h
    split at h
    · cases h
    · split at h
      · split at h
        · cases h; decide
        · split at h <;> cases h; decide
      · split at h
        · split at h <;> cases h; decide
        · split at h <;> cases h; decide
set_option maxRecDepth 100000 in
set_option maxHeartbeats 16000000 in
theorem Cut_con {G : List (Nat × List Value)} (T : LexT G) (l : List UInt8) (hl : l.length ≤ 1048576) : Con Go.Proofs.Tryd.prog G 17 [.r (.string ⟨l.toArray⟩)] [] 0 (Is (cutA (cutM l)) [] 0) No := by
  by_cases hc : 400 < l.length
  · have d1 : decide ((l.toArray.size : Int) > 400) = true := decide_eq_true (by rw [List.size_toArray]; omega)
    rw [show cutM l = ([], 0, 1) by simp [cutM, hc]]
    refine con_of_awp Go.Proofs.Tryd.func17 rfl (by kernel_rfl) (of_decide_eq_true (by kernel_rfl)) ?_; intro E hG hE; subst hG; simp only [ent]
    (repeat' (first | refine awp_seq ?_ | refine awp_block ?_ | refine awp_skip ?_ | refine awp_exit ?_ | ((first | refine rR (fun K kp hK hkp => ?_) | refine iG ?_); simp (implicitDefEqProofs := false) (maxSteps := 2000000) (disch := omega) only [go_sem, d1]; (repeat' (first | (refine hK _ ?_; clear hK hkp kp K) | (with_reducible refine And.intro ?_ ?_) | omega))) | ((first | refine aG (fun h => ?_) (fun h => ?_) | refine aD (fun h => ?_) (fun h => ?_) | refine aX (fun h => ?_) (fun h => ?_)) <;> simp only [h]) | refine awp_cond_t rfl ?_ | refine awp_cond_f rfl ?_ | ((refine awp_cond rfl (fun h => ?_) (fun h => ?_) <;> try simp only [ifs] at h) <;> (try (exfalso; omega))) | refine awp_ret ?_))
    (refine retA_is (by (simp (implicitDefEqProofs := false) (maxSteps := 2000000) (disch := omega) only [go_sem, Go.Proofs.Tryd.results17, cutA]); rfl) ?_; refine eN hE ?_; simp [oneA, ren, renL, cutA])
  have d1 : decide ((l.toArray.size : Int) > 400) = false := decide_eq_false (by rw [List.size_toArray]; omega)
  obtain ⟨R, hR⟩ : ∃ R, cutF (l.length + 1) l 0 [] = R := ⟨_, rfl⟩
  rw [show cutM l = R by rw [cutM, if_neg hc, hR]]
  refine con_of_awp Go.Proofs.Tryd.func17 rfl (by kernel_rfl) (of_decide_eq_true (by kernel_rfl)) ?_; intro E hG hE; subst hG; simp only [ent]
  (repeat' (first | refine awp_seq ?_ | refine awp_block ?_ | refine awp_skip ?_ | refine awp_exit ?_ | ((first | refine rR (fun K kp hK hkp => ?_) | refine iG ?_); simp (implicitDefEqProofs := false) (maxSteps := 2000000) (disch := omega) only [go_sem, d1]; (repeat' (first | (refine hK _ ?_; clear hK hkp kp K) | (with_reducible refine And.intro ?_ ?_) | omega))) | ((first | refine aG (fun h => ?_) (fun h => ?_) | refine aD (fun h => ?_) (fun h => ?_) | refine aX (fun h => ?_) (fun h => ?_)) <;> simp only [h]) | refine awp_cond_t rfl ?_ | refine awp_cond_f rfl ?_ | ((refine awp_cond rfl (fun h => ?_) (fun h => ?_) <;> try simp only [ifs] at h) <;> (try (exfalso; omega))) | refine awp_ret ?_))
  (refine AWP.emb (emb_nil 5 66 3 ?_) ?_; (· rfl); dsimp only)
  refine awp_loop (fun d : Nat × List TK0 => ⟨[(6, .r (.int .i64 d.1)), (5, .s 0 0 d.2.length), (0, .r (.string ⟨l.toArray⟩))], [(0, .lst 66 3 (d.2.map eT))], 1⟩) (fun d => d.1 ≤ l.length ∧ d.2.length ≤ 100 ∧ ∃ f, l.length - d.1 < f ∧ cutF f (l.drop d.1) d.1 d.2 = R) (fun d => l.length - d.1) (0, []) ?_ ?_ ?_
  · exact ⟨Nat.zero_le _, by simp, l.length + 1, by simp, hR⟩
  · (refine emb [0] ?_ ?_ rfl ?_ ?_ ?_ ?_ <;> simp [okM, okO, lk, ren, renL, renNd, by_, hE] <;> (try omega) <;> (try (intro i hi; first | (rcases (by omega : i = 0 ∨ i = 1 ∨ i = 2) with rfl | rfl | rfl <;> rfl) | (rcases (by omega : i = 0 ∨ i = 1) with rfl | rfl <;> rfl))))
  rintro ⟨at_, acc⟩ ⟨ha, hn, f, hf, hq⟩
  simp only at ha hn hf hq ⊢
  obtain ⟨f, rfl⟩ : ∃ g, f = g + 1 := ⟨f - 1, by omega⟩
  rw [cutF] at hq
  have hsl := spanP_le blankB (l.drop at_)
  have sc := span_con E.G 42 blankB blank_con (l.drop at_) (by rw [List.length_drop]; omega)
  obtain ⟨k, hk⟩ : ∃ k, spanP blankB (l.drop at_) = k := ⟨_, rfl⟩
  rw [hk] at hq sc hsl
  rw [List.length_drop] at hsl
  obtain ⟨a2, ha2⟩ : ∃ a2, at_ + k = a2 := ⟨_, rfl⟩
  rw [List.drop_drop, ha2] at hq
  have e1 : (at_ : Int) + (k : Int) = (a2 : Int) := by omega
  have x1 := ext_take l at_ l.length
  rw [List.take_length] at x1
  have x2 := ext_take l a2 l.length
  rw [List.take_length] at x2
  have zs : l.toArray.size = l.length := List.size_toArray
  have ha2l : a2 ≤ l.length := by omega
  by_cases hend : a2 = l.length
  · rw [if_pos (by rw [hend, List.drop_length])] at hq
    subst hq
    have b1 : ((a2 : Int) == (l.length : Int)) = true := by rw [beq_iff_eq]; omega
    (repeat' (first | refine awp_seq ?_ | refine awp_block ?_ | refine awp_skip ?_ | refine awp_exit ?_ | ((first | refine rR (fun K kp hK hkp => ?_) | refine cR sc ?_ | refine iG ?_); simp (implicitDefEqProofs := false) (maxSteps := 2000000) (disch := omega) only [go_sem, zs, x1, x2, e1, b1]; (repeat' (first | (refine hK _ ?_; clear hK hkp kp K) | (with_reducible refine And.intro ?_ ?_) | omega))) | ((first | refine aG (fun h => ?_) (fun h => ?_) | refine aD (fun h => ?_) (fun h => ?_) | refine aX (fun h => ?_) (fun h => ?_)) <;> simp only [h]) | refine awp_cond_t rfl ?_ | refine awp_cond_f rfl ?_ | ((refine awp_cond rfl (fun h => ?_) (fun h => ?_) <;> try simp only [ifs] at h) <;> (try (exfalso; omega))) | refine awp_ret ?_))
    (refine retA_is (by (simp (implicitDefEqProofs := false) (maxSteps := 2000000) (disch := omega) only [go_sem, Go.Proofs.Tryd.results17, cutA]); rfl) ?_; refine embS_frz (by simp only [oneA]; simp (implicitDefEqProofs := false) (maxSteps := 2000000) (disch := omega) only [go_sem, cutA]; rfl) ?_; refine (embV_nil hE (by simp) ?_).s; simp [oneA, ren, renL, cutA])
  · have b1 : ((a2 : Int) == (l.length : Int)) = false := by rw [beq_eq_false_iff_ne]; omega
    rw [if_neg (by intro h; have := congrArg List.length h; rw [List.length_drop] at this; simp at this; omega)] at hq
    by_cases hfull : acc.length = 100
    · have b2 : ((acc.length : Int) == 100) = true := by rw [beq_iff_eq]; omega
      rw [if_pos hfull] at hq
      subst hq
      (repeat' (first | refine awp_seq ?_ | refine awp_block ?_ | refine awp_skip ?_ | refine awp_exit ?_ | ((first | refine rR (fun K kp hK hkp => ?_) | refine cR sc ?_ | refine iG ?_); simp (implicitDefEqProofs := false) (maxSteps := 2000000) (disch := omega) only [go_sem, zs, x1, x2, e1, b1, b2]; (repeat' (first | (refine hK _ ?_; clear hK hkp kp K) | (with_reducible refine And.intro ?_ ?_) | omega))) | ((first | refine aG (fun h => ?_) (fun h => ?_) | refine aD (fun h => ?_) (fun h => ?_) | refine aX (fun h => ?_) (fun h => ?_)) <;> simp only [h]) | refine awp_cond_t rfl ?_ | refine awp_cond_f rfl ?_ | ((refine awp_cond rfl (fun h => ?_) (fun h => ?_) <;> try simp only [ifs] at h) <;> (try (exfalso; omega))) | refine awp_ret ?_))
      (refine retA_is (by (simp (implicitDefEqProofs := false) (maxSteps := 2000000) (disch := omega) only [go_sem, Go.Proofs.Tryd.results17, cutA]); rfl) ?_; refine eN hE ?_; simp [oneA, ren, renL, cutA])
    · have b2 : ((acc.length : Int) == 100) = false := by rw [beq_eq_false_iff_ne]; omega
      rw [if_neg hfull] at hq
      have oc := one_con T (l.drop a2) (by rw [List.length_drop]; omega) (by rw [List.length_drop]; omega)
      cases ho : oneM (l.drop a2) with
      | error e =>
        have he := one_err ho
        have b3 : (e != 0) = true := by simpa using he
        rw [ho] at oc hq
        simp only [oneR, eT] at oc
        simp only at hq
        subst hq
        (repeat' (first | refine awp_seq ?_ | refine awp_block ?_ | refine awp_skip ?_ | refine awp_exit ?_ | ((first | refine rR (fun K kp hK hkp => ?_) | refine cR sc ?_ | refine cR oc ?_ | refine iG ?_); simp (implicitDefEqProofs := false) (maxSteps := 2000000) (disch := omega) only [go_sem, zs, x1, x2, e1, b1, b2, b3]; (repeat' (first | (refine hK _ ?_; clear hK hkp kp K) | (with_reducible refine And.intro ?_ ?_) | omega))) | ((first | refine aG (fun h => ?_) (fun h => ?_) | refine aD (fun h => ?_) (fun h => ?_) | refine aX (fun h => ?_) (fun h => ?_)) <;> simp only [h]) | refine awp_cond_t rfl ?_ | refine awp_cond_f rfl ?_ | ((refine awp_cond rfl (fun h => ?_) (fun h => ?_) <;> try simp only [ifs] at h) <;> (try (exfalso; omega))) | refine awp_ret ?_))
        (refine retA_is (by (simp (implicitDefEqProofs := false) (maxSteps := 2000000) (disch := omega) only [go_sem, Go.Proofs.Tryd.results17, cutA, he]); rfl) ?_; refine eN hE ?_; simp [oneA, ren, renL, cutA, he])
      | ok x =>
        obtain ⟨hp1, hp2⟩ := one_ok ho
        rw [List.length_drop] at hp2
        rw [ho] at oc hq
        simp only [oneR, eT] at oc
        simp only at hq
        obtain ⟨a3, ha3⟩ : ∃ a3, a2 + x.2 = a3 := ⟨_, rfl⟩
        rw [List.drop_drop, ha3] at hq
        have e2 : (a2 : Int) + (x.2 : Int) = (a3 : Int) := by omega
        (repeat' (first | refine awp_seq ?_ | refine awp_block ?_ | refine awp_skip ?_ | refine awp_exit ?_ | ((first | refine rR (fun K kp hK hkp => ?_) | refine cR sc ?_ | refine cR oc ?_ | refine iG ?_); simp (implicitDefEqProofs := false) (maxSteps := 2000000) (disch := omega) only [go_sem, zs, x1, x2, e1, e2, b1, b2]; (repeat' (first | (refine hK _ ?_; clear hK hkp kp K) | (with_reducible refine And.intro ?_ ?_) | omega))) | ((first | refine aG (fun h => ?_) (fun h => ?_) | refine aD (fun h => ?_) (fun h => ?_) | refine aX (fun h => ?_) (fun h => ?_)) <;> simp only [h]) | refine awp_cond_t rfl ?_ | refine awp_cond_f rfl ?_ | ((refine awp_cond rfl (fun h => ?_) (fun h => ?_) <;> try simp only [ifs] at h) <;> (try (exfalso; omega))) | refine awp_ret ?_))
        ((first | (refine nextB ((a3, acc ++ [x.1])) ?_ ?_ ?_) | (refine nextA ((a3, acc ++ [x.1])) ?_ ?_ ?_) | (refine nextE ((a3, acc ++ [x.1])) ?_ ?_ ?_)); rotate_left; (· (try dsimp only); (first | omega | (simp only [List.length_drop, List.length_cons, List.length_append]; omega) | (simp; done) | (simp; omega))); (· (refine emb [3] ?_ ?_ rfl ?_ ?_ ?_ ?_ <;> simp [okM, okO, lk, ren, renL, renNd, by_, hE, eT] <;> (try omega) <;> (try (intro i hi; first | (rcases (by omega : i = 0 ∨ i = 1 ∨ i = 2) with rfl | rfl | rfl <;> rfl) | (rcases (by omega : i = 0 ∨ i = 1) with rfl | rfl <;> rfl))))))
        exact ⟨by simp only; omega, by simp; omega, f, by simp only; omega, hq⟩
end Go.AM
/- The reference's markAt. -/
namespace Go.AM
open Go Go.RowKit
open Go.Proofs.YteebiklebedneaaDoor (letB digB wrdB)
attribute [local irreducible] AWP retA
def oneMk (c : Int) : Bool := c == 40 || c == 41 || c == 44 || c == 42 || c == 43 || c == 45 || c == 61 || c == 60 || c == 62
def twoMk (c b : Int) : Bool := (c == 60 && (b == 61 || b == 62)) || (c == 62 && b == 61)
def markR : List UInt8 → List UInt8
  | [] => []
  | [c] => if oneMk c.toNat = true then [c] else []
  | c :: d :: _ => if twoMk c.toNat d.toNat = true then [c, d] else if oneMk c.toNat = true then [c] else []
theorem u8_eq {c : UInt8} {n : Nat} (h : n < 256) : ((c.toNat : Int) == (n : Int)) = (c == UInt8.ofNat n) := by
  rw [Bool.eq_iff_iff, beq_iff_eq, beq_iff_eq]
  constructor
  · intro h1; apply UInt8.toNat_inj.1; rw [UInt8.toNat_ofNat']; omega
  · intro h1; rw [h1, UInt8.toNat_ofNat']; omega
theorem mark_same (l : List UInt8) : (marksB.find? fun m => isPre m l) = if markR l = [] then none else some (markR l) := by
  have e : ∀ n : Nat, n < 256 → ∀ c : UInt8, ((c.toNat : Int) == (n : Int)) = (c == UInt8.ofNat n) := fun n h c => u8_eq h
  have e40 : ∀ c : UInt8, ((c.toNat : Int) == 40) = (c == 40) := fun c => e 40 (by omega) c
  have e41 : ∀ c : UInt8, ((c.toNat : Int) == 41) = (c == 41) := fun c => e 41 (by omega) c
  have e42 : ∀ c : UInt8, ((c.toNat : Int) == 42) = (c == 42) := fun c => e 42 (by omega) c
  have e43 : ∀ c : UInt8, ((c.toNat : Int) == 43) = (c == 43) := fun c => e 43 (by omega) c
  have e44 : ∀ c : UInt8, ((c.toNat : Int) == 44) = (c == 44) := fun c => e 44 (by omega) c
  have e45 : ∀ c : UInt8, ((c.toNat : Int) == 45) = (c == 45) := fun c => e 45 (by omega) c
  have e60 : ∀ c : UInt8, ((c.toNat : Int) == 60) = (c == 60) := fun c => e 60 (by omega) c
  have e61 : ∀ c : UInt8, ((c.toNat : Int) == 61) = (c == 61) := fun c => e 61 (by omega) c
  have e62 : ∀ c : UInt8, ((c.toNat : Int) == 62) = (c == 62) := fun c => e 62 (by omega) c
  match l with
  | [] => rfl
  | [c] =>
    simp only [marksB, List.find?, isPre, markR, oneMk, List.isPrefixOf, e40, e41, e42, e43, e44, e45, e60, e61, e62]
    by_cases h40 : c = 40
    · subst h40; rfl
    by_cases h41 : c = 41
    · subst h41; rfl
    by_cases h44 : c = 44
    · subst h44; rfl
    by_cases h42 : c = 42
    · subst h42; rfl
    by_cases h43 : c = 43
    · subst h43; rfl
    by_cases h45 : c = 45
    · subst h45; rfl
    by_cases h61 : c = 61
    · subst h61; rfl
    by_cases h60 : c = 60
    · subst h60; rfl
    by_cases h62 : c = 62
    · subst h62; rfl
    have fh40 : ((40 : UInt8) == c) = false := beq_eq_false_iff_ne.2 (Ne.symm h40)
    have fh41 : ((41 : UInt8) == c) = false := beq_eq_false_iff_ne.2 (Ne.symm h41)
    have fh42 : ((42 : UInt8) == c) = false := beq_eq_false_iff_ne.2 (Ne.symm h42)
    have fh43 : ((43 : UInt8) == c) = false := beq_eq_false_iff_ne.2 (Ne.symm h43)
    have fh44 : ((44 : UInt8) == c) = false := beq_eq_false_iff_ne.2 (Ne.symm h44)
    have fh45 : ((45 : UInt8) == c) = false := beq_eq_false_iff_ne.2 (Ne.symm h45)
    have fh60 : ((60 : UInt8) == c) = false := beq_eq_false_iff_ne.2 (Ne.symm h60)
    have fh61 : ((61 : UInt8) == c) = false := beq_eq_false_iff_ne.2 (Ne.symm h61)
    have fh62 : ((62 : UInt8) == c) = false := beq_eq_false_iff_ne.2 (Ne.symm h62)
    simp [h40, h41, h42, h43, h44, h45, h60, h61, h62, fh40, fh41, fh42, fh43, fh44, fh45, fh60, fh61, fh62]
  | c :: d :: r =>
    simp only [marksB, List.find?, isPre, markR, oneMk, twoMk, List.isPrefixOf, e40, e41, e42, e43, e44, e45, e60, e61, e62]
    by_cases h60 : c = 60
    · subst h60
      by_cases g61 : d = 61
      · subst g61; cases r <;> rfl
      by_cases g62 : d = 62
      · subst g62; cases r <;> rfl
      have fg61 : ((61 : UInt8) == d) = false := beq_eq_false_iff_ne.2 (Ne.symm g61)
      have fg62 : ((62 : UInt8) == d) = false := beq_eq_false_iff_ne.2 (Ne.symm g62)
      simp [g61, g62, fg61, fg62]
    by_cases h62 : c = 62
    · subst h62
      by_cases g61 : d = 61
      · subst g61; cases r <;> rfl
      have fg61 : ((61 : UInt8) == d) = false := beq_eq_false_iff_ne.2 (Ne.symm g61)
      simp [g61, fg61]
    by_cases h40 : c = 40
    · subst h40; simp
    by_cases h41 : c = 41
    · subst h41; simp
    by_cases h44 : c = 44
    · subst h44; simp
    by_cases h42 : c = 42
    · subst h42; simp
    by_cases h43 : c = 43
    · subst h43; simp
    by_cases h45 : c = 45
    · subst h45; simp
    by_cases h61 : c = 61
    · subst h61; simp
    have fh40 : ((40 : UInt8) == c) = false := beq_eq_false_iff_ne.2 (Ne.symm h40)
    have fh41 : ((41 : UInt8) == c) = false := beq_eq_false_iff_ne.2 (Ne.symm h41)
    have fh42 : ((42 : UInt8) == c) = false := beq_eq_false_iff_ne.2 (Ne.symm h42)
    have fh43 : ((43 : UInt8) == c) = false := beq_eq_false_iff_ne.2 (Ne.symm h43)
    have fh44 : ((44 : UInt8) == c) = false := beq_eq_false_iff_ne.2 (Ne.symm h44)
    have fh45 : ((45 : UInt8) == c) = false := beq_eq_false_iff_ne.2 (Ne.symm h45)
    have fh60 : ((60 : UInt8) == c) = false := beq_eq_false_iff_ne.2 (Ne.symm h60)
    have fh61 : ((61 : UInt8) == c) = false := beq_eq_false_iff_ne.2 (Ne.symm h61)
    have fh62 : ((62 : UInt8) == c) = false := beq_eq_false_iff_ne.2 (Ne.symm h62)
    simp [h40, h41, h42, h43, h44, h45, h60, h61, h62, fh40, fh41, fh42, fh43, fh44, fh45, fh60, fh61, fh62]
end Go.AM
/- The reference's markAt: the walk. -/
namespace Go.AM
open Go Go.RowKit
attribute [local irreducible] AWP retA
theorem drop_take1 {l : List UInt8} {k : Nat} {c : UInt8} (h : l[k]? = some c) : (l.take (k + 1)).drop k = [c] := by
  rw [List.drop_take, drop_cons h, show k + 1 - k = 1 by omega]; rfl
theorem drop_take2 {l : List UInt8} {k : Nat} {c d : UInt8} (h : l[k]? = some c) (h2 : l[k + 1]? = some d) : (l.take (k + 2)).drop k = [c, d] := by
  rw [List.drop_take, drop_cons h, drop_cons h2, show k + 2 - k = 2 by omega]; rfl
set_option maxRecDepth 100000 in
set_option maxHeartbeats 16000000 in
theorem markAt_one (G : List (Nat × List Value)) (l : List UInt8) (hl : l.length ≤ 1048576) (at_ : Nat) (c : UInt8) (hc : l[at_]? = some c) (hd : l.length ≤ at_ + 1) : Con Go.Proofs.Tryd.prog G 71 [.r (.string ⟨l.toArray⟩), .r (.int .i64 at_)] [] 0 (Is (.r (.string ⟨(markR [c]).toArray⟩)) [] 0) No := by
  have hlt := (List.getElem?_eq_some_iff.1 hc).1
  have hb : (⟨l.toArray⟩ : ByteArray)[at_]? = some c := by rw [ba_get]; exact hc
  have zs : l.toArray.size = l.length := List.size_toArray
  have x1 := ext_take l at_ (at_ + 1)
  rw [drop_take1 hc] at x1
  obtain ⟨a1, ha1⟩ : ∃ a1, at_ + 1 = a1 := ⟨_, rfl⟩
  rw [ha1] at x1
  have e1 : (at_ : Int) + 1 = (a1 : Int) := by omega
  have zA : ((a1 : Int) ≤ (l.length : Int)) = True := eq_true (by omega)
  have zB : ((at_ : Int) ≤ (a1 : Int)) = True := eq_true (by omega)
  have d1 : decide ((a1 : Int) < (l.length : Int)) = false := decide_eq_false (by omega)
  by_cases hc60 : c = 60
  · have c60 : ((c.toNat : Int) == 60) = true := by rw [hc60]; rfl
    have c40 : ((c.toNat : Int) == 40) = false := by rw [hc60]; rfl
    have c41 : ((c.toNat : Int) == 41) = false := by rw [hc60]; rfl
    have c44 : ((c.toNat : Int) == 44) = false := by rw [hc60]; rfl
    have c42 : ((c.toNat : Int) == 42) = false := by rw [hc60]; rfl
    have c43 : ((c.toNat : Int) == 43) = false := by rw [hc60]; rfl
    have c45 : ((c.toNat : Int) == 45) = false := by rw [hc60]; rfl
    have c61 : ((c.toNat : Int) == 61) = false := by rw [hc60]; rfl
    rw [show markR [c] = [c] by simp [markR, oneMk, twoMk, c60, c40, c41, c44, c42, c43, c45, c61]]
    refine con_of_awp Go.Proofs.Tryd.func71 rfl (by kernel_rfl) (of_decide_eq_true (by kernel_rfl)) ?_; intro E hG hE; subst hG; simp only [ent]
    (repeat' (first | refine awp_seq ?_ | refine awp_block ?_ | refine awp_skip ?_ | refine awp_exit ?_ | ((first | refine rR (fun K kp hK hkp => ?_) | refine iG ?_); simp (implicitDefEqProofs := false) (maxSteps := 2000000) (disch := omega) only [go_sem, hb, e1, zs, c60, c40, c41, c44, c42, c43, c45, c61, d1, x1, hiA, loA, zA, zB]; (repeat' (first | (refine hK _ ?_; clear hK hkp kp K) | (with_reducible refine And.intro ?_ ?_) | omega))) | ((first | refine aG (fun h => ?_) (fun h => ?_) | refine aD (fun h => ?_) (fun h => ?_) | refine aX (fun h => ?_) (fun h => ?_)) <;> simp only [h]) | refine awp_cond_t rfl ?_ | refine awp_cond_f rfl ?_ | ((refine awp_cond rfl (fun h => ?_) (fun h => ?_) <;> try simp only [ifs] at h) <;> (try (exfalso; omega))) | refine awp_ret ?_))
    (refine retA_is (by (simp (implicitDefEqProofs := false) (maxSteps := 2000000) (disch := omega) only [go_sem, Go.Proofs.Tryd.results71]); rfl) ?_; refine eN hE ?_; simp [oneA, ren, renL])
  have c60 : ((c.toNat : Int) == 60) = false := by rw [beq_eq_false_iff_ne]; intro h; exact hc60 (UInt8.toNat_inj.1 (show c.toNat = (60 : UInt8).toNat by have : (60 : UInt8).toNat = 60 := rfl; omega))
  by_cases hc62 : c = 62
  · have c62 : ((c.toNat : Int) == 62) = true := by rw [hc62]; rfl
    have c40 : ((c.toNat : Int) == 40) = false := by rw [hc62]; rfl
    have c41 : ((c.toNat : Int) == 41) = false := by rw [hc62]; rfl
    have c44 : ((c.toNat : Int) == 44) = false := by rw [hc62]; rfl
    have c42 : ((c.toNat : Int) == 42) = false := by rw [hc62]; rfl
    have c43 : ((c.toNat : Int) == 43) = false := by rw [hc62]; rfl
    have c45 : ((c.toNat : Int) == 45) = false := by rw [hc62]; rfl
    have c61 : ((c.toNat : Int) == 61) = false := by rw [hc62]; rfl
    rw [show markR [c] = [c] by simp [markR, oneMk, twoMk, c60, c62, c40, c41, c44, c42, c43, c45, c61]]
    refine con_of_awp Go.Proofs.Tryd.func71 rfl (by kernel_rfl) (of_decide_eq_true (by kernel_rfl)) ?_; intro E hG hE; subst hG; simp only [ent]
    (repeat' (first | refine awp_seq ?_ | refine awp_block ?_ | refine awp_skip ?_ | refine awp_exit ?_ | ((first | refine rR (fun K kp hK hkp => ?_) | refine iG ?_); simp (implicitDefEqProofs := false) (maxSteps := 2000000) (disch := omega) only [go_sem, hb, e1, zs, c60, c62, c40, c41, c44, c42, c43, c45, c61, d1, x1, hiA, loA, zA, zB]; (repeat' (first | (refine hK _ ?_; clear hK hkp kp K) | (with_reducible refine And.intro ?_ ?_) | omega))) | ((first | refine aG (fun h => ?_) (fun h => ?_) | refine aD (fun h => ?_) (fun h => ?_) | refine aX (fun h => ?_) (fun h => ?_)) <;> simp only [h]) | refine awp_cond_t rfl ?_ | refine awp_cond_f rfl ?_ | ((refine awp_cond rfl (fun h => ?_) (fun h => ?_) <;> try simp only [ifs] at h) <;> (try (exfalso; omega))) | refine awp_ret ?_))
    (refine retA_is (by (simp (implicitDefEqProofs := false) (maxSteps := 2000000) (disch := omega) only [go_sem, Go.Proofs.Tryd.results71]); rfl) ?_; refine eN hE ?_; simp [oneA, ren, renL])
  have c62 : ((c.toNat : Int) == 62) = false := by rw [beq_eq_false_iff_ne]; intro h; exact hc62 (UInt8.toNat_inj.1 (show c.toNat = (62 : UInt8).toNat by have : (62 : UInt8).toNat = 62 := rfl; omega))
  by_cases hc40 : c = 40
  · have c40 : ((c.toNat : Int) == 40) = true := by rw [hc40]; rfl
    rw [show markR [c] = [c] by simp [markR, oneMk, twoMk, c60, c62, c40]]
    refine con_of_awp Go.Proofs.Tryd.func71 rfl (by kernel_rfl) (of_decide_eq_true (by kernel_rfl)) ?_; intro E hG hE; subst hG; simp only [ent]
    (repeat' (first | refine awp_seq ?_ | refine awp_block ?_ | refine awp_skip ?_ | refine awp_exit ?_ | ((first | refine rR (fun K kp hK hkp => ?_) | refine iG ?_); simp (implicitDefEqProofs := false) (maxSteps := 2000000) (disch := omega) only [go_sem, hb, e1, zs, c60, c62, c40, d1, x1, hiA, loA, zA, zB]; (repeat' (first | (refine hK _ ?_; clear hK hkp kp K) | (with_reducible refine And.intro ?_ ?_) | omega))) | ((first | refine aG (fun h => ?_) (fun h => ?_) | refine aD (fun h => ?_) (fun h => ?_) | refine aX (fun h => ?_) (fun h => ?_)) <;> simp only [h]) | refine awp_cond_t rfl ?_ | refine awp_cond_f rfl ?_ | ((refine awp_cond rfl (fun h => ?_) (fun h => ?_) <;> try simp only [ifs] at h) <;> (try (exfalso; omega))) | refine awp_ret ?_))
    (refine retA_is (by (simp (implicitDefEqProofs := false) (maxSteps := 2000000) (disch := omega) only [go_sem, Go.Proofs.Tryd.results71]); rfl) ?_; refine eN hE ?_; simp [oneA, ren, renL])
  have c40 : ((c.toNat : Int) == 40) = false := by rw [beq_eq_false_iff_ne]; intro h; exact hc40 (UInt8.toNat_inj.1 (show c.toNat = (40 : UInt8).toNat by have : (40 : UInt8).toNat = 40 := rfl; omega))
  by_cases hc41 : c = 41
  · have c41 : ((c.toNat : Int) == 41) = true := by rw [hc41]; rfl
    rw [show markR [c] = [c] by simp [markR, oneMk, twoMk, c60, c62, c40, c41]]
    refine con_of_awp Go.Proofs.Tryd.func71 rfl (by kernel_rfl) (of_decide_eq_true (by kernel_rfl)) ?_; intro E hG hE; subst hG; simp only [ent]
    (repeat' (first | refine awp_seq ?_ | refine awp_block ?_ | refine awp_skip ?_ | refine awp_exit ?_ | ((first | refine rR (fun K kp hK hkp => ?_) | refine iG ?_); simp (implicitDefEqProofs := false) (maxSteps := 2000000) (disch := omega) only [go_sem, hb, e1, zs, c60, c62, c40, c41, d1, x1, hiA, loA, zA, zB]; (repeat' (first | (refine hK _ ?_; clear hK hkp kp K) | (with_reducible refine And.intro ?_ ?_) | omega))) | ((first | refine aG (fun h => ?_) (fun h => ?_) | refine aD (fun h => ?_) (fun h => ?_) | refine aX (fun h => ?_) (fun h => ?_)) <;> simp only [h]) | refine awp_cond_t rfl ?_ | refine awp_cond_f rfl ?_ | ((refine awp_cond rfl (fun h => ?_) (fun h => ?_) <;> try simp only [ifs] at h) <;> (try (exfalso; omega))) | refine awp_ret ?_))
    (refine retA_is (by (simp (implicitDefEqProofs := false) (maxSteps := 2000000) (disch := omega) only [go_sem, Go.Proofs.Tryd.results71]); rfl) ?_; refine eN hE ?_; simp [oneA, ren, renL])
  have c41 : ((c.toNat : Int) == 41) = false := by rw [beq_eq_false_iff_ne]; intro h; exact hc41 (UInt8.toNat_inj.1 (show c.toNat = (41 : UInt8).toNat by have : (41 : UInt8).toNat = 41 := rfl; omega))
  by_cases hc44 : c = 44
  · have c44 : ((c.toNat : Int) == 44) = true := by rw [hc44]; rfl
    rw [show markR [c] = [c] by simp [markR, oneMk, twoMk, c60, c62, c40, c41, c44]]
    refine con_of_awp Go.Proofs.Tryd.func71 rfl (by kernel_rfl) (of_decide_eq_true (by kernel_rfl)) ?_; intro E hG hE; subst hG; simp only [ent]
    (repeat' (first | refine awp_seq ?_ | refine awp_block ?_ | refine awp_skip ?_ | refine awp_exit ?_ | ((first | refine rR (fun K kp hK hkp => ?_) | refine iG ?_); simp (implicitDefEqProofs := false) (maxSteps := 2000000) (disch := omega) only [go_sem, hb, e1, zs, c60, c62, c40, c41, c44, d1, x1, hiA, loA, zA, zB]; (repeat' (first | (refine hK _ ?_; clear hK hkp kp K) | (with_reducible refine And.intro ?_ ?_) | omega))) | ((first | refine aG (fun h => ?_) (fun h => ?_) | refine aD (fun h => ?_) (fun h => ?_) | refine aX (fun h => ?_) (fun h => ?_)) <;> simp only [h]) | refine awp_cond_t rfl ?_ | refine awp_cond_f rfl ?_ | ((refine awp_cond rfl (fun h => ?_) (fun h => ?_) <;> try simp only [ifs] at h) <;> (try (exfalso; omega))) | refine awp_ret ?_))
    (refine retA_is (by (simp (implicitDefEqProofs := false) (maxSteps := 2000000) (disch := omega) only [go_sem, Go.Proofs.Tryd.results71]); rfl) ?_; refine eN hE ?_; simp [oneA, ren, renL])
  have c44 : ((c.toNat : Int) == 44) = false := by rw [beq_eq_false_iff_ne]; intro h; exact hc44 (UInt8.toNat_inj.1 (show c.toNat = (44 : UInt8).toNat by have : (44 : UInt8).toNat = 44 := rfl; omega))
  by_cases hc42 : c = 42
  · have c42 : ((c.toNat : Int) == 42) = true := by rw [hc42]; rfl
    rw [show markR [c] = [c] by simp [markR, oneMk, twoMk, c60, c62, c40, c41, c44, c42]]
    refine con_of_awp Go.Proofs.Tryd.func71 rfl (by kernel_rfl) (of_decide_eq_true (by kernel_rfl)) ?_; intro E hG hE; subst hG; simp only [ent]
    (repeat' (first | refine awp_seq ?_ | refine awp_block ?_ | refine awp_skip ?_ | refine awp_exit ?_ | ((first | refine rR (fun K kp hK hkp => ?_) | refine iG ?_); simp (implicitDefEqProofs := false) (maxSteps := 2000000) (disch := omega) only [go_sem, hb, e1, zs, c60, c62, c40, c41, c44, c42, d1, x1, hiA, loA, zA, zB]; (repeat' (first | (refine hK _ ?_; clear hK hkp kp K) | (with_reducible refine And.intro ?_ ?_) | omega))) | ((first | refine aG (fun h => ?_) (fun h => ?_) | refine aD (fun h => ?_) (fun h => ?_) | refine aX (fun h => ?_) (fun h => ?_)) <;> simp only [h]) | refine awp_cond_t rfl ?_ | refine awp_cond_f rfl ?_ | ((refine awp_cond rfl (fun h => ?_) (fun h => ?_) <;> try simp only [ifs] at h) <;> (try (exfalso; omega))) | refine awp_ret ?_))
    (refine retA_is (by (simp (implicitDefEqProofs := false) (maxSteps := 2000000) (disch := omega) only [go_sem, Go.Proofs.Tryd.results71]); rfl) ?_; refine eN hE ?_; simp [oneA, ren, renL])
  have c42 : ((c.toNat : Int) == 42) = false := by rw [beq_eq_false_iff_ne]; intro h; exact hc42 (UInt8.toNat_inj.1 (show c.toNat = (42 : UInt8).toNat by have : (42 : UInt8).toNat = 42 := rfl; omega))
  by_cases hc43 : c = 43
  · have c43 : ((c.toNat : Int) == 43) = true := by rw [hc43]; rfl
    rw [show markR [c] = [c] by simp [markR, oneMk, twoMk, c60, c62, c40, c41, c44, c42, c43]]
    refine con_of_awp Go.Proofs.Tryd.func71 rfl (by kernel_rfl) (of_decide_eq_true (by kernel_rfl)) ?_; intro E hG hE; subst hG; simp only [ent]
    (repeat' (first | refine awp_seq ?_ | refine awp_block ?_ | refine awp_skip ?_ | refine awp_exit ?_ | ((first | refine rR (fun K kp hK hkp => ?_) | refine iG ?_); simp (implicitDefEqProofs := false) (maxSteps := 2000000) (disch := omega) only [go_sem, hb, e1, zs, c60, c62, c40, c41, c44, c42, c43, d1, x1, hiA, loA, zA, zB]; (repeat' (first | (refine hK _ ?_; clear hK hkp kp K) | (with_reducible refine And.intro ?_ ?_) | omega))) | ((first | refine aG (fun h => ?_) (fun h => ?_) | refine aD (fun h => ?_) (fun h => ?_) | refine aX (fun h => ?_) (fun h => ?_)) <;> simp only [h]) | refine awp_cond_t rfl ?_ | refine awp_cond_f rfl ?_ | ((refine awp_cond rfl (fun h => ?_) (fun h => ?_) <;> try simp only [ifs] at h) <;> (try (exfalso; omega))) | refine awp_ret ?_))
    (refine retA_is (by (simp (implicitDefEqProofs := false) (maxSteps := 2000000) (disch := omega) only [go_sem, Go.Proofs.Tryd.results71]); rfl) ?_; refine eN hE ?_; simp [oneA, ren, renL])
  have c43 : ((c.toNat : Int) == 43) = false := by rw [beq_eq_false_iff_ne]; intro h; exact hc43 (UInt8.toNat_inj.1 (show c.toNat = (43 : UInt8).toNat by have : (43 : UInt8).toNat = 43 := rfl; omega))
  by_cases hc45 : c = 45
  · have c45 : ((c.toNat : Int) == 45) = true := by rw [hc45]; rfl
    rw [show markR [c] = [c] by simp [markR, oneMk, twoMk, c60, c62, c40, c41, c44, c42, c43, c45]]
    refine con_of_awp Go.Proofs.Tryd.func71 rfl (by kernel_rfl) (of_decide_eq_true (by kernel_rfl)) ?_; intro E hG hE; subst hG; simp only [ent]
    (repeat' (first | refine awp_seq ?_ | refine awp_block ?_ | refine awp_skip ?_ | refine awp_exit ?_ | ((first | refine rR (fun K kp hK hkp => ?_) | refine iG ?_); simp (implicitDefEqProofs := false) (maxSteps := 2000000) (disch := omega) only [go_sem, hb, e1, zs, c60, c62, c40, c41, c44, c42, c43, c45, d1, x1, hiA, loA, zA, zB]; (repeat' (first | (refine hK _ ?_; clear hK hkp kp K) | (with_reducible refine And.intro ?_ ?_) | omega))) | ((first | refine aG (fun h => ?_) (fun h => ?_) | refine aD (fun h => ?_) (fun h => ?_) | refine aX (fun h => ?_) (fun h => ?_)) <;> simp only [h]) | refine awp_cond_t rfl ?_ | refine awp_cond_f rfl ?_ | ((refine awp_cond rfl (fun h => ?_) (fun h => ?_) <;> try simp only [ifs] at h) <;> (try (exfalso; omega))) | refine awp_ret ?_))
    (refine retA_is (by (simp (implicitDefEqProofs := false) (maxSteps := 2000000) (disch := omega) only [go_sem, Go.Proofs.Tryd.results71]); rfl) ?_; refine eN hE ?_; simp [oneA, ren, renL])
  have c45 : ((c.toNat : Int) == 45) = false := by rw [beq_eq_false_iff_ne]; intro h; exact hc45 (UInt8.toNat_inj.1 (show c.toNat = (45 : UInt8).toNat by have : (45 : UInt8).toNat = 45 := rfl; omega))
  by_cases hc61 : c = 61
  · have c61 : ((c.toNat : Int) == 61) = true := by rw [hc61]; rfl
    rw [show markR [c] = [c] by simp [markR, oneMk, twoMk, c60, c62, c40, c41, c44, c42, c43, c45, c61]]
    refine con_of_awp Go.Proofs.Tryd.func71 rfl (by kernel_rfl) (of_decide_eq_true (by kernel_rfl)) ?_; intro E hG hE; subst hG; simp only [ent]
    (repeat' (first | refine awp_seq ?_ | refine awp_block ?_ | refine awp_skip ?_ | refine awp_exit ?_ | ((first | refine rR (fun K kp hK hkp => ?_) | refine iG ?_); simp (implicitDefEqProofs := false) (maxSteps := 2000000) (disch := omega) only [go_sem, hb, e1, zs, c60, c62, c40, c41, c44, c42, c43, c45, c61, d1, x1, hiA, loA, zA, zB]; (repeat' (first | (refine hK _ ?_; clear hK hkp kp K) | (with_reducible refine And.intro ?_ ?_) | omega))) | ((first | refine aG (fun h => ?_) (fun h => ?_) | refine aD (fun h => ?_) (fun h => ?_) | refine aX (fun h => ?_) (fun h => ?_)) <;> simp only [h]) | refine awp_cond_t rfl ?_ | refine awp_cond_f rfl ?_ | ((refine awp_cond rfl (fun h => ?_) (fun h => ?_) <;> try simp only [ifs] at h) <;> (try (exfalso; omega))) | refine awp_ret ?_))
    (refine retA_is (by (simp (implicitDefEqProofs := false) (maxSteps := 2000000) (disch := omega) only [go_sem, Go.Proofs.Tryd.results71]); rfl) ?_; refine eN hE ?_; simp [oneA, ren, renL])
  have c61 : ((c.toNat : Int) == 61) = false := by rw [beq_eq_false_iff_ne]; intro h; exact hc61 (UInt8.toNat_inj.1 (show c.toNat = (61 : UInt8).toNat by have : (61 : UInt8).toNat = 61 := rfl; omega))
  rw [show markR [c] = [] by simp [markR, oneMk, twoMk, c60, c62, c40, c41, c44, c42, c43, c45, c61]]
  refine con_of_awp Go.Proofs.Tryd.func71 rfl (by kernel_rfl) (of_decide_eq_true (by kernel_rfl)) ?_; intro E hG hE; subst hG; simp only [ent]
  (repeat' (first | refine awp_seq ?_ | refine awp_block ?_ | refine awp_skip ?_ | refine awp_exit ?_ | ((first | refine rR (fun K kp hK hkp => ?_) | refine iG ?_); simp (implicitDefEqProofs := false) (maxSteps := 2000000) (disch := omega) only [go_sem, hb, e1, zs, c60, c62, c40, c41, c44, c42, c43, c45, c61, d1, hiA]; (repeat' (first | (refine hK _ ?_; clear hK hkp kp K) | (with_reducible refine And.intro ?_ ?_) | omega))) | ((first | refine aG (fun h => ?_) (fun h => ?_) | refine aD (fun h => ?_) (fun h => ?_) | refine aX (fun h => ?_) (fun h => ?_)) <;> simp only [h]) | refine awp_cond_t rfl ?_ | refine awp_cond_f rfl ?_ | ((refine awp_cond rfl (fun h => ?_) (fun h => ?_) <;> try simp only [ifs] at h) <;> (try (exfalso; omega))) | refine awp_ret ?_))
  (refine retA_is (by (simp (implicitDefEqProofs := false) (maxSteps := 2000000) (disch := omega) only [go_sem, Go.Proofs.Tryd.results71]); rfl) ?_; refine eN hE ?_; simp [oneA, ren, renL])
set_option maxRecDepth 100000 in
set_option maxHeartbeats 16000000 in
theorem markAt_two (G : List (Nat × List Value)) (l : List UInt8) (hl : l.length ≤ 1048576) (at_ : Nat) (c d : UInt8) (hc : l[at_]? = some c) (hd : l[at_ + 1]? = some d) : Con Go.Proofs.Tryd.prog G 71 [.r (.string ⟨l.toArray⟩), .r (.int .i64 at_)] [] 0 (Is (.r (.string ⟨(markR (c :: d :: l.drop (at_ + 2))).toArray⟩)) [] 0) No := by
  have hlt := (List.getElem?_eq_some_iff.1 hc).1
  have hb : (⟨l.toArray⟩ : ByteArray)[at_]? = some c := by rw [ba_get]; exact hc
  have zs : l.toArray.size = l.length := List.size_toArray
  have x1 := ext_take l at_ (at_ + 1)
  rw [drop_take1 hc] at x1
  have hlt2 := (List.getElem?_eq_some_iff.1 hd).1
  have x2 := ext_take l at_ (at_ + 2)
  rw [drop_take2 hc hd] at x2
  have hbd0 : (⟨l.toArray⟩ : ByteArray)[at_ + 1]? = some d := by rw [ba_get]; exact hd
  obtain ⟨a2, ha2⟩ : ∃ a2, at_ + 2 = a2 := ⟨_, rfl⟩
  rw [ha2] at x2
  have e2 : (at_ : Int) + 2 = (a2 : Int) := by omega
  have zC : ((a2 : Int) ≤ (l.length : Int)) = True := eq_true (by omega)
  have zD : ((at_ : Int) ≤ (a2 : Int)) = True := eq_true (by omega)
  obtain ⟨a1, ha1⟩ : ∃ a1, at_ + 1 = a1 := ⟨_, rfl⟩
  rw [ha1] at x1
  have e1 : (at_ : Int) + 1 = (a1 : Int) := by omega
  have zA : ((a1 : Int) ≤ (l.length : Int)) = True := eq_true (by omega)
  have zB : ((at_ : Int) ≤ (a1 : Int)) = True := eq_true (by omega)
  have hbd : (⟨l.toArray⟩ : ByteArray)[a1]? = some d := by rw [← ha1]; exact hbd0
  have d1 : decide ((a1 : Int) < (l.length : Int)) = true := decide_eq_true (by omega)
  by_cases hc60 : c = 60
  · have c60 : ((c.toNat : Int) == 60) = true := by rw [hc60]; rfl
    by_cases hd61 : d = 61
    · have d61 : ((d.toNat : Int) == 61) = true := by rw [hd61]; rfl
      rw [show markR (c :: d :: l.drop (at_ + 2)) = [c, d] by simp [markR, oneMk, twoMk, c60, d61]]
      refine con_of_awp Go.Proofs.Tryd.func71 rfl (by kernel_rfl) (of_decide_eq_true (by kernel_rfl)) ?_; intro E hG hE; subst hG; simp only [ent]
      (repeat' (first | refine awp_seq ?_ | refine awp_block ?_ | refine awp_skip ?_ | refine awp_exit ?_ | ((first | refine rR (fun K kp hK hkp => ?_) | refine iG ?_); simp (implicitDefEqProofs := false) (maxSteps := 2000000) (disch := omega) only [go_sem, hb, e1, zs, hbd, e2, c60, d61, d1, x2, hiA, loA, zC, zD]; (repeat' (first | (refine hK _ ?_; clear hK hkp kp K) | (with_reducible refine And.intro ?_ ?_) | omega))) | ((first | refine aG (fun h => ?_) (fun h => ?_) | refine aD (fun h => ?_) (fun h => ?_) | refine aX (fun h => ?_) (fun h => ?_)) <;> simp only [h]) | refine awp_cond_t rfl ?_ | refine awp_cond_f rfl ?_ | ((refine awp_cond rfl (fun h => ?_) (fun h => ?_) <;> try simp only [ifs] at h) <;> (try (exfalso; omega))) | refine awp_ret ?_))
      (refine retA_is (by (simp (implicitDefEqProofs := false) (maxSteps := 2000000) (disch := omega) only [go_sem, Go.Proofs.Tryd.results71]); rfl) ?_; refine eN hE ?_; simp [oneA, ren, renL])
    have d61 : ((d.toNat : Int) == 61) = false := by rw [beq_eq_false_iff_ne]; intro h; exact hd61 (UInt8.toNat_inj.1 (show d.toNat = (61 : UInt8).toNat by have : (61 : UInt8).toNat = 61 := rfl; omega))
    by_cases hd62 : d = 62
    · have d62 : ((d.toNat : Int) == 62) = true := by rw [hd62]; rfl
      rw [show markR (c :: d :: l.drop (at_ + 2)) = [c, d] by simp [markR, oneMk, twoMk, c60, d61, d62]]
      refine con_of_awp Go.Proofs.Tryd.func71 rfl (by kernel_rfl) (of_decide_eq_true (by kernel_rfl)) ?_; intro E hG hE; subst hG; simp only [ent]
      (repeat' (first | refine awp_seq ?_ | refine awp_block ?_ | refine awp_skip ?_ | refine awp_exit ?_ | ((first | refine rR (fun K kp hK hkp => ?_) | refine iG ?_); simp (implicitDefEqProofs := false) (maxSteps := 2000000) (disch := omega) only [go_sem, hb, e1, zs, hbd, e2, c60, d61, d62, d1, x2, hiA, loA, zC, zD]; (repeat' (first | (refine hK _ ?_; clear hK hkp kp K) | (with_reducible refine And.intro ?_ ?_) | omega))) | ((first | refine aG (fun h => ?_) (fun h => ?_) | refine aD (fun h => ?_) (fun h => ?_) | refine aX (fun h => ?_) (fun h => ?_)) <;> simp only [h]) | refine awp_cond_t rfl ?_ | refine awp_cond_f rfl ?_ | ((refine awp_cond rfl (fun h => ?_) (fun h => ?_) <;> try simp only [ifs] at h) <;> (try (exfalso; omega))) | refine awp_ret ?_))
      (refine retA_is (by (simp (implicitDefEqProofs := false) (maxSteps := 2000000) (disch := omega) only [go_sem, Go.Proofs.Tryd.results71]); rfl) ?_; refine eN hE ?_; simp [oneA, ren, renL])
    have d62 : ((d.toNat : Int) == 62) = false := by rw [beq_eq_false_iff_ne]; intro h; exact hd62 (UInt8.toNat_inj.1 (show d.toNat = (62 : UInt8).toNat by have : (62 : UInt8).toNat = 62 := rfl; omega))
    have c62 : ((c.toNat : Int) == 62) = false := by rw [hc60]; rfl
    have c40 : ((c.toNat : Int) == 40) = false := by rw [hc60]; rfl
    have c41 : ((c.toNat : Int) == 41) = false := by rw [hc60]; rfl
    have c44 : ((c.toNat : Int) == 44) = false := by rw [hc60]; rfl
    have c42 : ((c.toNat : Int) == 42) = false := by rw [hc60]; rfl
    have c43 : ((c.toNat : Int) == 43) = false := by rw [hc60]; rfl
    have c45 : ((c.toNat : Int) == 45) = false := by rw [hc60]; rfl
    have c61 : ((c.toNat : Int) == 61) = false := by rw [hc60]; rfl
    rw [show markR (c :: d :: l.drop (at_ + 2)) = [c] by simp [markR, oneMk, twoMk, c60, d61, d62, c62, c40, c41, c44, c42, c43, c45, c61]]
    refine con_of_awp Go.Proofs.Tryd.func71 rfl (by kernel_rfl) (of_decide_eq_true (by kernel_rfl)) ?_; intro E hG hE; subst hG; simp only [ent]
    (repeat' (first | refine awp_seq ?_ | refine awp_block ?_ | refine awp_skip ?_ | refine awp_exit ?_ | ((first | refine rR (fun K kp hK hkp => ?_) | refine iG ?_); simp (implicitDefEqProofs := false) (maxSteps := 2000000) (disch := omega) only [go_sem, hb, e1, zs, hbd, e2, c60, d61, d62, c62, c40, c41, c44, c42, c43, c45, c61, d1, x1, hiA, loA, zA, zB]; (repeat' (first | (refine hK _ ?_; clear hK hkp kp K) | (with_reducible refine And.intro ?_ ?_) | omega))) | ((first | refine aG (fun h => ?_) (fun h => ?_) | refine aD (fun h => ?_) (fun h => ?_) | refine aX (fun h => ?_) (fun h => ?_)) <;> simp only [h]) | refine awp_cond_t rfl ?_ | refine awp_cond_f rfl ?_ | ((refine awp_cond rfl (fun h => ?_) (fun h => ?_) <;> try simp only [ifs] at h) <;> (try (exfalso; omega))) | refine awp_ret ?_))
    (refine retA_is (by (simp (implicitDefEqProofs := false) (maxSteps := 2000000) (disch := omega) only [go_sem, Go.Proofs.Tryd.results71]); rfl) ?_; refine eN hE ?_; simp [oneA, ren, renL])
  have c60 : ((c.toNat : Int) == 60) = false := by rw [beq_eq_false_iff_ne]; intro h; exact hc60 (UInt8.toNat_inj.1 (show c.toNat = (60 : UInt8).toNat by have : (60 : UInt8).toNat = 60 := rfl; omega))
  by_cases hc62 : c = 62
  · have c62 : ((c.toNat : Int) == 62) = true := by rw [hc62]; rfl
    by_cases hd61 : d = 61
    · have d61 : ((d.toNat : Int) == 61) = true := by rw [hd61]; rfl
      rw [show markR (c :: d :: l.drop (at_ + 2)) = [c, d] by simp [markR, oneMk, twoMk, c60, c62, d61]]
      refine con_of_awp Go.Proofs.Tryd.func71 rfl (by kernel_rfl) (of_decide_eq_true (by kernel_rfl)) ?_; intro E hG hE; subst hG; simp only [ent]
      (repeat' (first | refine awp_seq ?_ | refine awp_block ?_ | refine awp_skip ?_ | refine awp_exit ?_ | ((first | refine rR (fun K kp hK hkp => ?_) | refine iG ?_); simp (implicitDefEqProofs := false) (maxSteps := 2000000) (disch := omega) only [go_sem, hb, e1, zs, hbd, e2, c60, c62, d61, d1, x2, hiA, loA, zC, zD]; (repeat' (first | (refine hK _ ?_; clear hK hkp kp K) | (with_reducible refine And.intro ?_ ?_) | omega))) | ((first | refine aG (fun h => ?_) (fun h => ?_) | refine aD (fun h => ?_) (fun h => ?_) | refine aX (fun h => ?_) (fun h => ?_)) <;> simp only [h]) | refine awp_cond_t rfl ?_ | refine awp_cond_f rfl ?_ | ((refine awp_cond rfl (fun h => ?_) (fun h => ?_) <;> try simp only [ifs] at h) <;> (try (exfalso; omega))) | refine awp_ret ?_))
      (refine retA_is (by (simp (implicitDefEqProofs := false) (maxSteps := 2000000) (disch := omega) only [go_sem, Go.Proofs.Tryd.results71]); rfl) ?_; refine eN hE ?_; simp [oneA, ren, renL])
    have d61 : ((d.toNat : Int) == 61) = false := by rw [beq_eq_false_iff_ne]; intro h; exact hd61 (UInt8.toNat_inj.1 (show d.toNat = (61 : UInt8).toNat by have : (61 : UInt8).toNat = 61 := rfl; omega))
    have c40 : ((c.toNat : Int) == 40) = false := by rw [hc62]; rfl
    have c41 : ((c.toNat : Int) == 41) = false := by rw [hc62]; rfl
    have c44 : ((c.toNat : Int) == 44) = false := by rw [hc62]; rfl
    have c42 : ((c.toNat : Int) == 42) = false := by rw [hc62]; rfl
    have c43 : ((c.toNat : Int) == 43) = false := by rw [hc62]; rfl
    have c45 : ((c.toNat : Int) == 45) = false := by rw [hc62]; rfl
    have c61 : ((c.toNat : Int) == 61) = false := by rw [hc62]; rfl
    rw [show markR (c :: d :: l.drop (at_ + 2)) = [c] by simp [markR, oneMk, twoMk, c60, c62, d61, c40, c41, c44, c42, c43, c45, c61]]
    refine con_of_awp Go.Proofs.Tryd.func71 rfl (by kernel_rfl) (of_decide_eq_true (by kernel_rfl)) ?_; intro E hG hE; subst hG; simp only [ent]
    (repeat' (first | refine awp_seq ?_ | refine awp_block ?_ | refine awp_skip ?_ | refine awp_exit ?_ | ((first | refine rR (fun K kp hK hkp => ?_) | refine iG ?_); simp (implicitDefEqProofs := false) (maxSteps := 2000000) (disch := omega) only [go_sem, hb, e1, zs, hbd, e2, c60, c62, d61, c40, c41, c44, c42, c43, c45, c61, d1, x1, hiA, loA, zA, zB]; (repeat' (first | (refine hK _ ?_; clear hK hkp kp K) | (with_reducible refine And.intro ?_ ?_) | omega))) | ((first | refine aG (fun h => ?_) (fun h => ?_) | refine aD (fun h => ?_) (fun h => ?_) | refine aX (fun h => ?_) (fun h => ?_)) <;> simp only [h]) | refine awp_cond_t rfl ?_ | refine awp_cond_f rfl ?_ | ((refine awp_cond rfl (fun h => ?_) (fun h => ?_) <;> try simp only [ifs] at h) <;> (try (exfalso; omega))) | refine awp_ret ?_))
    (refine retA_is (by (simp (implicitDefEqProofs := false) (maxSteps := 2000000) (disch := omega) only [go_sem, Go.Proofs.Tryd.results71]); rfl) ?_; refine eN hE ?_; simp [oneA, ren, renL])
  have c62 : ((c.toNat : Int) == 62) = false := by rw [beq_eq_false_iff_ne]; intro h; exact hc62 (UInt8.toNat_inj.1 (show c.toNat = (62 : UInt8).toNat by have : (62 : UInt8).toNat = 62 := rfl; omega))
  by_cases hc40 : c = 40
  · have c40 : ((c.toNat : Int) == 40) = true := by rw [hc40]; rfl
    rw [show markR (c :: d :: l.drop (at_ + 2)) = [c] by simp [markR, oneMk, twoMk, c60, c62, c40]]
    refine con_of_awp Go.Proofs.Tryd.func71 rfl (by kernel_rfl) (of_decide_eq_true (by kernel_rfl)) ?_; intro E hG hE; subst hG; simp only [ent]
    (repeat' (first | refine awp_seq ?_ | refine awp_block ?_ | refine awp_skip ?_ | refine awp_exit ?_ | ((first | refine rR (fun K kp hK hkp => ?_) | refine iG ?_); simp (implicitDefEqProofs := false) (maxSteps := 2000000) (disch := omega) only [go_sem, hb, e1, zs, hbd, e2, c60, c62, c40, d1, x1, hiA, loA, zA, zB]; (repeat' (first | (refine hK _ ?_; clear hK hkp kp K) | (with_reducible refine And.intro ?_ ?_) | omega))) | ((first | refine aG (fun h => ?_) (fun h => ?_) | refine aD (fun h => ?_) (fun h => ?_) | refine aX (fun h => ?_) (fun h => ?_)) <;> simp only [h]) | refine awp_cond_t rfl ?_ | refine awp_cond_f rfl ?_ | ((refine awp_cond rfl (fun h => ?_) (fun h => ?_) <;> try simp only [ifs] at h) <;> (try (exfalso; omega))) | refine awp_ret ?_))
    (refine retA_is (by (simp (implicitDefEqProofs := false) (maxSteps := 2000000) (disch := omega) only [go_sem, Go.Proofs.Tryd.results71]); rfl) ?_; refine eN hE ?_; simp [oneA, ren, renL])
  have c40 : ((c.toNat : Int) == 40) = false := by rw [beq_eq_false_iff_ne]; intro h; exact hc40 (UInt8.toNat_inj.1 (show c.toNat = (40 : UInt8).toNat by have : (40 : UInt8).toNat = 40 := rfl; omega))
  by_cases hc41 : c = 41
  · have c41 : ((c.toNat : Int) == 41) = true := by rw [hc41]; rfl
    rw [show markR (c :: d :: l.drop (at_ + 2)) = [c] by simp [markR, oneMk, twoMk, c60, c62, c40, c41]]
    refine con_of_awp Go.Proofs.Tryd.func71 rfl (by kernel_rfl) (of_decide_eq_true (by kernel_rfl)) ?_; intro E hG hE; subst hG; simp only [ent]
    (repeat' (first | refine awp_seq ?_ | refine awp_block ?_ | refine awp_skip ?_ | refine awp_exit ?_ | ((first | refine rR (fun K kp hK hkp => ?_) | refine iG ?_); simp (implicitDefEqProofs := false) (maxSteps := 2000000) (disch := omega) only [go_sem, hb, e1, zs, hbd, e2, c60, c62, c40, c41, d1, x1, hiA, loA, zA, zB]; (repeat' (first | (refine hK _ ?_; clear hK hkp kp K) | (with_reducible refine And.intro ?_ ?_) | omega))) | ((first | refine aG (fun h => ?_) (fun h => ?_) | refine aD (fun h => ?_) (fun h => ?_) | refine aX (fun h => ?_) (fun h => ?_)) <;> simp only [h]) | refine awp_cond_t rfl ?_ | refine awp_cond_f rfl ?_ | ((refine awp_cond rfl (fun h => ?_) (fun h => ?_) <;> try simp only [ifs] at h) <;> (try (exfalso; omega))) | refine awp_ret ?_))
    (refine retA_is (by (simp (implicitDefEqProofs := false) (maxSteps := 2000000) (disch := omega) only [go_sem, Go.Proofs.Tryd.results71]); rfl) ?_; refine eN hE ?_; simp [oneA, ren, renL])
  have c41 : ((c.toNat : Int) == 41) = false := by rw [beq_eq_false_iff_ne]; intro h; exact hc41 (UInt8.toNat_inj.1 (show c.toNat = (41 : UInt8).toNat by have : (41 : UInt8).toNat = 41 := rfl; omega))
  by_cases hc44 : c = 44
  · have c44 : ((c.toNat : Int) == 44) = true := by rw [hc44]; rfl
    rw [show markR (c :: d :: l.drop (at_ + 2)) = [c] by simp [markR, oneMk, twoMk, c60, c62, c40, c41, c44]]
    refine con_of_awp Go.Proofs.Tryd.func71 rfl (by kernel_rfl) (of_decide_eq_true (by kernel_rfl)) ?_; intro E hG hE; subst hG; simp only [ent]
    (repeat' (first | refine awp_seq ?_ | refine awp_block ?_ | refine awp_skip ?_ | refine awp_exit ?_ | ((first | refine rR (fun K kp hK hkp => ?_) | refine iG ?_); simp (implicitDefEqProofs := false) (maxSteps := 2000000) (disch := omega) only [go_sem, hb, e1, zs, hbd, e2, c60, c62, c40, c41, c44, d1, x1, hiA, loA, zA, zB]; (repeat' (first | (refine hK _ ?_; clear hK hkp kp K) | (with_reducible refine And.intro ?_ ?_) | omega))) | ((first | refine aG (fun h => ?_) (fun h => ?_) | refine aD (fun h => ?_) (fun h => ?_) | refine aX (fun h => ?_) (fun h => ?_)) <;> simp only [h]) | refine awp_cond_t rfl ?_ | refine awp_cond_f rfl ?_ | ((refine awp_cond rfl (fun h => ?_) (fun h => ?_) <;> try simp only [ifs] at h) <;> (try (exfalso; omega))) | refine awp_ret ?_))
    (refine retA_is (by (simp (implicitDefEqProofs := false) (maxSteps := 2000000) (disch := omega) only [go_sem, Go.Proofs.Tryd.results71]); rfl) ?_; refine eN hE ?_; simp [oneA, ren, renL])
  have c44 : ((c.toNat : Int) == 44) = false := by rw [beq_eq_false_iff_ne]; intro h; exact hc44 (UInt8.toNat_inj.1 (show c.toNat = (44 : UInt8).toNat by have : (44 : UInt8).toNat = 44 := rfl; omega))
  by_cases hc42 : c = 42
  · have c42 : ((c.toNat : Int) == 42) = true := by rw [hc42]; rfl
    rw [show markR (c :: d :: l.drop (at_ + 2)) = [c] by simp [markR, oneMk, twoMk, c60, c62, c40, c41, c44, c42]]
    refine con_of_awp Go.Proofs.Tryd.func71 rfl (by kernel_rfl) (of_decide_eq_true (by kernel_rfl)) ?_; intro E hG hE; subst hG; simp only [ent]
    (repeat' (first | refine awp_seq ?_ | refine awp_block ?_ | refine awp_skip ?_ | refine awp_exit ?_ | ((first | refine rR (fun K kp hK hkp => ?_) | refine iG ?_); simp (implicitDefEqProofs := false) (maxSteps := 2000000) (disch := omega) only [go_sem, hb, e1, zs, hbd, e2, c60, c62, c40, c41, c44, c42, d1, x1, hiA, loA, zA, zB]; (repeat' (first | (refine hK _ ?_; clear hK hkp kp K) | (with_reducible refine And.intro ?_ ?_) | omega))) | ((first | refine aG (fun h => ?_) (fun h => ?_) | refine aD (fun h => ?_) (fun h => ?_) | refine aX (fun h => ?_) (fun h => ?_)) <;> simp only [h]) | refine awp_cond_t rfl ?_ | refine awp_cond_f rfl ?_ | ((refine awp_cond rfl (fun h => ?_) (fun h => ?_) <;> try simp only [ifs] at h) <;> (try (exfalso; omega))) | refine awp_ret ?_))
    (refine retA_is (by (simp (implicitDefEqProofs := false) (maxSteps := 2000000) (disch := omega) only [go_sem, Go.Proofs.Tryd.results71]); rfl) ?_; refine eN hE ?_; simp [oneA, ren, renL])
  have c42 : ((c.toNat : Int) == 42) = false := by rw [beq_eq_false_iff_ne]; intro h; exact hc42 (UInt8.toNat_inj.1 (show c.toNat = (42 : UInt8).toNat by have : (42 : UInt8).toNat = 42 := rfl; omega))
  by_cases hc43 : c = 43
  · have c43 : ((c.toNat : Int) == 43) = true := by rw [hc43]; rfl
    rw [show markR (c :: d :: l.drop (at_ + 2)) = [c] by simp [markR, oneMk, twoMk, c60, c62, c40, c41, c44, c42, c43]]
    refine con_of_awp Go.Proofs.Tryd.func71 rfl (by kernel_rfl) (of_decide_eq_true (by kernel_rfl)) ?_; intro E hG hE; subst hG; simp only [ent]
    (repeat' (first | refine awp_seq ?_ | refine awp_block ?_ | refine awp_skip ?_ | refine awp_exit ?_ | ((first | refine rR (fun K kp hK hkp => ?_) | refine iG ?_); simp (implicitDefEqProofs := false) (maxSteps := 2000000) (disch := omega) only [go_sem, hb, e1, zs, hbd, e2, c60, c62, c40, c41, c44, c42, c43, d1, x1, hiA, loA, zA, zB]; (repeat' (first | (refine hK _ ?_; clear hK hkp kp K) | (with_reducible refine And.intro ?_ ?_) | omega))) | ((first | refine aG (fun h => ?_) (fun h => ?_) | refine aD (fun h => ?_) (fun h => ?_) | refine aX (fun h => ?_) (fun h => ?_)) <;> simp only [h]) | refine awp_cond_t rfl ?_ | refine awp_cond_f rfl ?_ | ((refine awp_cond rfl (fun h => ?_) (fun h => ?_) <;> try simp only [ifs] at h) <;> (try (exfalso; omega))) | refine awp_ret ?_))
    (refine retA_is (by (simp (implicitDefEqProofs := false) (maxSteps := 2000000) (disch := omega) only [go_sem, Go.Proofs.Tryd.results71]); rfl) ?_; refine eN hE ?_; simp [oneA, ren, renL])
  have c43 : ((c.toNat : Int) == 43) = false := by rw [beq_eq_false_iff_ne]; intro h; exact hc43 (UInt8.toNat_inj.1 (show c.toNat = (43 : UInt8).toNat by have : (43 : UInt8).toNat = 43 := rfl; omega))
  by_cases hc45 : c = 45
  · have c45 : ((c.toNat : Int) == 45) = true := by rw [hc45]; rfl
    rw [show markR (c :: d :: l.drop (at_ + 2)) = [c] by simp [markR, oneMk, twoMk, c60, c62, c40, c41, c44, c42, c43, c45]]
    refine con_of_awp Go.Proofs.Tryd.func71 rfl (by kernel_rfl) (of_decide_eq_true (by kernel_rfl)) ?_; intro E hG hE; subst hG; simp only [ent]
    (repeat' (first | refine awp_seq ?_ | refine awp_block ?_ | refine awp_skip ?_ | refine awp_exit ?_ | ((first | refine rR (fun K kp hK hkp => ?_) | refine iG ?_); simp (implicitDefEqProofs := false) (maxSteps := 2000000) (disch := omega) only [go_sem, hb, e1, zs, hbd, e2, c60, c62, c40, c41, c44, c42, c43, c45, d1, x1, hiA, loA, zA, zB]; (repeat' (first | (refine hK _ ?_; clear hK hkp kp K) | (with_reducible refine And.intro ?_ ?_) | omega))) | ((first | refine aG (fun h => ?_) (fun h => ?_) | refine aD (fun h => ?_) (fun h => ?_) | refine aX (fun h => ?_) (fun h => ?_)) <;> simp only [h]) | refine awp_cond_t rfl ?_ | refine awp_cond_f rfl ?_ | ((refine awp_cond rfl (fun h => ?_) (fun h => ?_) <;> try simp only [ifs] at h) <;> (try (exfalso; omega))) | refine awp_ret ?_))
    (refine retA_is (by (simp (implicitDefEqProofs := false) (maxSteps := 2000000) (disch := omega) only [go_sem, Go.Proofs.Tryd.results71]); rfl) ?_; refine eN hE ?_; simp [oneA, ren, renL])
  have c45 : ((c.toNat : Int) == 45) = false := by rw [beq_eq_false_iff_ne]; intro h; exact hc45 (UInt8.toNat_inj.1 (show c.toNat = (45 : UInt8).toNat by have : (45 : UInt8).toNat = 45 := rfl; omega))
  by_cases hc61 : c = 61
  · have c61 : ((c.toNat : Int) == 61) = true := by rw [hc61]; rfl
    rw [show markR (c :: d :: l.drop (at_ + 2)) = [c] by simp [markR, oneMk, twoMk, c60, c62, c40, c41, c44, c42, c43, c45, c61]]
    refine con_of_awp Go.Proofs.Tryd.func71 rfl (by kernel_rfl) (of_decide_eq_true (by kernel_rfl)) ?_; intro E hG hE; subst hG; simp only [ent]
    (repeat' (first | refine awp_seq ?_ | refine awp_block ?_ | refine awp_skip ?_ | refine awp_exit ?_ | ((first | refine rR (fun K kp hK hkp => ?_) | refine iG ?_); simp (implicitDefEqProofs := false) (maxSteps := 2000000) (disch := omega) only [go_sem, hb, e1, zs, hbd, e2, c60, c62, c40, c41, c44, c42, c43, c45, c61, d1, x1, hiA, loA, zA, zB]; (repeat' (first | (refine hK _ ?_; clear hK hkp kp K) | (with_reducible refine And.intro ?_ ?_) | omega))) | ((first | refine aG (fun h => ?_) (fun h => ?_) | refine aD (fun h => ?_) (fun h => ?_) | refine aX (fun h => ?_) (fun h => ?_)) <;> simp only [h]) | refine awp_cond_t rfl ?_ | refine awp_cond_f rfl ?_ | ((refine awp_cond rfl (fun h => ?_) (fun h => ?_) <;> try simp only [ifs] at h) <;> (try (exfalso; omega))) | refine awp_ret ?_))
    (refine retA_is (by (simp (implicitDefEqProofs := false) (maxSteps := 2000000) (disch := omega) only [go_sem, Go.Proofs.Tryd.results71]); rfl) ?_; refine eN hE ?_; simp [oneA, ren, renL])
  have c61 : ((c.toNat : Int) == 61) = false := by rw [beq_eq_false_iff_ne]; intro h; exact hc61 (UInt8.toNat_inj.1 (show c.toNat = (61 : UInt8).toNat by have : (61 : UInt8).toNat = 61 := rfl; omega))
  rw [show markR (c :: d :: l.drop (at_ + 2)) = [] by simp [markR, oneMk, twoMk, c60, c62, c40, c41, c44, c42, c43, c45, c61]]
  refine con_of_awp Go.Proofs.Tryd.func71 rfl (by kernel_rfl) (of_decide_eq_true (by kernel_rfl)) ?_; intro E hG hE; subst hG; simp only [ent]
  (repeat' (first | refine awp_seq ?_ | refine awp_block ?_ | refine awp_skip ?_ | refine awp_exit ?_ | ((first | refine rR (fun K kp hK hkp => ?_) | refine iG ?_); simp (implicitDefEqProofs := false) (maxSteps := 2000000) (disch := omega) only [go_sem, hb, e1, zs, hbd, e2, c60, c62, c40, c41, c44, c42, c43, c45, c61, d1, hiA]; (repeat' (first | (refine hK _ ?_; clear hK hkp kp K) | (with_reducible refine And.intro ?_ ?_) | omega))) | ((first | refine aG (fun h => ?_) (fun h => ?_) | refine aD (fun h => ?_) (fun h => ?_) | refine aX (fun h => ?_) (fun h => ?_)) <;> simp only [h]) | refine awp_cond_t rfl ?_ | refine awp_cond_f rfl ?_ | ((refine awp_cond rfl (fun h => ?_) (fun h => ?_) <;> try simp only [ifs] at h) <;> (try (exfalso; omega))) | refine awp_ret ?_))
  (refine retA_is (by (simp (implicitDefEqProofs := false) (maxSteps := 2000000) (disch := omega) only [go_sem, Go.Proofs.Tryd.results71]); rfl) ?_; refine eN hE ?_; simp [oneA, ren, renL])
theorem markAt_con (G : List (Nat × List Value)) (l : List UInt8) (hl : l.length ≤ 1048576) (at_ : Nat) (ha : at_ < l.length) : Con Go.Proofs.Tryd.prog G 71 [.r (.string ⟨l.toArray⟩), .r (.int .i64 at_)] [] 0 (Is (.r (.string ⟨(markR (l.drop at_)).toArray⟩)) [] 0) No := by
  obtain ⟨c, hc⟩ : ∃ c, l[at_]? = some c := ⟨l[at_], by simp [ha]⟩
  rw [drop_cons hc]
  by_cases h : at_ + 1 < l.length
  · obtain ⟨d, hd⟩ : ∃ d, l[at_ + 1]? = some d := ⟨l[at_ + 1], by simp [h]⟩
    rw [drop_cons hd]
    exact markAt_two G l hl at_ c d hc hd
  · rw [List.drop_of_length_le (by omega)]
    exact markAt_one G l hl at_ c hc (by omega)
end Go.AM
/- The reference's tokenAt. -/
namespace Go.AM
open Go Go.RowKit
open Go.Proofs.YteebiklebedneaaDoor (letB digB wrdB)
attribute [local irreducible] AWP retA
def refR (at_ : Nat) : Except Int (TK0 × Nat) → AV
  | .error e => .tup [.agg (eT ⟨0, ⟨#[]⟩, 0⟩), .r (.int .i64 at_), .r (.int .i64 e)]
  | .ok x => .tup [.agg (eT x.1), .r (.int .i64 ((at_ + x.2 : Nat) : Int)), .r (.int .i64 0)]
theorem numB_con (G : List (Nat × List Value)) (c : UInt8) : Con Go.Proofs.Tryd.prog G 69 [.r (.int .u8 c.toNat)] [] 0 (Is (.r (.bool (digB c.toNat))) [] 0) No := byte_con G (by kernel_rfl) (fun c w => Go.Proofs.YteebiklebedneaaDoor.numByte_any _ w (u8_rng c).1 (u8_rng c).2) c
set_option maxRecDepth 100000 in
set_option maxHeartbeats 8000000 in
theorem tok_word (G : List (Nat × List Value)) (l : List UInt8) (hl : l.length ≤ 1048576) (at_ : Nat) (c : UInt8) (hc : l[at_]? = some c) (h1 : letB c.toNat = true) : Con Go.Proofs.Tryd.prog G 44 [.r (.string ⟨l.toArray⟩), .r (.int .i64 at_)] [] 0
    (Is (refR at_ (.ok (⟨1, ⟨((l.drop at_).take (spanP wrdB (l.drop at_))).toArray⟩, 0⟩, spanP wrdB (l.drop at_)))) [] 0) No := by
  have hlt := (List.getElem?_eq_some_iff.1 hc).1
  have hb : (⟨l.toArray⟩ : ByteArray)[at_]? = some c := by rw [ba_get]; exact hc
  have zs : l.toArray.size = l.length := List.size_toArray
  have lc := wordB_con G c
  rw [h1] at lc
  obtain ⟨n, hn⟩ : ∃ n, spanP wrdB (l.drop at_) = n := ⟨_, rfl⟩
  have hnl := spanP_le wrdB (l.drop at_)
  rw [hn, List.length_drop] at hnl
  rw [hn]
  refine con_of_awp Go.Proofs.Tryd.func44 rfl (by kernel_rfl) (of_decide_eq_true (by kernel_rfl)) ?_; intro E hG hE; subst hG; simp only [ent]
  (repeat' (first | refine awp_seq ?_ | refine awp_block ?_ | refine awp_skip ?_ | refine awp_exit ?_ | ((first | refine rR (fun K kp hK hkp => ?_) | refine cR lc ?_ | refine iG ?_); simp (implicitDefEqProofs := false) (maxSteps := 2000000) (disch := omega) only [go_sem, eT, hb, zs]; (repeat' (first | (refine hK _ ?_; clear hK hkp kp K) | (with_reducible refine And.intro ?_ ?_) | omega))) | ((first | refine aG (fun h => ?_) (fun h => ?_) | refine aD (fun h => ?_) (fun h => ?_) | refine aX (fun h => ?_) (fun h => ?_)) <;> simp only [h]) | refine awp_cond_t rfl ?_ | refine awp_cond_f rfl ?_ | ((refine awp_cond rfl (fun h => ?_) (fun h => ?_) <;> try simp only [ifs] at h) <;> (try (exfalso; omega))) | refine awp_ret ?_))
  refine awp_loop (fun k : Nat => ⟨[(7, .r (.int .i64 k)), (4, .p 0 0 0), (1, .r (.int .i64 at_)), (0, .r (.string ⟨l.toArray⟩))], [(0, .box 66 (eT ⟨0, ⟨#[]⟩, 0⟩))], 1⟩) (fun k => at_ ≤ k ∧ k ≤ l.length ∧ k + spanP wrdB (l.drop k) = at_ + n) (fun k => l.length - k) at_ ?_ ?_ ?_
  · exact ⟨Nat.le_refl _, by omega, by rw [hn]⟩
  · (refine emb [0] ?_ ?_ rfl ?_ ?_ ?_ ?_ <;> simp [okM, okO, lk, ren, renL, renNd, by_, hE, eT] <;> (try omega) <;> (try (intro i hi; first | (rcases (by omega : i = 0 ∨ i = 1 ∨ i = 2) with rfl | rfl | rfl <;> rfl) | (rcases (by omega : i = 0 ∨ i = 1) with rfl | rfl <;> rfl))))
  rintro k ⟨hk1, hk2, hs⟩
  have x1 := ext_take l at_ k
  rw [List.drop_take] at x1
  have zA : ((k : Int) ≤ (l.length : Int)) = True := eq_true (by omega)
  have zB : ((at_ : Int) ≤ (k : Int)) = True := eq_true (by omega)
  by_cases hkl : k < l.length
  · have d1 : decide ((k : Int) < (l.length : Int)) = true := decide_eq_true (by omega)
    obtain ⟨d, hd⟩ : ∃ d, l[k]? = some d := ⟨l[k], by simp [hkl]⟩
    have hbd : (⟨l.toArray⟩ : ByteArray)[k]? = some d := by rw [ba_get]; exact hd
    have ld := wordB_con E.G d
    have nd := numB_con E.G d
    cases hw : wrdB d.toNat
    · rw [spanP_no hd hw] at hs
      obtain rfl : k = at_ + n := by omega
      have hw' : letB d.toNat = false ∧ digB d.toNat = false := by simpa [wrdB] using hw
      rw [hw'.1] at ld
      rw [hw'.2] at nd
      rw [show at_ + n - at_ = n by omega] at x1
      (repeat' (first | refine awp_seq ?_ | refine awp_block ?_ | refine awp_skip ?_ | refine awp_exit ?_ | ((first | refine rR (fun K kp hK hkp => ?_) | refine cR ld ?_ | refine cR nd ?_ | refine iG ?_); simp (implicitDefEqProofs := false) (maxSteps := 2000000) (disch := omega) only [go_sem, eT, d1, hbd, zs, hiA, loA, zA, zB, x1]; (repeat' (first | (refine hK _ ?_; clear hK hkp kp K) | (with_reducible refine And.intro ?_ ?_) | omega))) | ((first | refine aG (fun h => ?_) (fun h => ?_) | refine aD (fun h => ?_) (fun h => ?_) | refine aX (fun h => ?_) (fun h => ?_)) <;> simp only [h]) | refine awp_cond_t rfl ?_ | refine awp_cond_f rfl ?_ | ((refine awp_cond rfl (fun h => ?_) (fun h => ?_) <;> try simp only [ifs] at h) <;> (try (exfalso; omega))) | refine awp_ret ?_))
      (refine retA_is (by (simp (implicitDefEqProofs := false) (maxSteps := 2000000) (disch := omega) only [go_sem, Go.Proofs.Tryd.results44, refR, eT]); rfl) ?_; refine eN hE ?_; simp [oneA, ren, renL, refR, eT])
    · rw [spanP_yes hd hw] at hs
      cases hw1 : letB d.toNat
      · have hw2 : digB d.toNat = true := by simpa [wrdB, hw1] using hw
        rw [hw1] at ld
        rw [hw2] at nd
        (repeat' (first | refine awp_seq ?_ | refine awp_block ?_ | refine awp_skip ?_ | refine awp_exit ?_ | ((first | refine rR (fun K kp hK hkp => ?_) | refine cR ld ?_ | refine cR nd ?_ | refine iG ?_); simp (implicitDefEqProofs := false) (maxSteps := 2000000) (disch := omega) only [go_sem, eT, d1, hbd, zs]; (repeat' (first | (refine hK _ ?_; clear hK hkp kp K) | (with_reducible refine And.intro ?_ ?_) | omega))) | ((first | refine aG (fun h => ?_) (fun h => ?_) | refine aD (fun h => ?_) (fun h => ?_) | refine aX (fun h => ?_) (fun h => ?_)) <;> simp only [h]) | refine awp_cond_t rfl ?_ | refine awp_cond_f rfl ?_ | ((refine awp_cond rfl (fun h => ?_) (fun h => ?_) <;> try simp only [ifs] at h) <;> (try (exfalso; omega))) | refine awp_ret ?_))
        ((first | (refine nextB (k + 1) ?_ ?_ ?_) | (refine nextA (k + 1) ?_ ?_ ?_) | (refine nextE (k + 1) ?_ ?_ ?_)); rotate_left; (· (try dsimp only); (first | omega | (simp only [List.length_drop, List.length_cons, List.length_append]; omega) | (simp; done) | (simp; omega))); (· (refine emb [0] ?_ ?_ rfl ?_ ?_ ?_ ?_ <;> simp [okM, okO, lk, ren, renL, renNd, by_, hE, eT] <;> (try omega) <;> (try (intro i hi; first | (rcases (by omega : i = 0 ∨ i = 1 ∨ i = 2) with rfl | rfl | rfl <;> rfl) | (rcases (by omega : i = 0 ∨ i = 1) with rfl | rfl <;> rfl))))))
        exact ⟨by omega, hkl, hs⟩
      · rw [hw1] at ld
        (repeat' (first | refine awp_seq ?_ | refine awp_block ?_ | refine awp_skip ?_ | refine awp_exit ?_ | ((first | refine rR (fun K kp hK hkp => ?_) | refine cR ld ?_ | refine cR nd ?_ | refine iG ?_); simp (implicitDefEqProofs := false) (maxSteps := 2000000) (disch := omega) only [go_sem, eT, d1, hbd, zs]; (repeat' (first | (refine hK _ ?_; clear hK hkp kp K) | (with_reducible refine And.intro ?_ ?_) | omega))) | ((first | refine aG (fun h => ?_) (fun h => ?_) | refine aD (fun h => ?_) (fun h => ?_) | refine aX (fun h => ?_) (fun h => ?_)) <;> simp only [h]) | refine awp_cond_t rfl ?_ | refine awp_cond_f rfl ?_ | ((refine awp_cond rfl (fun h => ?_) (fun h => ?_) <;> try simp only [ifs] at h) <;> (try (exfalso; omega))) | refine awp_ret ?_))
        ((first | (refine nextB (k + 1) ?_ ?_ ?_) | (refine nextA (k + 1) ?_ ?_ ?_) | (refine nextE (k + 1) ?_ ?_ ?_)); rotate_left; (· (try dsimp only); (first | omega | (simp only [List.length_drop, List.length_cons, List.length_append]; omega) | (simp; done) | (simp; omega))); (· (refine emb [0] ?_ ?_ rfl ?_ ?_ ?_ ?_ <;> simp [okM, okO, lk, ren, renL, renNd, by_, hE, eT] <;> (try omega) <;> (try (intro i hi; first | (rcases (by omega : i = 0 ∨ i = 1 ∨ i = 2) with rfl | rfl | rfl <;> rfl) | (rcases (by omega : i = 0 ∨ i = 1) with rfl | rfl <;> rfl))))))
        exact ⟨by omega, hkl, hs⟩
  · have d1 : decide ((k : Int) < (l.length : Int)) = false := decide_eq_false (by omega)
    rw [List.drop_of_length_le (by omega)] at hs
    simp only [spanP, Nat.add_zero] at hs
    subst hs
    rw [show at_ + n - at_ = n by omega] at x1
    (repeat' (first | refine awp_seq ?_ | refine awp_block ?_ | refine awp_skip ?_ | refine awp_exit ?_ | ((first | refine rR (fun K kp hK hkp => ?_) | refine iG ?_); simp (implicitDefEqProofs := false) (maxSteps := 2000000) (disch := omega) only [go_sem, eT, d1, zs, hiA, loA, zA, zB, x1]; (repeat' (first | (refine hK _ ?_; clear hK hkp kp K) | (with_reducible refine And.intro ?_ ?_) | omega))) | ((first | refine aG (fun h => ?_) (fun h => ?_) | refine aD (fun h => ?_) (fun h => ?_) | refine aX (fun h => ?_) (fun h => ?_)) <;> simp only [h]) | refine awp_cond_t rfl ?_ | refine awp_cond_f rfl ?_ | ((refine awp_cond rfl (fun h => ?_) (fun h => ?_) <;> try simp only [ifs] at h) <;> (try (exfalso; omega))) | refine awp_ret ?_))
    (refine retA_is (by (simp (implicitDefEqProofs := false) (maxSteps := 2000000) (disch := omega) only [go_sem, Go.Proofs.Tryd.results44, refR, eT]); rfl) ?_; refine eN hE ?_; simp [oneA, ren, renL, refR, eT])
end Go.AM
