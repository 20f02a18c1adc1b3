/- Texts of the law LockLeaves, part 4: lemmas; what is proved stands in the last text. -/
import Derived.Test.YteebiklebedneaaDoorProg
import Derived.Test.YteebiklebedneaaDoorZz3
import Derived.Test.YteebiklebedneaaDoorZz1
import Derived.Below
import Derived.OpenShut
import Derived.WalkKit
import Derived.ProofKit
import Derived.ChangeOld
import Derived.Deep.Strs
import Derived.Laws.OwnMore
import Derived.WalkSmall
import Derived.Lib.SliceRun
import Derived.Outline
import Derived.Shelf.RegionOpenPlain
import Derived.Deep.LoopGhost
import Derived.Deep.RegionLaw
import Derived.Lib.Walk
import Derived.Lib.ReflectliteSwap
import Derived.Sort.Grow
import Derived.Sort.Row
set_option linter.unusedSimpArgs false
set_option linter.unusedVariables false
/- The program's types, as a table. -/
namespace Go.AM
open Go
theorem mixed : Go.Proofs.Tryd.prog.follows .mixedOrders = true := by kernel_rfl
@[go_sem] theorem ty_2 : tyOf Go.Proofs.Tryd.prog 2 = some ⟨.int .i64, 1, 8, some [.int .i64 0]⟩ := by kernel_rfl
@[go_sem] theorem ty_3 : tyOf Go.Proofs.Tryd.prog 3 = some ⟨.int .i64, 1, 8, some [.int .i64 0]⟩ := by kernel_rfl
@[go_sem] theorem ty_4 : tyOf Go.Proofs.Tryd.prog 4 = some ⟨.bool, 1, 1, some [.bool false]⟩ := by kernel_rfl
@[go_sem] theorem ty_5 : tyOf Go.Proofs.Tryd.prog 5 = some ⟨.int .u8, 1, 1, some [.int .u8 0]⟩ := by kernel_rfl
@[go_sem] theorem ty_6 : tyOf Go.Proofs.Tryd.prog 6 = some ⟨.int .u8, 1, 1, some [.int .u8 0]⟩ := by kernel_rfl
@[go_sem] theorem ty_7 : tyOf Go.Proofs.Tryd.prog 7 = some ⟨.struct [(0, 1), (1, 1), (2, 1), (3, 1)], 4, 24, some [.int .i64 0, .int .i64 0, .bool false, .int .u8 0]⟩ := by kernel_rfl
@[go_sem] theorem ty_8 : tyOf Go.Proofs.Tryd.prog 8 = some ⟨.struct [(0, 1), (1, 1), (2, 1), (3, 1)], 4, 24, some [.int .i64 0, .int .i64 0, .bool false, .int .u8 0]⟩ := by kernel_rfl
@[go_sem] theorem ty_9 : tyOf Go.Proofs.Tryd.prog 9 = some ⟨.str, 1, 16, some [.string ⟨#[]⟩]⟩ := by kernel_rfl
@[go_sem] theorem ty_10 : tyOf Go.Proofs.Tryd.prog 10 = some ⟨.str, 1, 16, some [.string ⟨#[]⟩]⟩ := by kernel_rfl
@[go_sem] theorem ty_11 : tyOf Go.Proofs.Tryd.prog 11 = some ⟨.str, 1, 16, some [.string ⟨#[]⟩]⟩ := by kernel_rfl
@[go_sem] theorem ty_12 : tyOf Go.Proofs.Tryd.prog 12 = some ⟨.int .u64, 1, 8, some [.int .u64 0]⟩ := by kernel_rfl
@[go_sem] theorem ty_13 : tyOf Go.Proofs.Tryd.prog 13 = some ⟨.struct [(0, 1), (1, 1)], 2, 24, some [.string ⟨#[]⟩, .int .u64 0]⟩ := by kernel_rfl
@[go_sem] theorem ty_14 : tyOf Go.Proofs.Tryd.prog 14 = some ⟨.struct [(0, 1), (1, 1)], 2, 24, some [.string ⟨#[]⟩, .int .u64 0]⟩ := by kernel_rfl
@[go_sem] theorem ty_15 : tyOf Go.Proofs.Tryd.prog 15 = some ⟨.ptr 187, 1, 8, some [.pointer none]⟩ := by kernel_rfl
@[go_sem] theorem ty_16 : tyOf Go.Proofs.Tryd.prog 16 = some ⟨.ptr 190, 1, 8, some [.pointer none]⟩ := by kernel_rfl
@[go_sem] theorem ty_17 : tyOf Go.Proofs.Tryd.prog 17 = some ⟨.ptr 197, 1, 8, some [.pointer none]⟩ := by kernel_rfl
@[go_sem] theorem ty_18 : tyOf Go.Proofs.Tryd.prog 18 = some ⟨.struct [(0, 1)], 1, 8, some [.pointer none]⟩ := by kernel_rfl
@[go_sem] theorem ty_19 : tyOf Go.Proofs.Tryd.prog 19 = some ⟨.struct [(0, 1)], 1, 8, some [.pointer none]⟩ := by kernel_rfl
@[go_sem] theorem ty_20 : tyOf Go.Proofs.Tryd.prog 20 = some ⟨.ifc, 1, 16, some [.nilIface]⟩ := by kernel_rfl
@[go_sem] theorem ty_21 : tyOf Go.Proofs.Tryd.prog 21 = some ⟨.int .i32, 1, 4, some [.int .i32 0]⟩ := by kernel_rfl
@[go_sem] theorem ty_22 : tyOf Go.Proofs.Tryd.prog 22 = some ⟨.slice 57, 1, 24, some [.slice none 0 0]⟩ := by kernel_rfl
@[go_sem] theorem ty_24 : tyOf Go.Proofs.Tryd.prog 24 = some ⟨.slice 5, 1, 24, some [.slice none 0 0]⟩ := by kernel_rfl
@[go_sem] theorem ty_25 : tyOf Go.Proofs.Tryd.prog 25 = some ⟨.int .i64, 1, 8, some [.int .i64 0]⟩ := by kernel_rfl
@[go_sem] theorem ty_30 : tyOf Go.Proofs.Tryd.prog 30 = some ⟨.slice 66, 1, 24, some [.slice none 0 0]⟩ := by kernel_rfl
@[go_sem] theorem ty_39 : tyOf Go.Proofs.Tryd.prog 39 = some ⟨.slice 82, 1, 24, some [.slice none 0 0]⟩ := by kernel_rfl
@[go_sem] theorem ty_40 : tyOf Go.Proofs.Tryd.prog 40 = some ⟨.struct [(0, 1), (1, 1)], 2, 48, some [.slice none 0 0, .slice none 0 0]⟩ := by kernel_rfl
@[go_sem] theorem ty_41 : tyOf Go.Proofs.Tryd.prog 41 = some ⟨.struct [(0, 1), (1, 1)], 2, 48, some [.slice none 0 0, .slice none 0 0]⟩ := by kernel_rfl
@[go_sem] theorem ty_43 : tyOf Go.Proofs.Tryd.prog 43 = some ⟨.slice 3, 1, 24, some [.slice none 0 0]⟩ := by kernel_rfl
@[go_sem] theorem ty_49 : tyOf Go.Proofs.Tryd.prog 49 = some ⟨.slice 43, 1, 24, some [.slice none 0 0]⟩ := by kernel_rfl
@[go_sem] theorem ty_56 : tyOf Go.Proofs.Tryd.prog 56 = some ⟨.struct [(0, 1), (1, 1), (2, 1)], 3, 32, some [.int .i64 0, .int .i64 0, .string ⟨#[]⟩]⟩ := by kernel_rfl
@[go_sem] theorem ty_57 : tyOf Go.Proofs.Tryd.prog 57 = some ⟨.struct [(0, 1), (1, 1), (2, 1)], 3, 32, some [.int .i64 0, .int .i64 0, .string ⟨#[]⟩]⟩ := by kernel_rfl
@[go_sem] theorem ty_59 : tyOf Go.Proofs.Tryd.prog 59 = some ⟨.int .u64, 1, 8, some [.int .u64 0]⟩ := by kernel_rfl
@[go_sem] theorem ty_62 : tyOf Go.Proofs.Tryd.prog 62 = some ⟨.ptr 64, 1, 8, some [.pointer none]⟩ := by kernel_rfl
@[go_sem] theorem ty_63 : tyOf Go.Proofs.Tryd.prog 63 = some ⟨.struct [(0, 1), (1, 1)], 2, 32, some [.pointer none, .slice none 0 0]⟩ := by kernel_rfl
@[go_sem] theorem ty_64 : tyOf Go.Proofs.Tryd.prog 64 = some ⟨.struct [(0, 1), (1, 1)], 2, 32, some [.pointer none, .slice none 0 0]⟩ := by kernel_rfl
@[go_sem] theorem ty_65 : tyOf Go.Proofs.Tryd.prog 65 = some ⟨.struct [(0, 1), (1, 1), (2, 1)], 3, 32, some [.int .i64 0, .string ⟨#[]⟩, .int .i64 0]⟩ := by kernel_rfl
@[go_sem] theorem ty_66 : tyOf Go.Proofs.Tryd.prog 66 = some ⟨.struct [(0, 1), (1, 1), (2, 1)], 3, 32, some [.int .i64 0, .string ⟨#[]⟩, .int .i64 0]⟩ := by kernel_rfl
@[go_sem] theorem ty_68 : tyOf Go.Proofs.Tryd.prog 68 = some ⟨.ifc, 1, 16, some [.nilIface]⟩ := by kernel_rfl
@[go_sem] theorem ty_69 : tyOf Go.Proofs.Tryd.prog 69 = some ⟨.ifc, 1, 16, some [.nilIface]⟩ := by kernel_rfl
@[go_sem] theorem ty_81 : tyOf Go.Proofs.Tryd.prog 81 = some ⟨.struct [(0, 1), (1, 1), (2, 1)], 3, 32, some [.int .i64 0, .string ⟨#[]⟩, .int .i64 0]⟩ := by kernel_rfl
@[go_sem] theorem ty_82 : tyOf Go.Proofs.Tryd.prog 82 = some ⟨.struct [(0, 1), (1, 1), (2, 1)], 3, 32, some [.int .i64 0, .string ⟨#[]⟩, .int .i64 0]⟩ := by kernel_rfl
@[go_sem] theorem ty_88 : tyOf Go.Proofs.Tryd.prog 88 = some ⟨.ptr 41, 1, 8, some [.pointer none]⟩ := by kernel_rfl
@[go_sem] theorem ty_94 : tyOf Go.Proofs.Tryd.prog 94 = some ⟨.map 3 95, 1, 8, some [.map none]⟩ := by kernel_rfl
@[go_sem] theorem ty_95 : tyOf Go.Proofs.Tryd.prog 95 = some ⟨.struct [], 0, 0, some []⟩ := by kernel_rfl
@[go_sem] theorem ty_98 : tyOf Go.Proofs.Tryd.prog 98 = some ⟨.slice 99, 1, 24, some [.slice none 0 0]⟩ := by kernel_rfl
@[go_sem] theorem ty_99 : tyOf Go.Proofs.Tryd.prog 99 = some ⟨.slice 4, 1, 24, some [.slice none 0 0]⟩ := by kernel_rfl
@[go_sem] theorem ty_102 : tyOf Go.Proofs.Tryd.prog 102 = some ⟨.slice 9, 1, 24, some [.slice none 0 0]⟩ := by kernel_rfl
@[go_sem] theorem ty_103 : tyOf Go.Proofs.Tryd.prog 103 = some ⟨.arr 12 9, 12, 192, some [.string ⟨#[]⟩, .string ⟨#[]⟩, .string ⟨#[]⟩, .string ⟨#[]⟩, .string ⟨#[]⟩, .string ⟨#[]⟩, .string ⟨#[]⟩, .string ⟨#[]⟩, .string ⟨#[]⟩, .string ⟨#[]⟩, .string ⟨#[]⟩, .string ⟨#[]⟩]⟩ := by kernel_rfl
@[go_sem] theorem ty_104 : tyOf Go.Proofs.Tryd.prog 104 = some ⟨.ptr 5, 1, 8, some [.pointer none]⟩ := by kernel_rfl
@[go_sem] theorem ty_111 : tyOf Go.Proofs.Tryd.prog 111 = some ⟨.arr 6 3, 6, 48, some [.int .i64 0, .int .i64 0, .int .i64 0, .int .i64 0, .int .i64 0, .int .i64 0]⟩ := by kernel_rfl
@[go_sem] theorem ty_112 : tyOf Go.Proofs.Tryd.prog 112 = some ⟨.arr 6 111, 36, 288, some [.int .i64 0, .int .i64 0, .int .i64 0, .int .i64 0, .int .i64 0, .int .i64 0, .int .i64 0, .int .i64 0, .int .i64 0, .int .i64 0, .int .i64 0, .int .i64 0, .int .i64 0, .int .i64 0, .int .i64 0, .int .i64 0, .int .i64 0, .int .i64 0, .int .i64 0, .int .i64 0, .int .i64 0, .int .i64 0, .int .i64 0, .int .i64 0, .int .i64 0, .int .i64 0, .int .i64 0, .int .i64 0, .int .i64 0, .int .i64 0, .int .i64 0, .int .i64 0, .int .i64 0, .int .i64 0, .int .i64 0, .int .i64 0]⟩ := by kernel_rfl
@[go_sem] theorem ty_116 : tyOf Go.Proofs.Tryd.prog 116 = some ⟨.arr 6 4, 6, 6, some [.bool false, .bool false, .bool false, .bool false, .bool false, .bool false]⟩ := by kernel_rfl
@[go_sem] theorem ty_117 : tyOf Go.Proofs.Tryd.prog 117 = some ⟨.arr 6 116, 36, 36, some [.bool false, .bool false, .bool false, .bool false, .bool false, .bool false, .bool false, .bool false, .bool false, .bool false, .bool false, .bool false, .bool false, .bool false, .bool false, .bool false, .bool false, .bool false, .bool false, .bool false, .bool false, .bool false, .bool false, .bool false, .bool false, .bool false, .bool false, .bool false, .bool false, .bool false, .bool false, .bool false, .bool false, .bool false, .bool false, .bool false]⟩ := by kernel_rfl
@[go_sem] theorem ty_120 : tyOf Go.Proofs.Tryd.prog 120 = some ⟨.int .u64, 1, 8, some [.int .u64 0]⟩ := by kernel_rfl
@[go_sem] theorem ty_133 : tyOf Go.Proofs.Tryd.prog 133 = some ⟨.int .i64, 1, 8, some [.int .i64 0]⟩ := by kernel_rfl
@[go_sem] theorem ty_141 : tyOf Go.Proofs.Tryd.prog 141 = some ⟨.int .u32, 1, 4, some [.int .u32 0]⟩ := by kernel_rfl
@[go_sem] theorem ty_145 : tyOf Go.Proofs.Tryd.prog 145 = some ⟨.arr 24 5, 24, 24, some [.int .u8 0, .int .u8 0, .int .u8 0, .int .u8 0, .int .u8 0, .int .u8 0, .int .u8 0, .int .u8 0, .int .u8 0, .int .u8 0, .int .u8 0, .int .u8 0, .int .u8 0, .int .u8 0, .int .u8 0, .int .u8 0, .int .u8 0, .int .u8 0, .int .u8 0, .int .u8 0, .int .u8 0, .int .u8 0, .int .u8 0, .int .u8 0]⟩ := by kernel_rfl
@[go_sem] theorem ty_149 : tyOf Go.Proofs.Tryd.prog 149 = some ⟨.int .i64, 1, 8, some [.int .i64 0]⟩ := by kernel_rfl
@[go_sem] theorem ty_152 : tyOf Go.Proofs.Tryd.prog 152 = some ⟨.ptr 173, 1, 8, some [.pointer none]⟩ := by kernel_rfl
@[go_sem] theorem ty_156 : tyOf Go.Proofs.Tryd.prog 156 = some ⟨.int .u64, 1, 8, some [.int .u64 0]⟩ := by kernel_rfl
@[go_sem] theorem ty_160 : tyOf Go.Proofs.Tryd.prog 160 = some ⟨.ptr 3, 1, 8, some [.pointer none]⟩ := by kernel_rfl
@[go_sem] theorem ty_163 : tyOf Go.Proofs.Tryd.prog 163 = some ⟨.struct [(0, 1), (1, 1)], 2, 2, some [.int .u8 0, .int .u8 0]⟩ := by kernel_rfl
@[go_sem] theorem ty_164 : tyOf Go.Proofs.Tryd.prog 164 = some ⟨.struct [(0, 1), (1, 1)], 2, 2, some [.int .u8 0, .int .u8 0]⟩ := by kernel_rfl
@[go_sem] theorem ty_165 : tyOf Go.Proofs.Tryd.prog 165 = some ⟨.arr 16 164, 32, 32, some [.int .u8 0, .int .u8 0, .int .u8 0, .int .u8 0, .int .u8 0, .int .u8 0, .int .u8 0, .int .u8 0, .int .u8 0, .int .u8 0, .int .u8 0, .int .u8 0, .int .u8 0, .int .u8 0, .int .u8 0, .int .u8 0, .int .u8 0, .int .u8 0, .int .u8 0, .int .u8 0, .int .u8 0, .int .u8 0, .int .u8 0, .int .u8 0, .int .u8 0, .int .u8 0, .int .u8 0, .int .u8 0, .int .u8 0, .int .u8 0, .int .u8 0, .int .u8 0]⟩ := by kernel_rfl
@[go_sem] theorem ty_167 : tyOf Go.Proofs.Tryd.prog 167 = some ⟨.arr 20 59, 20, 160, some [.int .u64 0, .int .u64 0, .int .u64 0, .int .u64 0, .int .u64 0, .int .u64 0, .int .u64 0, .int .u64 0, .int .u64 0, .int .u64 0, .int .u64 0, .int .u64 0, .int .u64 0, .int .u64 0, .int .u64 0, .int .u64 0, .int .u64 0, .int .u64 0, .int .u64 0, .int .u64 0]⟩ := by kernel_rfl
@[go_sem] theorem ty_172 : tyOf Go.Proofs.Tryd.prog 172 = some ⟨.struct [(0, 1), (1, 1), (2, 1)], 3, 48, some [.string ⟨#[]⟩, .string ⟨#[]⟩, .nilIface]⟩ := by kernel_rfl
@[go_sem] theorem ty_173 : tyOf Go.Proofs.Tryd.prog 173 = some ⟨.struct [(0, 1), (1, 1), (2, 1)], 3, 48, some [.string ⟨#[]⟩, .string ⟨#[]⟩, .nilIface]⟩ := by kernel_rfl
@[go_sem] theorem ty_175 : tyOf Go.Proofs.Tryd.prog 175 = some ⟨.ptr 156, 1, 8, some [.pointer none]⟩ := by kernel_rfl
@[go_sem] theorem ty_181 : tyOf Go.Proofs.Tryd.prog 181 = some ⟨.ptr 183, 1, 8, some [.pointer none]⟩ := by kernel_rfl
@[go_sem] theorem ty_182 : tyOf Go.Proofs.Tryd.prog 182 = some ⟨.struct [(0, 1)], 1, 16, some [.string ⟨#[]⟩]⟩ := by kernel_rfl
@[go_sem] theorem ty_183 : tyOf Go.Proofs.Tryd.prog 183 = some ⟨.struct [(0, 1)], 1, 16, some [.string ⟨#[]⟩]⟩ := by kernel_rfl
@[go_sem] theorem ty_184 : tyOf Go.Proofs.Tryd.prog 184 = some ⟨.arr 32 5, 32, 32, some [.int .u8 0, .int .u8 0, .int .u8 0, .int .u8 0, .int .u8 0, .int .u8 0, .int .u8 0, .int .u8 0, .int .u8 0, .int .u8 0, .int .u8 0, .int .u8 0, .int .u8 0, .int .u8 0, .int .u8 0, .int .u8 0, .int .u8 0, .int .u8 0, .int .u8 0, .int .u8 0, .int .u8 0, .int .u8 0, .int .u8 0, .int .u8 0, .int .u8 0, .int .u8 0, .int .u8 0, .int .u8 0, .int .u8 0, .int .u8 0, .int .u8 0, .int .u8 0]⟩ := by kernel_rfl
@[go_sem] theorem ty_186 : tyOf Go.Proofs.Tryd.prog 186 = some ⟨.struct [(0, 1), (1, 1), (2, 1), (3, 1)], 4, 40, some [.pointer none, .pointer none, .pointer none, .string ⟨#[]⟩]⟩ := by kernel_rfl
@[go_sem] theorem ty_187 : tyOf Go.Proofs.Tryd.prog 187 = some ⟨.struct [(0, 1), (1, 1), (2, 1), (3, 1)], 4, 40, some [.pointer none, .pointer none, .pointer none, .string ⟨#[]⟩]⟩ := by kernel_rfl
@[go_sem] theorem ty_188 : tyOf Go.Proofs.Tryd.prog 188 = some ⟨.arr 0 16, 0, 0, some []⟩ := by kernel_rfl
@[go_sem] theorem ty_189 : tyOf Go.Proofs.Tryd.prog 189 = some ⟨.struct [(0, 0)], 0, 0, some []⟩ := by kernel_rfl
@[go_sem] theorem ty_190 : tyOf Go.Proofs.Tryd.prog 190 = some ⟨.struct [(0, 0)], 0, 0, some []⟩ := by kernel_rfl
@[go_sem] theorem ty_191 : tyOf Go.Proofs.Tryd.prog 191 = some ⟨.int .u8, 1, 1, some [.int .u8 0]⟩ := by kernel_rfl
@[go_sem] theorem ty_192 : tyOf Go.Proofs.Tryd.prog 192 = some ⟨.int .u8, 1, 1, some [.int .u8 0]⟩ := by kernel_rfl
@[go_sem] theorem ty_194 : tyOf Go.Proofs.Tryd.prog 194 = some ⟨.int .i32, 1, 4, some [.int .i32 0]⟩ := by kernel_rfl
@[go_sem] theorem ty_195 : tyOf Go.Proofs.Tryd.prog 195 = some ⟨.int .i32, 1, 4, some [.int .i32 0]⟩ := by kernel_rfl
@[go_sem] theorem ty_196 : tyOf Go.Proofs.Tryd.prog 196 = some ⟨.struct [(0, 1), (1, 1), (2, 1), (3, 1), (4, 1), (5, 1), (6, 1), (7, 1), (8, 1), (9, 1), (10, 1)], 11, 48, some [.int .u64 0, .int .u64 0, .int .u32 0, .int .u8 0, .int .u8 0, .int .u8 0, .int .u8 0, .nilFunc, .pointer none, .int .i32 0, .int .i32 0]⟩ := by kernel_rfl
@[go_sem] theorem ty_197 : tyOf Go.Proofs.Tryd.prog 197 = some ⟨.struct [(0, 1), (1, 1), (2, 1), (3, 1), (4, 1), (5, 1), (6, 1), (7, 1), (8, 1), (9, 1), (10, 1)], 11, 48, some [.int .u64 0, .int .u64 0, .int .u32 0, .int .u8 0, .int .u8 0, .int .u8 0, .int .u8 0, .nilFunc, .pointer none, .int .i32 0, .int .i32 0]⟩ := by kernel_rfl
@[go_sem] theorem et_7 : etTop Go.Proofs.Tryd.prog 7 = some (.str [(0, 1, .prim (.int .i64)), (1, 1, .prim (.int .i64)), (2, 1, .prim .bool), (3, 1, .prim (.int .u8))]) := by kernel_rfl
@[go_sem] theorem et_8 : etTop Go.Proofs.Tryd.prog 8 = some (.str [(0, 1, .prim (.int .i64)), (1, 1, .prim (.int .i64)), (2, 1, .prim .bool), (3, 1, .prim (.int .u8))]) := by kernel_rfl
@[go_sem] theorem et_56 : etTop Go.Proofs.Tryd.prog 56 = some (.str [(0, 1, .prim (.int .i64)), (1, 1, .prim (.int .i64)), (2, 1, .prim .str)]) := by kernel_rfl
@[go_sem] theorem et_57 : etTop Go.Proofs.Tryd.prog 57 = some (.str [(0, 1, .prim (.int .i64)), (1, 1, .prim (.int .i64)), (2, 1, .prim .str)]) := by kernel_rfl
@[go_sem] theorem et_65 : etTop Go.Proofs.Tryd.prog 65 = some (.str [(0, 1, .prim (.int .i64)), (1, 1, .prim .str), (2, 1, .prim (.int .i64))]) := by kernel_rfl
@[go_sem] theorem et_66 : etTop Go.Proofs.Tryd.prog 66 = some (.str [(0, 1, .prim (.int .i64)), (1, 1, .prim .str), (2, 1, .prim (.int .i64))]) := by kernel_rfl
@[go_sem] theorem et_81 : etTop Go.Proofs.Tryd.prog 81 = some (.str [(0, 1, .prim (.int .i64)), (1, 1, .prim .str), (2, 1, .prim (.int .i64))]) := by kernel_rfl
@[go_sem] theorem et_82 : etTop Go.Proofs.Tryd.prog 82 = some (.str [(0, 1, .prim (.int .i64)), (1, 1, .prim .str), (2, 1, .prim (.int .i64))]) := by kernel_rfl
@[go_sem] theorem et_95 : etTop Go.Proofs.Tryd.prog 95 = some (.str []) := by kernel_rfl
@[go_sem] theorem et_163 : etTop Go.Proofs.Tryd.prog 163 = some (.str [(0, 1, .prim (.int .u8)), (1, 1, .prim (.int .u8))]) := by kernel_rfl
@[go_sem] theorem et_164 : etTop Go.Proofs.Tryd.prog 164 = some (.str [(0, 1, .prim (.int .u8)), (1, 1, .prim (.int .u8))]) := by kernel_rfl
@[go_sem] theorem et_182 : etTop Go.Proofs.Tryd.prog 182 = some (.str [(0, 1, .prim .str)]) := by kernel_rfl
@[go_sem] theorem et_183 : etTop Go.Proofs.Tryd.prog 183 = some (.str [(0, 1, .prim .str)]) := by kernel_rfl
end Go.AM
/- The abstract machine, 19: slices that came in, as what is read. -/
namespace Go.AM
open Go Go.ChangeShapes Go.WideShapes Go.ChangeAt Go.RowKit
theorem add_none_ (a : Addr) (n : Nat) (h : a.spot = none) : a.add n = ⟨a.block, a.off + n, none⟩ := by
  unfold Addr.add
  split
  · rename_i h0; subst h0; cases a; simp_all
  · rfl
/-- All that lies. -/
def zAll (w : World) : Zone := fun _ b => b < w.heap.size
theorem open_ro {H α : Type} {E : TypeId × Value → H} {P : Program} {w : World} {base : Nat} {spare : Nat → Bool} {held : Bool} {k fuel : Nat} {t e : TypeId} {cs : List Value} {x : DataW H × List MemPlace}
    (enc : α → List AV) (R : α → DataW H → Prop) (tt : Bool) (ht : P.underlying t = some (.slice e)) (hk : P.cellsOf e = k) (hk0 : 0 < k)
    (leaf : ∀ fuel cs x, DataW.trod E P w base spare held fuel e cs = some x → ∃ y, Reps w (zAll w) [] (enc y) cs ∧ (∀ v ∈ cs, v.oneCell' = true) ∧ R y x.1)
    (h : DataW.trod E P w base spare held fuel t cs = some x) :
    ∃ (v : Value) (l : List α), cs = [v] ∧ Rep w (zAll w) [] (.ro tt k (l.map enc)) v ∧ v.oneCell' = true ∧
      ((l = [] ∧ x.1 = .nil) ∨ ∃ ds rest, x.1 = .slice ds rest ∧ ds.length = l.length ∧ ∀ (i : Nat) y, l[i]? = some y → ∃ d, ds[i]? = some d ∧ R y d) := by
  rcases DataW.trod_slice ht h with ⟨rfl, rfl⟩ | ⟨a, len, cap, elems, rest, n, _, rfl, rfl, hb, hl, hm, hlen, hel, -, -⟩
  · exact ⟨_, [], rfl, .nil _ _ _ _ _, rfl, .inl ⟨rfl, rfl⟩⟩
  have hy : ∀ i : Fin len, ∃ y cs', w.cells? base (a.add (i.1 * k)) k = some cs' ∧ Reps w (zAll w) [] (enc y) cs' ∧ (∀ v ∈ cs', v.oneCell' = true) ∧ ∃ d, (elems.map (·.1))[i.1]? = some d ∧ R y d := fun ⟨i, hi⟩ => by
    have h1 := hel i hi
    rw [List.getElem?_eq_getElem (by omega), hk] at h1
    obtain ⟨cs', h2, h3⟩ := Option.bind_eq_some_iff.1 h1
    obtain ⟨y, h4, h5, hR⟩ := leaf _ _ _ h3
    exact ⟨y, cs', h2, h4, h5, _, by simp [show i < elems.length by omega], hR⟩
  obtain ⟨f, hf⟩ := Classical.axiomOfChoice hy
  obtain ⟨g, hg⟩ := Classical.axiomOfChoice hf
  refine ⟨_, List.ofFn f, rfl, ?_, rfl, .inr ⟨_, _, rfl, by simp [hlen], fun i y hi => ?_⟩⟩
  · by_cases h0 : len = 0
    · subst h0; simp only [List.ofFn_zero, List.map_nil]; exact .nil _ _ _ _ _
    have c0 := hg ⟨0, by omega⟩
    obtain ⟨_, l0, g0⟩ := World.cells?_some c0.1
    have g1 := g0 0 hk0
    rw [List.getElem?_eq_getElem (by omega)] at g1
    have hs : a.spot = none := by
      simp only [Nat.zero_mul] at g1
      have e0 : (a.add 0).add 0 = a := by simp [Addr.add]
      rw [e0] at g1
      unfold World.cell? at g1
      split at g1
      · split at g1
        · cases g1
        · rename_i h5; simpa using h5
      · cases g1
    have hlt : a.block < w.heap.size := by
      have := World.block_lt_of_cell? _ _ g1
      simpa [Addr.add] using this
    have ha : a = ⟨a.block, a.off, none⟩ := by cases a; simp_all
    have hlk : ∀ i : Fin len, (g i).length = k := fun i => (World.cells?_some (hg i).1).2.1
    have hmem : ∀ (i : Nat) (e : List AV), ((List.ofFn f).map enc)[i]? = some e → ∃ h : i < len, e = enc (f ⟨i, h⟩) := by
      intro i e hi
      rw [List.getElem?_map, List.getElem?_ofFn] at hi
      split at hi
      · rename_i h; exact ⟨h, by simpa using hi.symm⟩
      · simp at hi
    have key : ∀ (i : Nat) (e : List AV) (j : Nat) (x : AV), ((List.ofFn f).map enc)[i]? = some e → e[j]? = some x → ∃ (h : i < len) (y : Value), (g ⟨i, h⟩)[j]? = some y ∧ Rep w (zAll w) [] x y ∧ w.cell? ⟨a.block, a.off + i * k + j, none⟩ = some y := by
      intro i e j x hi hj
      obtain ⟨h, rfl⟩ := hmem i e hi
      obtain ⟨y, h1, h2⟩ := (hg ⟨i, h⟩).2.1.get hj
      refine ⟨h, y, h1, h2, ?_⟩
      obtain ⟨_, l1, g2⟩ := World.cells?_some (hg ⟨i, h⟩).1
      have hj' : j < k := by rw [← hlk ⟨i, h⟩]; exact (List.getElem?_eq_some_iff.1 h1).1
      have g3 := g2 j hj'
      rw [add_none_ a _ hs, add_none_ _ _ rfl] at g3
      rw [← h1, ← g3]
    have hlen2 : ((List.ofFn f).map enc).length = len := by simp
    let ys : Nat → Nat → Value := fun i j => if h : i < len then ((g ⟨i, h⟩)[j]?).getD undef else undef
    have hys : ∀ {i j : Nat} (h : i < len) {y : Value}, (g ⟨i, h⟩)[j]? = some y → ys i j = y := by
      intro i j h y hy; simp only [ys]; rw [dif_pos h, hy]; rfl
    have hro := Rep.ro (w := w) (z := zAll w) [] tt k ((List.ofFn f).map enc) a.block a.off cap ys hlt (by rw [hlen2]; exact hl) (fun i e hi => by obtain ⟨h, rfl⟩ := hmem i e hi; rw [← (hg ⟨i, h⟩).2.1.1]; exact hlk _)
      (fun i e j x hi hj => by obtain ⟨h, y, h1, _, h3⟩ := key i e j x hi hj; rw [hys h h1]; exact h3)
      (fun i e j x hi hj => by obtain ⟨h, y, h1, _, _⟩ := key i e j x hi hj; rw [hys h h1]; exact (hg ⟨i, h⟩).2.2.1 y (List.mem_of_getElem? h1))
      (fun i e j x hi hj => by obtain ⟨h, y, h1, h2, _⟩ := key i e j x hi hj; rw [hys h h1]; exact h2)
    rw [hlen2, ← ha] at hro
    exact hro
  · obtain ⟨hi', rfl⟩ : ∃ h : i < len, f ⟨i, h⟩ = y := by
      rw [List.getElem?_ofFn] at hi
      split at hi
      · rename_i h; exact ⟨h, by simpa using hi⟩
      · cases hi
    exact (hg ⟨i, hi'⟩).2.2.2
theorem rep1 {w : World} {z : Zone} {th : List NLoc} {x : AV} {v : Value} (h : Rep w z th x v) : Reps w z th [x] [v] := .cons h .nil
end Go.AM
/- The abstract machine, 20: contracts of the old form; arguments that say less. -/
namespace Go.AM
open Go
section
variable {P : Program}
/-- What lies in the tables. -/
def Globs (G : List (Nat × List Value)) (w : World) : Prop := ∀ g cs, (g, cs) ∈ G → g < w.heap.size ∧ ∀ (j : Nat) u, cs[j]? = some u → w.cell? ⟨g, j, none⟩ = some u
/-- A contract of the old form: a plain value; what was there is as it was. -/
theorem con_of_calls {f : Nat} {G : List (Nat × List Value)} {xs : List AV} {v : Value} (hok : okFn P f = true)
    (h : ∀ (w : World) (z : Zone) (vs : List Value), (∀ t b, z t b → b < w.heap.size) → Reps w z [] xs vs → Globs G w → Calls P f vs.toArray w (fun e w' => e = .returned v ∧ Go.RowKit.Below w.heap.size w w')) : Con P G f xs [] 0 (Is (.r v) [] 0) No := by
  refine ⟨hok, fun w th z own vs ho hm hr => ?_⟩
  have hth : th = [] := List.length_eq_zero_iff.1 hm.len
  subst hth
  refine (h w z vs hm.zlt hr (fun g cs hg => ⟨hm.zlt _ _ (hm.globs g cs hg).1, (hm.globs g cs hg).2⟩)).mono ?_
  rintro e w' ⟨rfl, hb⟩
  refine ⟨v, .r v, [], 0, [], z, .inl ⟨rfl, rfl, rfl, rfl⟩, ?_, .r _ _⟩
  refine ⟨rfl, fun i nd hi => by simp [lk] at hi, fun i j x y L M hi => by simp [lk] at hi, fun t b hz => Nat.lt_of_lt_of_le (hm.zlt t b hz) hb.size, hb.size, fun b hlt _ => hb.block b hlt, fun t b h => h, fun b h => .inl h, fun b h => h, ?_, fun i L hi => by simp at hi, ⟨hb.os, hb.tape, hb.output⟩⟩
  intro g cs hg
  obtain ⟨h1, h2⟩ := hm.globs g cs hg
  exact ⟨h1, fun j u hu => (cell_heap (hb.block g (hm.zlt _ _ h1)) j).trans (h2 j u hu)⟩
mutual
/-- The second says no more than the first: a nil slice is a slice without elements; what is read for good is read. -/
def wk : AV → AV → Prop
  | .r (.slice none 0 0), .ro _ _ [] => True
  | .agg a, .agg b => wkL a b
  | x, y => x = y
def wkL : List AV → List AV → Prop
  | [], [] => True
  | x :: a, y :: b => wk x y ∧ wkL a b
  | _, _ => False
end
variable {w : World} {z : Zone} {th : List NLoc}
mutual
theorem wk_rep : ∀ {x y : AV} {v : Value}, wk x y → Rep w z th x v → Rep w z th y v
  | .r u, y, v, h, hr => by
    unfold wk at h
    split at h
    · rename_i t k e; cases e; exact nil_ro _ _ hr
    · rename_i a b e; cases e
    · subst h; exact hr
  | .agg a, y, v, h, hr => by
    unfold wk at h
    split at h
    · rename_i e; cases e
    · rename_i a' b e; cases e
      obtain ⟨ys, rfl, hc⟩ := hr.agg_inv
      have := wkL_rep h hc
      exact .agg _ _ _ this.1 this.2
    · subst h; exact hr
  | .ro t k e, y, v, h, hr => by simp [wk] at h; subst h; exact hr
  | .re t c o, y, v, h, hr => by simp [wk] at h; subst h; exact hr
  | .s n l k, y, v, h, hr => by simp [wk] at h; subst h; exact hr
  | .p n i o, y, v, h, hr => by simp [wk] at h; subst h; exact hr
  | .tup c, y, v, h, hr => by simp [wk] at h; subst h; exact hr
  | .fn f c, y, v, h, hr => by simp [wk] at h; subst h; exact hr
  | .ifc t c, y, v, h, hr => by simp [wk] at h; subst h; exact hr
theorem wkL_rep : ∀ {x y : List AV} {vs : List Value}, wkL x y → Reps w z th x vs → Reps w z th y vs
  | [], [], vs, _, hr => hr
  | x :: a, y :: b, vs, h, hr => by
    unfold wkL at h
    obtain ⟨v, r, rfl, h1, h2⟩ := hr.head
    exact .cons (wk_rep h.1 h1) (wkL_rep h.2 h2)
  | [], _ :: _, _, h, _ => by simp [wkL] at h
  | _ :: _, [], _, h, _ => by simp [wkL] at h
end
theorem Con.weak {G : List (Nat × List Value)} {f : Nat} {xs xs' : List AV} {o : List (Nat × Nd)} {n : Nat} {Q R : AV → List (Nat × Nd) → Nat → Prop} (hc : Con P G f xs' o n Q R) (h : wkL xs xs') : Con P G f xs o n Q R :=
  hc.args (fun _ _ _ _ hr => wkL_rep h hr)
end
end Go.AM
/- Plain data of the program, as cells. -/
namespace Go.AM
open Go
structure V where
  k : Int
  n : Int
  s : ByteArray
def eV (x : V) : List AV := [.r (.int .i64 x.k), .r (.int .i64 x.n), .r (.string x.s)]
def sameV (x y : V) : Bool := x.k == y.k && (x.n == y.n && x.s.toList == y.s.toList)
def sameVs : List V → List V → Bool
  | [], [] => true
  | x :: r, y :: q => sameV x y && sameVs r q
  | _, _ => false
theorem drop_at {α : Type} {l : List α} {k : Nat} {x : α} (h : l[k]? = some x) : l.drop k = x :: l.drop (k + 1) := by
  obtain ⟨hk, rfl⟩ := List.getElem?_eq_some_iff.1 h
  exact List.drop_eq_getElem_cons hk
theorem sameVs_len : ∀ {a b : List V}, sameVs a b = true → a.length = b.length
  | [], [], _ => rfl
  | x :: r, y :: q, h => by simp [sameVs] at h; simp [sameVs_len h.2]
  | [], _ :: _, h => by simp [sameVs] at h
  | _ :: _, [], h => by simp [sameVs] at h
def eI (n : Int) : List AV := [.r (.int .i64 n)]
def eStr (s : ByteArray) : List AV := [.r (.string s)]
/-- A column. -/
structure CO where
  nm : ByteArray
  k : Int
def eC (c : CO) : List AV := [.r (.string c.nm), .r (.int .i64 c.k)]
/-- A token. -/
structure TK0 where
  k : Int
  s : ByteArray
  n : Int
def eT (t : TK0) : List AV := [.r (.int .i64 t.k), .r (.string t.s), .r (.int .i64 t.n)]
@[simp] theorem ptA_eV (a : V) : (∀ x, x ∈ eV a → PT x) = True := eq_true (by intro x hx; simp [eV] at hx; rcases hx with rfl | rfl | rfl <;> exact .r _)
@[simp] theorem ptA_eT (a : TK0) : (∀ x, x ∈ eT a → PT x) = True := eq_true (by intro x hx; simp [eT] at hx; rcases hx with rfl | rfl | rfl <;> exact .r _)
@[simp] theorem ptA_eI (a : Int) : (∀ x, x ∈ eI a → PT x) = True := eq_true (by intro x hx; simp [eI] at hx; subst hx; exact .r _)
@[simp] theorem ptA_eC (a : CO) : (∀ x, x ∈ eC a → PT x) = True := eq_true (by intro x hx; simp [eC] at hx; rcases hx with rfl | rfl <;> exact .r _)
@[simp] theorem ptA_eStr (a : ByteArray) : (∀ x, x ∈ eStr a → PT x) = True := eq_true (by intro x hx; simp [eStr] at hx; subst hx; exact .r _)
instance : PTf eV := ⟨fun a => of_eq_true (ptA_eV a)⟩
instance : PTf eT := ⟨fun a => of_eq_true (ptA_eT a)⟩
instance : PTf eI := ⟨fun a => of_eq_true (ptA_eI a)⟩
instance : PTf eC := ⟨fun a => of_eq_true (ptA_eC a)⟩
instance : PTf eStr := ⟨fun a => of_eq_true (ptA_eStr a)⟩
theorem pt_eV : ∀ {l : List V}, ∀ e ∈ l.map eV, ∀ x ∈ e, PT x := by
  intro l e he x hx
  obtain ⟨a, _, rfl⟩ := List.mem_map.1 he
  simp [eV] at hx; rcases hx with rfl | rfl | rfl <;> exact .r _
theorem pt_eT {l : List TK0} : ∀ e ∈ l.map eT, ∀ x ∈ e, PT x := by
  intro e he x hx
  obtain ⟨a, _, rfl⟩ := List.mem_map.1 he
  simp [eT] at hx; rcases hx with rfl | rfl | rfl <;> exact .r _
theorem pt_eByte {l : List UInt8} : ∀ e ∈ l.map eByte, ∀ x ∈ e, PT x := by
  intro e he x hx
  obtain ⟨a, _, rfl⟩ := List.mem_map.1 he
  simp [eByte] at hx; subst hx; exact .r _
theorem pt_eI {l : List Int} : ∀ e ∈ l.map eI, ∀ x ∈ e, PT x := by
  intro e he x hx
  obtain ⟨a, _, rfl⟩ := List.mem_map.1 he
  simp [eI] at hx; subst hx; exact .r _
end Go.AM
/- Locks by the abstract machine: plain data; what the walks of old have shown, as contracts. -/
namespace Go.AM
open Go Go.RowKit
open Go.Proofs.YteebiklebedneaaDoor (LK SlAt LksAt TabFits TabJoins fitB joinB modeB shapeM findM agK agR agM ahM wfM modeM firstM lockGood chkM isK sameT sameX fitsL joinsL fittingM)
attribute [local irreducible] AWP retA
def eK (x : LK) : List AV := [.r (.int .i64 x.t), .r (.string x.s), .r (.int .i64 x.m)]
@[simp] theorem ptA_eK (a : LK) : (∀ x, x ∈ eK a → PT x) = True := eq_true (by intro x hx; simp [eK] at hx; rcases hx with rfl | rfl | rfl <;> exact .r _)
instance : PTf eK := ⟨fun a => of_eq_true (ptA_eK a)⟩
def fitsV : List Value := fitsL.flatten.map .bool
def joinsV : List Value := joinsL.flatten.map (.int .i64)
/-- The package's tables. -/
structure TabsL (G : List (Nat × List Value)) : Prop where
  fits : lk G 2 = some fitsV
  joins : lk G 1 = some joinsV
theorem lk_in {α : Type} : ∀ {G : List (Nat × α)} {g : Nat} {c : α}, lk G g = some c → (g, c) ∈ G
  | (i, x) :: r, g, c, h => by
    rw [lk] at h
    split at h
    · rename_i e; cases h; subst e; exact List.mem_cons_self ..
    · exact List.mem_cons_of_mem _ (lk_in h)
theorem fitsV_at {i j : Nat} (hi : i < 6) (hj : j < 6) : fitsV[i * 6 + j]? = some (.bool ((fitsL.getD i []).getD j false)) := by
  have h : ∀ i < 6, ∀ j < 6, fitsL.flatten[i * 6 + j]? = some ((fitsL.getD i []).getD j false) := by decide
  rw [fitsV, List.getElem?_map, h i hi j hj]; rfl
theorem joinsV_at {i j : Nat} (hi : i < 6) (hj : j < 6) : joinsV[i * 6 + j]? = some (.int .i64 ((joinsL.getD i []).getD j 0)) := by
  have h : ∀ i < 6, ∀ j < 6, joinsL.flatten[i * 6 + j]? = some ((joinsL.getD i []).getD j 0) := by decide
  rw [joinsV, List.getElem?_map, h i hi j hj]; rfl
theorem tabFits_of {G : List (Nat × List Value)} {w : World} (T : TabsL G) (h : Globs G w) : TabFits w := fun _ _ hi hj => (h _ _ (lk_in T.fits)).2 _ _ (fitsV_at hi hj)
theorem tabJoins_of {G : List (Nat × List Value)} {w : World} (T : TabsL G) (h : Globs G w) : TabJoins w := fun _ _ hi hj => (h _ _ (lk_in T.joins)).2 _ _ (joinsV_at hi hj)
theorem lks_of_ro {w : World} {z : Zone} {t : Bool} {l : List LK} {v : Value} (hz : ∀ t b, z t b → b < w.heap.size) (h : Rep w z [] (.ro t 3 (l.map eK)) v) : ∃ a cap, v = .slice a l.length cap ∧ LksAt w a l ∧ l.length ≤ cap := by
  obtain ⟨ad, c, rfl, hc, hn | ⟨b, o, rfl, hzb, hcell⟩⟩ := h.ro_inv
  · have : l = [] := by simpa using hn
    subst this; exact ⟨ad, c, rfl, .inl rfl, Nat.zero_le _⟩
  · refine ⟨_, c, by simp, .inr ⟨b, o, rfl, hz _ _ hzb, fun j x hj i u hi => ?_⟩, by simpa using hc⟩
    obtain ⟨h1, h2⟩ := hcell j (eK x) (by rw [List.getElem?_map, hj]; rfl)
    obtain ⟨y, hy, hr⟩ := h2 i (.r u) (by rw [show eK x = (LK.cells x).map .r from rfl, List.getElem?_map, hi]; rfl)
    rw [hy, show y = u from hr.1.r_inv]
/-- Two rows of locks. -/
def eKs (t1 t2 : Bool) (l1 l2 : List LK) : AV := .agg [.ro t1 3 (l1.map eK), .ro t2 3 (l2.map eK)]
theorem locks_open {w : World} {z : Zone} {t1 t2 : Bool} {l1 l2 : List LK} {v : Value} (hz : ∀ t b, z t b → b < w.heap.size) (h : Rep w z [] (.agg [.ro t1 3 (l1.map eK), .ro t2 3 (l2.map eK)]) v) :
    ∃ a1 c1 a2 c2, v = .agg #[.slice a1 l1.length c1, .slice a2 l2.length c2] ∧ LksAt w a1 l1 ∧ LksAt w a2 l2 ∧ l1.length ≤ c1 ∧ l2.length ≤ c2 := by
  obtain ⟨ys, rfl, hy⟩ := h.agg_inv
  obtain ⟨u1, r1, rfl, g1, hy2⟩ := hy.head
  obtain ⟨u2, r2, rfl, g2, hy3⟩ := hy2.head
  obtain rfl := hy3.of_nil
  obtain ⟨a1, c1, rfl, k1, b1⟩ := lks_of_ro hz g1
  obtain ⟨a2, c2, rfl, k2, b2⟩ := lks_of_ro hz g2
  exact ⟨a1, c1, a2, c2, rfl, k1, k2, b1, b2⟩
/-- What may be the size of the things of locks. -/
def okKs (l : List LK) : Prop := l.length ≤ 1048576 ∧ ∀ x ∈ l, x.s.size ≤ maxLen
theorem check_con {G : List (Nat × List Value)} (T : TabsL G) (t1 t2 : Bool) (l1 l2 : List LK) (o1 : okKs l1) (o2 : okKs l2) : Con Go.Proofs.Tryd.prog G 45 [.agg [.ro t1 3 (l1.map eK), .ro t2 3 (l2.map eK)]] [] 0 (Is (.r (.int .i64 (chkM l1 l2))) [] 0) No :=
  con_of_calls (by kernel_rfl) (fun w z vs hz hr hG => by
    obtain ⟨v, r, rfl, h1, h2⟩ := hr.head
    obtain rfl := h2.of_nil
    obtain ⟨a1, c1, a2, c2, rfl, k1, k2, b1, b2⟩ := locks_open hz h1
    exact Go.Proofs.YteebiklebedneaaDoor.check_any a1 a2 l1 l2 c1 c2 w k1 k2 o1.1 o2.1 b1 b2 o1.2 o2.2 (tabFits_of T hG) (tabJoins_of T hG))
theorem locksFault_con (G : List (Nat × List Value)) (t1 t2 : Bool) (l1 l2 : List LK) (o1 : okKs l1) (o2 : okKs l2) : Con Go.Proofs.Tryd.prog G 52 [.agg [.ro t1 3 (l1.map eK), .ro t2 3 (l2.map eK)]] [] 0 (Is (.r (.int .i64 (chkM l1 l2))) [] 0) No :=
  con_of_calls (by kernel_rfl) (fun w z vs hz hr hG => by
    obtain ⟨v, r, rfl, h1, h2⟩ := hr.head
    obtain rfl := h2.of_nil
    obtain ⟨a1, c1, a2, c2, rfl, k1, k2, b1, b2⟩ := locks_open hz h1
    exact Go.Proofs.YteebiklebedneaaDoor.locksFault_any a1 a2 l1 l2 c1 c2 w k1 k2 o1.1 o2.1 b1 b2 o1.2 o2.2)
theorem find_con (G : List (Nat × List Value)) (t : Bool) (l : List LK) (hl : l.length ≤ 1048576) (txn : Int) (s : ByteArray) : Con Go.Proofs.Tryd.prog G 79 [.ro t 3 (l.map eK), .r (.int .i64 txn), .r (.string s)] [] 0 (Is (.r (.int .i64 (findM txn s l))) [] 0) No :=
  con_of_calls (by kernel_rfl) (fun w z vs hz hr hG => by
    obtain ⟨v, r, rfl, h1, h2⟩ := hr.head
    obtain ⟨v2, r2, rfl, h3, h4⟩ := h2.head
    obtain ⟨v3, r3, rfl, h5, h6⟩ := h4.head
    obtain rfl := h3.r_inv
    obtain rfl := h5.r_inv
    obtain rfl := h6.of_nil
    obtain ⟨a, c, rfl, k, b⟩ := lks_of_ro hz h1
    exact Go.Proofs.YteebiklebedneaaDoor.find_any a l c txn s w k (by omega))
theorem first_con {G : List (Nat × List Value)} (T : TabsL G) (t1 t2 : Bool) (l1 l2 : List LK) (n1 : l1.length ≤ 1048576) (n2 : l2.length ≤ 1048576) (i : Nat) (q : LK) (hi : l2[i]? = some q) (hq : modeB q.m = true) (hm : ∀ y ∈ l1, modeB y.m = true) :
    Con Go.Proofs.Tryd.prog G 49 [.agg [.ro t1 3 (l1.map eK), .ro t2 3 (l2.map eK)], .r (.int .i64 i)] [] 0 (Is (.r (.bool (firstM l1 l2 i q))) [] 0) No :=
  con_of_calls (by kernel_rfl) (fun w z vs hz hr hG => by
    obtain ⟨v, r, rfl, h1, h2⟩ := hr.head
    obtain ⟨v2, r2, rfl, h3, h4⟩ := h2.head
    obtain rfl := h3.r_inv
    obtain rfl := h4.of_nil
    obtain ⟨a1, c1, a2, c2, rfl, k1, k2, b1, b2⟩ := locks_open hz h1
    exact Go.Proofs.YteebiklebedneaaDoor.first_any a1 a2 l1 l2 c1 c2 i q w k1 k2 (by omega) (by omega) b2 (tabFits_of T hG) hi hq hm)
theorem fitting_con (G : List (Nat × List Value)) (a b : Int) : Con Go.Proofs.Tryd.prog G 104 [.r (.int .i64 a), .r (.int .i64 b)] [] 0 (Is (.r (.bool (fittingM a b))) [] 0) No :=
  con_of_calls (by kernel_rfl) (fun w z vs hz hr hG => by
    obtain ⟨v, r, rfl, h1, h2⟩ := hr.head
    obtain ⟨v2, r2, rfl, h3, h4⟩ := h2.head
    obtain rfl := h1.r_inv
    obtain rfl := h3.r_inv
    obtain rfl := h4.of_nil
    exact (Go.Proofs.YteebiklebedneaaDoor.fitting_any a b w).mono (fun e w' ⟨he, hw⟩ => by subst hw; exact ⟨he, Below.refl _ _⟩))
theorem modeOf_con (G : List (Nat × List Value)) (t : Bool) (l : List LK) (hl : l.length ≤ 1048576) (txn : Int) (s : ByteArray) : Con Go.Proofs.Tryd.prog G 85 [.ro t 3 (l.map eK), .r (.int .i64 txn), .r (.string s)] [] 0 (Is (.r (.int .i64 (modeM txn s l))) [] 0) No :=
  con_of_calls (by kernel_rfl) (fun w z vs hz hr hG => by
    obtain ⟨v, r, rfl, h1, h2⟩ := hr.head
    obtain ⟨v2, r2, rfl, h3, h4⟩ := h2.head
    obtain ⟨v3, r3, rfl, h5, h6⟩ := h4.head
    obtain rfl := h3.r_inv
    obtain rfl := h5.r_inv
    obtain rfl := h6.of_nil
    obtain ⟨a, c, rfl, k, b⟩ := lks_of_ro hz h1
    exact (Go.Proofs.YteebiklebedneaaDoor.modeOf_any a l c txn s w k (by omega)).mono (fun e w' ⟨he, hw⟩ => by subst hw; exact ⟨he, Below.refl _ _⟩))
end Go.AM
/- Frames: nothing of old has turned but what S says. Of no seat. -/
namespace Go.Proofs.YteebiklebedneaaDoor
open Go.RowKit
structure Keeps (S : Nat → Prop) (w w' : World) : Prop where
  os : w'.os = w.os
  tape : w'.tape = w.tape
  output : w'.output = w.output
  size : w.heap.size ≤ w'.heap.size
  block : ∀ k, k < w.heap.size → ¬ S k → w'.heap[k]? = w.heap[k]?
theorem Keeps.refl (S : Nat → Prop) (w : World) : Keeps S w w := ⟨rfl, rfl, rfl, Nat.le_refl _, fun _ _ _ => rfl⟩
theorem Keeps.trans {S S' : Nat → Prop} {a b c : World} (h : Keeps S a b) (k : Keeps S' b c) (hS : ∀ i, i < a.heap.size → S' i → S i) : Keeps S a c :=
  ⟨k.os.trans h.os, k.tape.trans h.tape, k.output.trans h.output, Nat.le_trans h.size k.size, fun i hi hn => (k.block i (Nat.lt_of_lt_of_le hi h.size) (fun e => hn (hS i hi e))).trans (h.block i hi hn)⟩
theorem Keeps.of_below {S : Nat → Prop} {B : Nat} {w w' : World} (h : Below B w w') (hB : w.heap.size ≤ B) : Keeps S w w' := ⟨h.os, h.tape, h.output, h.size, fun i hi _ => h.block i (Nat.lt_of_lt_of_le hi hB)⟩
theorem Keeps.below {S : Nat → Prop} {B : Nat} {a w w' : World} (h : Keeps S a w) (hb : Below B w w') (hB : a.heap.size ≤ B) : Keeps S a w' :=
  ⟨hb.os.trans h.os, hb.tape.trans h.tape, hb.output.trans h.output, Nat.le_trans h.size hb.size, fun i hi hn => (hb.block i (Nat.lt_of_lt_of_le hi hB)).trans (h.block i hi hn)⟩
theorem Keeps.alloc {S : Nat → Prop} {a w : World} (h : Keeps S a w) (o : Obj) : Keeps S a (w.alloc o) := h.below ((Below.refl w.heap.size w).alloc (Nat.le_refl _) o) h.size
theorem Keeps.drew {S : Nat → Prop} {a w : World} (h : Keeps S a w) : Keeps S a w.drew := ⟨h.os, h.tape, h.output, h.size, h.block⟩
theorem Keeps.drewN {S : Nat → Prop} {a w : World} {n : Nat} (h : Keeps S a w) : Keeps S a (w.drewN n) := ⟨h.os, h.tape, h.output, h.size, h.block⟩
theorem Keeps.setCell {S : Nat → Prop} {a w : World} (h : Keeps S a w) {p : Addr} (hp : S p.block ∨ a.heap.size ≤ p.block) (u : Value) : Keeps S a (w.setCell p u) :=
  ⟨h.os, h.tape, h.output, by simpa [World.setCell] using h.size, fun i hi hn => (Below.heap_setCell _ _ _ _ (fun e => by subst e; rcases hp with hp | hp; exact hn hp; omega)).trans (h.block i hi hn)⟩
theorem Keeps.grown {S : Nat → Prop} {a w w' : World} {row : Option Nat} (h : Keeps S a w) (hg : w.grownBy w' row) (hr : ∀ k, row = some k → S k ∨ a.heap.size ≤ k) : Keeps S a w' :=
  ⟨hg.os.trans h.os, hg.tape.trans h.tape, hg.output.trans h.output, Nat.le_trans h.size hg.size, fun i hi hn => (hg.block i (Nat.lt_of_lt_of_le hi h.size) (fun e => by rcases hr i e.symm with hr | hr; exact hn hr; omega)).trans (h.block i hi hn)⟩
theorem Keeps.toBelow {S : Nat → Prop} {B : Nat} {w w' : World} (h : Keeps S w w') (hS : ∀ k, S k → B ≤ k) (hB : B ≤ w.heap.size) : Below B w w' :=
  ⟨h.os, h.tape, h.output, h.size, fun k hk => h.block k (by omega) (fun e => by have := hS k e; omega)⟩
theorem Keeps.mono {S S' : Nat → Prop} {w w' : World} (h : Keeps S w w') (hS : ∀ i, i < w.heap.size → S i → S' i) : Keeps S' w w' := ⟨h.os, h.tape, h.output, h.size, fun k hk hn => h.block k hk (fun e => hn (hS k hk e))⟩
theorem Keeps.cell {S : Nat → Prop} {w w' : World} (h : Keeps S w w') {p : Addr} (hp : p.block < w.heap.size) (hn : ¬ S p.block) : w'.cell? p = w.cell? p := World.cell?_of_block (w := w) (h.block _ hp hn)
theorem Keeps.frozen {S : Nat → Prop} {w w' : World} (h : Keeps S w w') {p : Addr} (hp : p.block < w.heap.size) (hn : ¬ S p.block) : w'.frozen? p = w.frozen? p := World.frozen?_of_block (w := w) (h.block _ hp hn)
theorem Keeps.own {S : Nat → Prop} {w w' : World} (h : Keeps S w w') {base size n : Nat} {e : TypeId} {v : Value} {xs : List Value} (ho : w.ownsRow base e size v n xs) (hn : ∀ g, v.ownBlock = some g → ¬ S g) : w'.ownsRow base e size v n xs := by
  refine ⟨ho.1, ?_⟩
  rcases ho.2 with h0 | ⟨g, cap, cur, rfl, hg, hh, r⟩
  · exact .inl h0
  · exact .inr ⟨g, cap, cur, rfl, hg, (h.block g (Array.getElem?_eq_some_iff.1 hh).1 (hn g rfl)).trans hh, r⟩
end Go.Proofs.YteebiklebedneaaDoor
/- Own rows of locks: stores, pops; having a lock, as lists. -/
namespace Go.Proofs.YteebiklebedneaaDoor
open Go.RowKit Go.Joins
theorem flat_set : ∀ (l : List LK) (k : Nat) (y : LK) (m : Int), l[k]? = some y → flat (l.set k ⟨y.t, y.s, m⟩) = (flat l).set (k * 3 + 2) (.int .i64 m)
  | [], k, y, m, h => by simp at h
  | x :: r, 0, y, m, h => by simp at h; subst h; rfl
  | x :: r, k + 1, y, m, h => by
    have ih := flat_set r k y m (by simpa using h)
    have e : (k + 1) * 3 + 2 = (k * 3 + 2) + 3 := by omega
    rw [e]
    show LK.cells x ++ flat (r.set k _) = (LK.cells x ++ flat r).set _ _
    rw [ih]
    rfl
theorem flat_get : ∀ (l : List LK) (j : Nat) (u : Value), (flat l)[j]? = some u → ∃ q x i, l[q]? = some x ∧ (LK.cells x)[i]? = some u ∧ j = q * 3 + i
  | [], j, u, h => by simp [flat] at h
  | x :: r, 0, u, h => ⟨0, x, 0, rfl, h, rfl⟩
  | x :: r, 1, u, h => ⟨0, x, 1, rfl, h, rfl⟩
  | x :: r, 2, u, h => ⟨0, x, 2, rfl, h, rfl⟩
  | x :: r, j + 3, u, h => by
    obtain ⟨q, y, i, h1, h2, h3⟩ := flat_get r j u h
    exact ⟨q + 1, y, i, h1, h2, by omega⟩
theorem flat_one (l : List LK) : ∀ u ∈ flat l, u.oneCell' = true := by
  intro u hu
  obtain ⟨x, _, hx⟩ := List.mem_flatMap.1 hu
  simp [LK.cells] at hx
  rcases hx with rfl | rfl | rfl <;> rfl
theorem flat_snoc (l : List LK) (x : LK) : flat (l ++ [x]) = flat l ++ [.int .i64 x.t, .string x.s, .int .i64 x.m] := by simp [flat, LK.cells]
/-- A lock is had: its mode is written, or it stands behind. -/
def haveM (x : LK) : List LK → List LK
  | [] => [x]
  | y :: r => if isK x.t x.s y = true then ⟨y.t, y.s, x.m⟩ :: r else y :: haveM x r
theorem haveM_at (x : LK) : ∀ (l : List LK) (k0 : Nat),
    (idxF (isK x.t x.s) l k0 = -1 ∧ haveM x l = l ++ [x] ∧ l.any (isK x.t x.s) = false) ∨ ∃ (j : Nat) (y : LK), idxF (isK x.t x.s) l k0 = ((k0 + j : Nat) : Int) ∧ l[j]? = some y ∧ isK x.t x.s y = true ∧ (∀ i z, i < j → l[i]? = some z → isK x.t x.s z = false) ∧ haveM x l = l.set j ⟨y.t, y.s, x.m⟩
  | [], k0 => .inl ⟨rfl, rfl, rfl⟩
  | y :: r, k0 => by
    by_cases e : isK x.t x.s y = true
    · exact .inr ⟨0, y, by rw [idxF, if_pos e]; rfl, rfl, e, fun i z hi => absurd hi (Nat.not_lt_zero _), by rw [haveM, if_pos e]; rfl⟩
    · have e' : isK x.t x.s y = false := by simpa using e
      have ec : ((k0 : Int) + 1) = ((k0 + 1 : Nat) : Int) := by omega
      rcases haveM_at x r (k0 + 1) with ⟨h1, h2, h3⟩ | ⟨j, z, h1, h2, h3, h4, h5⟩
      · exact .inl ⟨by rw [idxF, if_neg e, ec, h1], by rw [haveM, if_neg e, h2]; rfl, by simp [e', h3]⟩
      · refine .inr ⟨j + 1, z, by rw [idxF, if_neg e, ec, h1]; omega, h2, h3, ?_, by rw [haveM, if_neg e, h5]; rfl⟩
        intro i u hi hu
        cases i with
        | zero => simp at hu; subst hu; exact e'
        | succ i => exact h4 i u (by omega) (by simpa using hu)
theorem haveM_find (x : LK) (l : List LK) :
    (findM x.t x.s l = -1 ∧ haveM x l = l ++ [x] ∧ l.any (isK x.t x.s) = false) ∨ ∃ (j : Nat) (y : LK), findM x.t x.s l = (j : Int) ∧ l[j]? = some y ∧ isK x.t x.s y = true ∧ (∀ i z, i < j → l[i]? = some z → isK x.t x.s z = false) ∧ haveM x l = l.set j ⟨y.t, y.s, x.m⟩ := by
  simpa [findM] using haveM_at x l 0
theorem haveM_len (x : LK) : ∀ l : List LK, l.length ≤ (haveM x l).length ∧ (haveM x l).length ≤ l.length + 1
  | [] => by simp [haveM]
  | y :: r => by
    have := haveM_len x r
    unfold haveM
    split <;> simp <;> omega
/-- Two rows of the call's own. -/
def OwnPair (w : World) (B : Nat) (v1 v2 : Value) (l1 l2 : List LK) : Prop :=
  w.ownsRow B 82 3 v1 l1.length (flat l1) ∧ w.ownsRow B 82 3 v2 l2.length (flat l2) ∧ ∀ g, v1.ownBlock = some g → v2.ownBlock ≠ some g
theorem OwnPair.keeps {S : Nat → Prop} {w w' : World} {B : Nat} {v1 v2 : Value} {l1 l2 : List LK} (h : OwnPair w B v1 v2 l1 l2) (k : Keeps S w w') (h1 : ∀ g, v1.ownBlock = some g → ¬ S g) (h2 : ∀ g, v2.ownBlock = some g → ¬ S g) : OwnPair w' B v1 v2 l1 l2 :=
  ⟨k.own h.1 h1, k.own h.2.1 h2, h.2.2⟩
theorem OwnPair.below {w w' : World} {B C : Nat} {v1 v2 : Value} {l1 l2 : List LK} (h : OwnPair w B v1 v2 l1 l2) (k : Below C w w') (hC : w.heap.size ≤ C) : OwnPair w' B v1 v2 l1 l2 :=
  h.keeps (Keeps.of_below (S := fun _ => False) k hC) (fun _ _ => id) (fun _ _ => id)
theorem own_below {w w' : World} {base size n C : Nat} {e : TypeId} {v : Value} {xs : List Value} (h : w.ownsRow base e size v n xs) (k : Below C w w') (hC : w.heap.size ≤ C) : w'.ownsRow base e size v n xs :=
  (Keeps.of_below (S := fun _ => False) k hC).own h (fun _ _ => id)
/-- A row of the call's own that is stored into. -/
theorem own_mode {w : World} {B g cap k : Nat} {l : List LK} {y : LK} (m : Int) (h : w.ownsRow B 82 3 (.slice (some ⟨g, 0, none⟩) l.length cap) l.length (flat l)) (hy : l[k]? = some y) :
    (w.setCell ⟨g, k * 3 + 2, none⟩ (.int .i64 m)).ownsRow B 82 3 (.slice (some ⟨g, 0, none⟩) l.length cap) l.length (flat (l.set k ⟨y.t, y.s, m⟩)) := by
  rw [flat_set l k y m hy]
  exact (h.stored _ _).1
end Go.Proofs.YteebiklebedneaaDoor
/- The program's own memory: slices.Clone over locks, own, have. -/
namespace Go.Proofs.YteebiklebedneaaDoor
open Go.RowKit Go.Joins
theorem news_flat {w : World} {b o : Nat} {l : List LK} (hc : ∀ j x, l[j]? = some x → ∀ i v, (LK.cells x)[i]? = some v → w.cell? ⟨b, o + j * 3 + i, none⟩ = some v) : ∀ j u, (flat l)[j]? = some u → w.cell? ((⟨b, o, none⟩ : Addr).add j) = some u := by
  intro j u hj
  obtain ⟨q, x, i, h1, h2, rfl⟩ := flat_get l j u hj
  rw [add_none _ _ rfl]
  have := hc q x h1 i u h2
  rwa [Nat.add_assoc] at this
set_option maxRecDepth 100000 in
set_option maxHeartbeats 1000000 in
theorem clone_any (a : Option Addr) (l : List LK) (cap : Nat) (w : World) (hl : LksAt w a l) (hn : l.length ≤ 2097152) :
    Calls Tryd.prog 82 #[.slice a l.length cap] w fun e w' => (∃ v, e = .returned v ∧ w'.ownsRow w.heap.size 82 3 v l.length (flat l)) ∧ Below w.heap.size w w' := by
  obtain ⟨i0, hi0, hz0, hz1, hz2⟩ := info_parts infoLock
  have heq := fun (w : World) a n c => Lib.run_eql_slice_nil (P := Tryd.prog) w 39 82 a n c 0 0 Tryd.underlying39
  cases a with
  | none =>
    have : l = [] := by
      rcases hl with h | ⟨b, o, h, _⟩
      · exact h
      · cases h
    subst this
    go_enter Tryd.func82, Tryd.ntmps82
    go_wp2
    go_ret
    exact ⟨⟨_, rfl, World.ownsRow_nil _ _ _ _⟩, Below.refl _ _⟩
  | some ad =>
    have HN : Hid (∀ y, ∀ j u, (flat l)[j]? = some u → (w.alloc y).cell? (ad.add j) = some u) := by
      intro y
      rcases hl with rfl | ⟨b, o, h, hb, hc⟩
      · intro j u h; simp [flat] at h
      · obtain rfl : ad = ⟨b, o, none⟩ := by simpa using h
        exact news_flat (fun j x hj i v hi => ((Joins.below_alloc1 w y).cell (p := ⟨b, _, none⟩) hb).trans (hc j x hj i v hi))
    clear hl
    go_enter Tryd.func82, Tryd.ntmps82
    go_wp2_with (at_builtin; refine wpList_append_own _ rfl (.tmp 5) (.tmp 6) 39 rfl w.heap.size 82 i0 _ 3 32 Tryd.underlying39 hi0 hz0 hz1 hz2 rfl (by decide) (.slice (some ⟨w.heap.size, 0, none⟩) 0 0) 0 [] rfl (World.ownsRow_made w #[] 0 (Nat.le_refl _) (Nat.zero_le _) rfl) ad l.length cap (flat l) rfl (flat_len l) (HN.out _) (flat_one l) ?m1 ?m2 ?m3 ?_)
    case m1 => unfold maxLen; omega
    case m2 => omega
    case m3 => simp
    intro v' w' own grow _
    have O := Lib.hid own
    have G := Lib.hid grow
    clear own grow
    go_wp2
    go_ret
    refine ⟨⟨_, rfl, ?_⟩, ?_⟩
    · exact O.out
    · exact (Joins.below_alloc1 w _).grown G.out (by simp) (fun k hk => by simp [Value.ownBlock] at hk; omega)
set_option maxRecDepth 100000 in
set_option maxHeartbeats 1000000 in
theorem own_any (a1 a2 : Option Addr) (l1 l2 : List LK) (p1 p2 : Nat) (w : World) (h1 : LksAt w a1 l1) (h2 : LksAt w a2 l2) (n1 : l1.length ≤ 2097152) (n2 : l2.length ≤ 2097152) :
    Calls Tryd.prog 47 #[.agg #[.slice a1 l1.length p1, .slice a2 l2.length p2]] w fun e w' => (∃ v1 v2, e = .returned (.agg #[v1, v2]) ∧ OwnPair w' w.heap.size v1 v2 l1 l2) ∧ Below w.heap.size w w' := by
  have H1 := Lib.hid h1
  have H2 := Lib.hid h2
  have B2 : Hid (∀ x y, Below w.heap.size w ((w.alloc x).alloc y)) := fun x y => Joins.below_alloc2 w x y
  clear h1 h2
  go_enter Tryd.func47, Tryd.ntmps47
  go_wp2
  have k0 : ((w.alloc (.cells #[.slice a1 l1.length p1, .slice a2 l2.length p2] 41)).alloc (.cells #[.slice none 0 0, .slice none 0 0] 41)).cell? ⟨w.heap.size, 0, none⟩ = some (.slice a1 l1.length p1) := by simp
  have k1 : ((w.alloc (.cells #[.slice a1 l1.length p1, .slice a2 l2.length p2] 41)).alloc (.cells #[.slice none 0 0, .slice none 0 0] 41)).cell? ⟨w.heap.size, 1, none⟩ = some (.slice a2 l2.length p2) := by simp
  have R0 : Hid (((w.alloc (.cells #[.slice a1 l1.length p1, .slice a2 l2.length p2] 41)).alloc (.cells #[.slice none 0 0, .slice none 0 0] 41)).heap[w.heap.size + 1]? = some (.cells #[.slice none 0 0, .slice none 0 0] 41 (0, 0))) := Lib.hid (new_at _ _ _ (by simp))
  have zW : w.heap.size + 1 < ((w.alloc (.cells #[.slice a1 l1.length p1, .slice a2 l2.length p2] 41)).alloc (.cells #[.slice none 0 0, .slice none 0 0] 41)).heap.size := by simp
  have bW := B2.out (.cells #[.slice a1 l1.length p1, .slice a2 l2.length p2] 41) (.cells #[.slice none 0 0, .slice none 0 0] 41)
  generalize hW : ((w.alloc (.cells #[.slice a1 l1.length p1, .slice a2 l2.length p2] 41)).alloc (.cells #[.slice none 0 0, .slice none 0 0] 41)) = W at k0 k1 R0 zW bW ⊢
  clear hW
  have L1 := Lib.hid (H1.out.below bW.drew (Nat.le_refl _))
  have bW' := Lib.hid bW
  clear bW
  refine wp_cut (fun w' : World => w'.cell? ⟨w.heap.size, 0, none⟩ = some (.slice a1 l1.length p1) ∧ w'.cell? ⟨w.heap.size, 1, none⟩ = some (.slice a2 l2.length p2)) 6 (by kernel_rfl) (by kernel_rfl) (fun inv => ?_)
  ((refine anyT_take (i := 0) (v := ?_) rfl (by kernel_rfl) (by kernel_rfl) (by kernel_rfl) (fun _ _ _ h => h) (Or.inl ⟨by rfl, ?_⟩) ⟨k0, k1⟩ inv (fun inv => ?_); rotate_left; (· (intro w hSw; (try dsimp only at hSw); go_simp; with_reducible rfl)); (try simp only [Act.put, List.getElem_toArray, List.getElem_cons_zero, List.getElem_cons_succ, List.setIfInBounds_toArray, List.set_cons_zero, List.set_cons_succ])); (refine anyT_take (i := 1) (v := ?_) rfl (by kernel_rfl) (by kernel_rfl) (by kernel_rfl) (fun _ _ _ h => h) (Or.inl ⟨by rfl, ?_⟩) ⟨k0, k1⟩ inv (fun inv => ?_); rotate_left; (· (intro w hSw; (try dsimp only at hSw); go_simp; with_reducible rfl)); (try simp only [Act.put, List.getElem_toArray, List.getElem_cons_zero, List.getElem_cons_succ, List.setIfInBounds_toArray, List.set_cons_zero, List.set_cons_succ])); (refine anyT_take (i := 3) (v := ?_) rfl (by kernel_rfl) (by kernel_rfl) (by kernel_rfl) (fun _ _ _ h => h) (Or.inl ⟨by rfl, ?_⟩) ⟨k0, k1⟩ inv (fun inv => ?_); rotate_left; (· (intro w hSw; (try dsimp only at hSw); go_simp; with_reducible rfl)); (try simp only [Act.put, List.getElem_toArray, List.getElem_cons_zero, List.getElem_cons_succ, List.setIfInBounds_toArray, List.set_cons_zero, List.set_cons_succ])); (refine anyT_take (i := 4) (v := ?_) rfl (by kernel_rfl) (by kernel_rfl) (by kernel_rfl) (fun _ _ _ h => h) (Or.inl ⟨by rfl, ?_⟩) ⟨k0, k1⟩ inv (fun inv => ?_); rotate_left; (· (intro w hSw; (try dsimp only at hSw); go_simp; with_reducible rfl)); (try simp only [Act.put, List.getElem_toArray, List.getElem_cons_zero, List.getElem_cons_succ, List.setIfInBounds_toArray, List.set_cons_zero, List.set_cons_succ])))
  (refine anyT_step (i := 2) rfl (by kernel_rfl) (by decide) inv (fun K hK => ?_); go_simp; go_at_call 82; refine (clone_any a1 l1 p1 _ L1.out n1).mono ?_; rintro e w1 ⟨⟨v1, rfl, own1⟩, hbw1⟩; have hz := hbw1.size; (try simp only [World.size_alloc, World.size_setCell, World.size_drew, size_drewN] at hz); (refine hK _ _ ⟨cell_later hbw1 k0, cell_later hbw1 k1⟩ (fun inv => ?_); clear hK K; (try simp only [Act.put, List.getElem_toArray, List.getElem_cons_zero, List.getElem_cons_succ, List.setIfInBounds_toArray, List.set_cons_zero, List.set_cons_succ])))
  have k0 := cell_later hbw1 k0
  have k1 := cell_later hbw1 k1
  have L2 := Lib.hid (H2.out.below (show Below w.heap.size w w1 by have bW := bW'.out; (repeat' (first | (with_reducible exact Below.refl _ _) | (with_reducible assumption) | (with_reducible refine Below.alloc ?_ ?_ _) | (with_reducible refine Below.drew ?_) | (with_reducible refine below_drewN ?_) | (with_reducible refine Below.setCell ?_ ?_ _) | (with_reducible refine below_step ?_ ?_ (by with_reducible assumption)) | go_size))) (Nat.le_refl _))
  have O1 := Lib.hid own1
  clear own1
  (refine anyT_step (i := 5) rfl (by kernel_rfl) (by decide) inv (fun K hK => ?_); go_simp; go_at_call 82; refine (clone_any a2 l2 p2 _ L2.out n2).mono ?_; rintro e w2 ⟨⟨v2, rfl, own2⟩, hbw2⟩; have hz := hbw2.size; (try simp only [World.size_alloc, World.size_setCell, World.size_drew, size_drewN] at hz); (refine hK _ _ ⟨cell_later hbw2 k0, cell_later hbw2 k1⟩ (fun inv => ?_); clear hK K; (try simp only [Act.put, List.getElem_toArray, List.getElem_cons_zero, List.getElem_cons_succ, List.setIfInBounds_toArray, List.set_cons_zero, List.set_cons_succ])))
  have O2 := Lib.hid own2
  clear own2
  (refine anyT_end (by kernel_rfl) ?_; simp only [List.drop_succ_cons, List.drop_zero])
  have r2 : w2.heap[w.heap.size + 1]? = some (.cells #[.slice none 0 0, .slice none 0 0] 41 (0, 0)) := (hbw2.block _ (by have := hbw1.size; simp at this; omega)).trans ((hbw1.block _ (by simp; omega)).trans R0.out)
  have c0 := Joins.cell_of_block r2 0
  have c1 := Joins.cell_of_block r2 1
  have g0 := Joins.unfrozen_of_block r2 0
  have g1 := Joins.unfrozen_of_block r2 1
  simp at c0 c1
  have hz1 := hbw1.size
  have hz2 := hbw2.size
  simp at hz1
  have bW2 : Below w.heap.size w w2 := by have bW := bW'.out; (repeat' (first | (with_reducible exact Below.refl _ _) | (with_reducible assumption) | (with_reducible refine Below.alloc ?_ ?_ _) | (with_reducible refine Below.drew ?_) | (with_reducible refine below_drewN ?_) | (with_reducible refine Below.setCell ?_ ?_ _) | (with_reducible refine below_step ?_ ?_ (by with_reducible assumption)) | go_size))
  have BB := Lib.hid bW2
  have P : Hid (OwnPair w2 w.heap.size v1 v2 l1 l2) := by
    refine Lib.hid ⟨ownsRow_le (own_below O1.out hbw2 (Nat.le_refl _)) (by simp; omega), ownsRow_le O2.out (by omega), fun g h1 h2 => ?_⟩
    have q1 := (own_lt O1.out h1).2
    have q2 := (own_lt O2.out h2).1
    omega
  have D1 : Hid (v1.ownBlock ≠ some (w.heap.size + 1)) := Lib.hid (fun h => by have := (own_lt O1.out h).1; simp at this; omega)
  have D2 : Hid (v2.ownBlock ≠ some (w.heap.size + 1)) := Lib.hid (fun h => by have := (own_lt O2.out h).1; omega)
  clear hbw1 hbw2 r2 bW2 hz k0 k1 zW hz1 hz2
  obtain ⟨-, x1, d1, rfl, -, -, le1⟩ := lks_of_owns P.out.1
  obtain ⟨-, x2, d2, rfl, -, -, le2⟩ := lks_of_owns P.out.2.1
  go_wp2
  ((try simp only [Exit.inBlock, Exit.then]); go_light; refine bodyPost_ret (by simp [results, Tryd.results47, go_sem, *]; try rfl) rfl ?_)
  refine ⟨⟨_, _, rfl, ?_⟩, ?_⟩
  · exact ⟨ownsRow_setCell_other (ownsRow_setCell_other P.out.1 D1.out _) D1.out _, ownsRow_setCell_other (ownsRow_setCell_other P.out.2.1 D2.out _) D2.out _, P.out.2.2⟩
  · exact (BB.out.setCell (p := ⟨w.heap.size + 1, 0, none⟩) (by simp) _).setCell (p := ⟨w.heap.size + 1, 1, none⟩) (by simp) _
end Go.Proofs.YteebiklebedneaaDoor
/- The abstract machine: contracts of old walks that give back an own row; locks cloned. -/
namespace Go.AM
open Go Go.RowKit
open Go.Proofs.YteebiklebedneaaDoor (LK flat flat_len flat_at flat_one)
attribute [local irreducible] AWP retA
/-- A contract of the old form: an own row; what was there is as it was. -/
theorem con_of_owns {P : Program} {f : Nat} {G : List (Nat × List Value)} {xs : List AV} {T : TypeId} {k : Nat} {els : List (List AV)} {fl : List Value} (hok : okFn P f = true)
    (hel : ∀ (i : Nat) e, els[i]? = some e → e.length = k ∧ ∀ (j : Nat) x, e[j]? = some x → ∃ u, x = .r u ∧ fl[i * k + j]? = some u ∧ u.oneCell' = true)
    (h : ∀ (w : World) (z : Zone) (vs : List Value), (∀ t b, z t b → b < w.heap.size) → Reps w z [] xs vs → Globs G w → Calls P f vs.toArray w (fun e w' => (∃ v, e = .returned v ∧ w'.ownsRow w.heap.size T k v els.length fl) ∧ Below w.heap.size w w')) :
    Con P G f xs [] 0 (Is (.s 0 0 els.length) [(0, .lst T k els)] 1) No := by
  refine ⟨hok, fun w th z own vs ho hm hr => ?_⟩
  have hth : th = [] := List.length_eq_zero_iff.1 hm.len
  subst hth
  refine (h w z vs hm.zlt hr (fun g cs hg => ⟨hm.zlt _ _ (hm.globs g cs hg).1, (hm.globs g cs hg).2⟩)).mono ?_
  rintro e w' ⟨⟨v, rfl, row⟩, hb⟩
  have mk : ∀ L : NLoc, NdAt w' z [L] L (.lst T k els) → (L.ph = false → L.b < w'.heap.size ∧ w.heap.size ≤ L.b) → Mem ⟨w, own, z, G, []⟩ [(0, .lst T k els)] 1 [L] z w' := by
    intro L hn hL
    refine ⟨rfl, fun i nd hi => ?_, fun i j x y A B hi hj _ _ _ _ _ => ?_, fun t b hz => Nat.lt_of_lt_of_le (hm.zlt t b hz) hb.size, hb.size, fun b hlt _ => hb.block b hlt, fun t b h => h, fun b h => .inl h, fun b h => h, ?_, fun i L hi => by simp at hi, ⟨hb.os, hb.tape, hb.output⟩⟩
    · simp only [lk] at hi
      split at hi
      · rename_i q; subst q; cases hi
        exact ⟨L, rfl, hn, fun hp => ⟨(hL hp).1, fun t hz => by have := hm.zlt t L.b hz; have h2 := (hL hp).2; exact absurd this (by omega), .inr (hL hp).2⟩⟩
      · cases hi
    · simp only [lk] at hi hj
      split at hi
      · split at hj
        · omega
        · cases hj
      · cases hi
    · intro g cs hg
      obtain ⟨h1, h2⟩ := hm.globs g cs hg
      exact ⟨h1, fun j u hu => (cell_heap (hb.block g (hm.zlt _ _ h1)) j).trans (h2 j u hu)⟩
  rcases row.2 with ⟨rfl, h0⟩ | ⟨g, cap, cur, rfl, hB, hh, hn', hc, hs, ht⟩
  · have he : els = [] := List.length_eq_zero_iff.1 h0
    subst he
    exact ⟨_, .s 0 0 0, _, 1, [⟨0, 0, 0, 0, true⟩], z, .inl ⟨rfl, rfl, rfl, rfl⟩, mk _ (.inl ⟨rfl, rfl⟩) (fun hp => by cases hp), .sn _ 0 0 _ rfl rfl⟩
  · have hg : g < w'.heap.size := (Array.getElem?_eq_some_iff.1 hh).1
    refine ⟨_, .s 0 0 els.length, _, 1, [⟨g, 0, k, cap, false⟩], z, .inl ⟨rfl, rfl, rfl, rfl⟩, mk _ (.inr ⟨rfl, cur, (0, 0), hh, fun i hi h => by simp only at h; omega, rfl, by simp [hs], hn', fun i e he => ?_⟩) (fun _ => ⟨hg, hB⟩), .s _ 0 0 _ cap 0 ⟨g, 0, k, cap, false⟩ rfl rfl hn' (by simp) (fun _ => by simp)⟩
    obtain ⟨q1, q2⟩ := hel i e he
    refine ⟨q1, fun j x hj => ?_⟩
    obtain ⟨u, rfl, q3, q4⟩ := q2 j x hj
    refine ⟨u, ?_, .r _ _, q4⟩
    have hjk : j < k := by rw [← q1]; exact (List.getElem?_eq_some_iff.1 hj).1
    have hi : i < els.length := (List.getElem?_eq_some_iff.1 he).1
    have hlt : i * k + j < els.length * k := by
      have : (i + 1) * k ≤ els.length * k := Nat.mul_le_mul_right _ hi
      rw [Nat.add_mul] at this; omega
    rw [← ht, List.getElem?_take_of_lt hlt, Array.getElem?_toList] at q3
    simpa using q3
theorem flat_els (l : List LK) : ∀ (i : Nat) e, (l.map eK)[i]? = some e → e.length = 3 ∧ ∀ (j : Nat) x, e[j]? = some x → ∃ u, x = .r u ∧ (flat l)[i * 3 + j]? = some u ∧ u.oneCell' = true := by
  intro i e he
  rw [List.getElem?_map] at he
  obtain ⟨y, hy, rfl⟩ := Option.map_eq_some_iff.1 he
  refine ⟨rfl, fun j x hj => ?_⟩
  rw [show eK y = (LK.cells y).map .r from rfl, List.getElem?_map] at hj
  obtain ⟨u, hu, rfl⟩ := Option.map_eq_some_iff.1 hj
  exact ⟨u, rfl, flat_at l i y hy j u hu, flat_one l u (List.mem_of_getElem? (flat_at l i y hy j u hu))⟩
theorem cloneK_con (G : List (Nat × List Value)) (t : Bool) (l : List LK) (hl : l.length ≤ 1048576) : Con Go.Proofs.Tryd.prog G 82 [.ro t 3 (l.map eK)] [] 0 (Is (.s 0 0 l.length) [(0, .lst 82 3 (l.map eK))] 1) No := by
  have := con_of_owns (P := Go.Proofs.Tryd.prog) (f := 82) (G := G) (xs := [.ro t 3 (l.map eK)]) (T := 82) (k := 3) (els := l.map eK) (fl := flat l) (by kernel_rfl) (flat_els l) (fun w z vs hz hr hG => by
    obtain ⟨v, r, rfl, h1, h2⟩ := hr.head
    obtain rfl := h2.of_nil
    obtain ⟨a, c, rfl, k, b⟩ := lks_of_ro hz h1
    rw [List.length_map]
    exact Go.Proofs.YteebiklebedneaaDoor.clone_any a l c w k (by omega))
  rw [List.length_map] at this
  exact this
set_option maxRecDepth 100000 in
theorem own_con (G : List (Nat × List Value)) (t1 t2 : Bool) (l1 l2 : List LK) (n1 : l1.length ≤ 1048576) (n2 : l2.length ≤ 1048576) : Con Go.Proofs.Tryd.prog G 47 [.agg [.ro t1 3 (l1.map eK), .ro t2 3 (l2.map eK)]] [] 0
    (Is (.agg [.s 0 0 l1.length, .s 1 0 l2.length]) [(0, .lst 82 3 (l1.map eK)), (1, .lst 82 3 (l2.map eK))] 2) No := by
  have c1 := cloneK_con G t1 l1 n1
  have c2 := cloneK_con G t2 l2 n2
  refine con_of_awp Go.Proofs.Tryd.func47 rfl (by kernel_rfl) (of_decide_eq_true (by kernel_rfl)) ?_; intro E hG hE; subst hG; simp only [ent]
  (repeat' (first | refine awp_seq ?_ | refine awp_block ?_ | refine awp_skip ?_ | refine awp_exit ?_ | ((first | refine rR (fun K kp hK hkp => ?_) | refine rD (id := 1) mixed 7 [0,1,3,4,2,5,6] (fun K kp hK hkp => ?_) | refine cR c1 ?_ | refine cD c1 ?_ | refine cR c2 ?_ | refine cD c2 ?_ | refine iG ?_ | refine iD ?_); simp (implicitDefEqProofs := false) (maxSteps := 2000000) (disch := omega) only [go_sem, eK]; (repeat' (first | (refine hK _ ?_; clear hK hkp kp K) | (with_reducible refine And.intro ?_ ?_) | omega))) | ((first | refine aG (fun h => ?_) (fun h => ?_) | refine aD (fun h => ?_) (fun h => ?_) | refine aX (fun h => ?_) (fun h => ?_)) <;> simp only [h]) | refine awp_cond_t rfl ?_ | refine awp_cond_f rfl ?_ | ((refine awp_cond rfl (fun h => ?_) (fun h => ?_) <;> try simp only [ifs] at h) <;> (try (exfalso; omega))) | refine awp_ret ?_))
  (refine retA_is (by (simp (implicitDefEqProofs := false) (maxSteps := 2000000) (disch := omega) only [go_sem, Go.Proofs.Tryd.results47]); rfl) ?_; refine (embV [2, 3] ?_ ?_ ?_ ?_ ?_ ?_).s <;> simp [oneA, okO, lk, ren, renL, renNd, by_, hE] <;> (try (intro i hi; first | (rcases (by omega : i = 0 ∨ i = 1 ∨ i = 2) with rfl | rfl | rfl <;> rfl) | (rcases (by omega : i = 0 ∨ i = 1) with rfl | rfl <;> rfl))))
end Go.AM
/- Locks: slices.Delete of one lock. -/
namespace Go.Proofs.YteebiklebedneaaDoor
open Go.RowKit Go.Lib
theorem zeroLock (w : World) : (zeroValue 82).run Tryd.prog w = .ok (.agg #[.int .i64 0, .string ⟨#[]⟩, .int .i64 0]) w := Tryd.zeroValue82 w
theorem isSome_setCells' (b : Nat) : ∀ (vs : List Value) (o : Nat) (w : World) (q : Addr), (w.cell? q).isSome = true → ((w.setCells b o vs).cell? q).isSome = true := isSome_setCells b
def zeroL : List Value := [.int .i64 0, .string ⟨#[]⟩, .int .i64 0]
set_option maxHeartbeats 4000000 in
set_option maxRecDepth 1000000 in
theorem delete_any (b off c i j : Nat) (hij : j = i + 1) (l : List LK) (w : World) (hH : ∀ (j : Nat) x, l[j]? = some x → ∀ (q : Nat) v, (LK.cells x)[q]? = some v → w.cell? ⟨b, off + j * 3 + q, none⟩ = some v ∧ w.frozen? ⟨b, off + j * 3 + q, none⟩ = false) (hn : l.length ≤ 1048576) (hcap : l.length ≤ c) (hi : i < l.length) :
    Calls Tryd.prog 50 #[.slice (some ⟨b, off, none⟩) l.length c, .int .i64 i, .int .i64 j] w fun e w' => e = .returned (.slice (some ⟨b, off, none⟩) (l.length - 1) c) ∧
      w' = (w.drew.setCells b (off + i * 3) (flat (l.drop (i + 1)))).setCells b (off + (l.length - 1) * 3) zeroL := by
  obtain ⟨news, hnews⟩ : ∃ news, news = flat (l.drop (i + 1)) := ⟨_, rfl⟩
  have hlen : news.length = (l.length - (i + 1)) * 3 := by rw [hnews, flat_len]; simp
  have hget : ∀ t u, news[t]? = some u → w.cell? ⟨b, off + (i + 1) * 3 + t, none⟩ = some u := by
    intro t u hu
    rw [hnews] at hu
    obtain ⟨q, x, k, h1, h2, rfl⟩ := flat_get _ _ _ hu
    rw [List.getElem?_drop] at h1
    have := (hH _ x h1 k u h2).1
    rw [← this]; congr 2; omega
  obtain ⟨A, hA, hsrc⟩ : ∃ A : Addr, (if c = j then some (⟨b, off, none⟩ : Addr) else some ⟨b, off + j * 3, none⟩) = some A ∧ Hid (∀ t u, news[t]? = some u → w.drew.cell? (A.add t) = some u) := by
    subst hij
    by_cases h : c = i + 1
    · refine ⟨⟨b, off, none⟩, by simp [h], fun t u hu => ?_⟩
      have h0 : news.length = 0 := by rw [hlen]; omega
      rw [List.length_eq_zero_iff.1 h0] at hu
      simp at hu
    · refine ⟨⟨b, off + (i + 1) * 3, none⟩, by simp [h], fun t u hu => ?_⟩
      rw [Addr.add_lit]
      exact hget t u hu
  have s1 : Hid (news.length = (l.length - j) * 3) := Lib.hid (by rw [hij]; exact hlen)
  have s2 : Hid (∀ u ∈ news, u.oneCell' = true) := Lib.hid (by rw [hnews]; exact flat_one _)
  have hold : ∀ m, m < l.length * 3 → (w.cell? ⟨b, off + m, none⟩).isSome = true ∧ w.frozen? ⟨b, off + m, none⟩ = false := by
    intro m hm
    obtain ⟨x, hx⟩ : ∃ x, l[m / 3]? = some x := ⟨l[m / 3]'(by omega), by simp⟩
    obtain ⟨v, hv⟩ : ∃ v, (LK.cells x)[m % 3]? = some v := by
      have : m % 3 < (LK.cells x).length := by show m % 3 < 3; omega
      exact ⟨_, List.getElem?_eq_getElem this⟩
    have := hH _ x hx _ v hv
    rw [show off + m / 3 * 3 + m % 3 = off + m by omega] at this
    exact ⟨by rw [this.1]; rfl, this.2⟩
  have s3 : Hid (∀ t, t < news.length → (w.drew.cell? ⟨b, off + i * 3 + t, none⟩).isSome = true ∧ w.drew.frozen? ⟨b, off + i * 3 + t, none⟩ = false) := Lib.hid (fun t ht => by
    rw [hlen] at ht
    have := hold (i * 3 + t) (by omega)
    rw [show off + (i * 3 + t) = off + i * 3 + t by omega] at this
    exact this)
  obtain ⟨W1, hW1⟩ : ∃ W1, W1 = w.drew.setCells b (off + i * 3) news := ⟨_, rfl⟩
  have hst := run_storeCells_cells (P := Tryd.prog) b (off + (l.length - 1) * 3) zeroL 0 W1 (fun j hj => by
    have h3 : j < 3 := hj
    rw [hW1]
    refine isSome_setCells' b news _ _ _ ?_
    have := (hold ((l.length - 1) * 3 + j) (by omega)).1
    rw [show off + ((l.length - 1) * 3 + j) = off + (l.length - 1) * 3 + 0 + j by omega] at this
    exact this) (fun j hj => by
    have h3 : j < 3 := hj
    rw [hW1, World.frozen?_setCells]
    have := (hold ((l.length - 1) * 3 + j) (by omega)).2
    rw [show off + ((l.length - 1) * 3 + j) = off + (l.length - 1) * 3 + 0 + j by omega] at this
    exact this) (by intro u hu; simp [zeroL] at hu; rcases hu with rfl | rfl | rfl <;> rfl)
  simp only [Nat.add_zero] at hst
  have hcl : ∀ ty, (Builtin.clear_ #[39] ty #[.slice (some ⟨b, off + (l.length - 1) * 3, none⟩) 1 (c - (l.length - 1))]).run Tryd.prog W1 = .ok (.tuple #[]) (W1.setCells b (off + (l.length - 1) * 3) zeroL) := fun ty => by
    have hz : (Builtin.zeroCells (Value.agg #[.int .i64 0, .string ⟨#[]⟩, .int .i64 0]).cells 1).toList = zeroL := by kernel_rfl
    simp [Builtin.clear_, run_underlying Tryd.underlying39, zeroLock, hz, hst]
  have hW : Hid (W1 = w.drew.setCells b (off + i * 3) news) := Lib.hid hW1
  have hic : i ≤ c := by omega
  have hjc : j ≤ c := by omega
  have mixed : Tryd.prog.follows .mixedOrders = true := by kernel_rfl
  obtain ⟨i0, hi0, hz0, hz1, hz2⟩ := info_parts infoLock
  have b1 : ((i : Int) == (j : Int)) = false := by rw [beq_eq_false_iff_ne]; omega
  have l1 : ((l.length : Int) - 1) = ((l.length - 1 : Nat) : Int) := by omega
  have x1 : i + (l.length - j) = l.length - 1 := by omega
  have x3 : (l.length - 1 : Nat) ≤ l.length := by omega
  have x4 : j ≤ l.length := by omega
  have x5 : i ≤ j := by omega
  have HN := Lib.hid hnews
  have x2 : l.length - (l.length - 1) = 1 := by omega
  clear hget hH hold hst hnews hlen hW1 hij
  go_enter Tryd.func50, Tryd.ntmps50
  go_wp2_with fail
  go_region_law_o (refine step_append_room rfl (.tmp 22) (.tmp 25) 39 rfl 82 i0 3 Tryd.underlying39 hi0 hz1 b off i c (by simp [Act.eval, Act.put]) A (l.length - j) (c - j) news (by simp [Act.eval, Act.put]) s1.out hsrc.out s2.out (by omega) s3.out ?_; rw [← hW.out])
  go_wp2
  all_goals
    go_ret
    exact ⟨rfl, by rw [hW.out, HN.out]⟩
end Go.Proofs.YteebiklebedneaaDoor
/- The abstract machine, 26: the same thing under another description: a nil slice in a box as an own list. -/
namespace Go.AM
open Go
section
variable {P : Program} {E : Env} {N : Nat} {st : AS} {th : List NLoc} {z : Zone} {a : Act} {w : World}
/-- An own thing under another description. -/
theorem Mem.say {o : List (Nat × Nd)} {n : Nat} (h : Mem E o n th z w) {i : Nat} {nd nd' : Nd} (hi : lk o i = some nd) (hn : ∀ L, th[i]? = some L → NdAt w z th L nd → NdAt w z th L nd') : Mem E ((i, nd') :: o) n th z w := by
  have key : ∀ j x, lk ((i, nd') :: o) j = some x → ∃ y, lk o j = some y := by
    intro j x hj
    simp only [lk] at hj
    split at hj
    · rename_i e; subst e; exact ⟨_, hi⟩
    · exact ⟨_, hj⟩
  refine ⟨h.len, fun j x hj => ?_, fun j k x y L M hj hk => ?_, h.zlt, h.grow, h.frame, h.zin, h.zout, h.zb, h.globs, h.pre, h.sys⟩
  · simp only [lk] at hj
    split at hj
    · rename_i e; subst e; cases hj
      obtain ⟨L, h1, h2, h3⟩ := h.nds i nd hi
      exact ⟨L, h1, hn L h1 h2, h3⟩
    · exact h.nds j x hj
  · obtain ⟨x', hj'⟩ := key j x hj
    obtain ⟨y', hk'⟩ := key k y hk
    exact h.inj j k x' y' L M hj' hk'
theorem Sim.say (h : Sim E N st th z a w) {i : Nat} {nd nd' : Nd} (hi : lk st.o i = some nd) (hn : ∀ L, th[i]? = some L → NdAt w z th L nd → NdAt w z th L nd') : Sim E N (setNd st i nd') th z a w :=
  ⟨h.mem.say hi hn, h.size, h.dfs, h.slots⟩
theorem Reps.set_at {c : List AV} {ys : List Value} (h : Reps w z th c ys) {j : Nat} {x : AV} (hx : ∀ y, ys[j]? = some y → Rep w z th x y) : Reps w z th (c.set j x) ys := by
  refine ⟨by simp [h.1], fun i u y h1 h2 => ?_⟩
  rw [List.getElem?_set] at h1
  split at h1
  · rename_i e; subst e
    split at h1
    · cases h1; exact hx y h2
    · cases h1
  · exact h.2 i u y h1 h2
/-- A nil slice in a box as an own list without elements. -/
theorem emb_nilB (n j : Nat) (T : TypeId) (k : Nat) {T' : TypeId} {c : List AV} (h : lk st.o n = some (.box T' c)) (hj : c[j]? = some (.r (.slice none 0 0))) (hne : n < st.n) :
    Emb E N st { m := st.m, o := (n, .box T' (c.set j (.s st.n 0 0))) :: (st.n, .lst T k []) :: st.o, n := st.n + 1 } := by
  intro th z a w hs
  have hk := hs.know ⟨0, 0, 0, 0, true⟩ (.lst T k []) (fun hp => by cases hp) (fun _ _ _ _ _ _ hp => by cases hp) (.inl ⟨rfl, rfl⟩)
  have hl : lk (putNd st (.lst T k [])).o n = some (.box T' c) := by simp only [putNd, lk]; rw [if_neg (by omega)]; exact h
  refine ⟨_, z, hk.say hl (fun L hL hn => ?_)⟩
  obtain ⟨hp, cells, fr, h1, h2, h3, h4⟩ := hn
  refine ⟨hp, cells, fr, h1, h2, h3, h4.set_at fun y hy => ?_⟩
  obtain ⟨y', hy', hr⟩ := h4.get hj
  rw [hy] at hy'; cases hy'
  rw [show y = .slice none 0 0 from hr.r_inv]
  exact .sn _ _ 0 _ (hs.get_new _) rfl
end
section
variable {E : Env} {N : Nat} {st : AS}
/-- The round's end by a way out of the round's block. -/
theorem nextE {ι : Type} {I : ι → AS} {ok : ι → Prop} {μ : ι → Nat} {i : ι} {AQ : AExit → AS → Prop} {id : Nat} {K : AS → Prop} (i' : ι) (h1 : ok i') (h2 : μ i' < μ i) (h3 : Emb E N st (I i')) : thenA K (blockA id (loopA E N I ok μ i AQ)) (.exit id) st := by
  show blockA id (loopA E N I ok μ i AQ) (.exit id) st
  have e : blockA id (loopA E N I ok μ i AQ) (.exit id) st = loopA E N I ok μ i AQ .normal st := by
    have hb : Nat.beq id id = true := Nat.beq_refl id
    simp only [blockA, hb]
  rw [e]
  exact ⟨i', h1, h2, h3⟩
end
end Go.AM
/- Locks: slices.IndexFunc and slices.DeleteFunc over locks. -/
namespace Go.AM
open Go Go.RowKit
open Go.Proofs.YteebiklebedneaaDoor (LK)
attribute [local irreducible] AWP retA
section
variable {P : Program} {E : Env} {N : Nat} {st : AS} {th : List NLoc} {z : Zone} {a : Act} {w : World}
theorem Mem.less {o o' : List (Nat × Nd)} {n : Nat} (h : Mem E o n th z w) (he : ∀ i x, lk o' i = some x → lk o i = some x) : Mem E o' n th z w :=
  ⟨h.len, fun i nd hi => h.nds i nd (he _ _ hi), fun i j x y L M hi hj => h.inj i j x y L M (he _ _ hi) (he _ _ hj), h.zlt, h.grow, h.frame, h.zin, h.zout, h.zb, h.globs, h.pre, h.sys⟩
theorem NdAt.cut {L : NLoc} {T : TypeId} {k : Nat} {els tail : List (List AV)} (h : NdAt w z th L (.lst T k (els ++ tail))) : NdAt w z th L (.lst T k els) := by
  rcases h with ⟨h1, h2⟩ | ⟨hp, cells, fr, h1, h2, h3, h4, h5, h6⟩
  · exact .inl ⟨h1, (List.append_eq_nil_iff.1 h2).1⟩
  · refine .inr ⟨hp, cells, fr, h1, h2, h3, h4, by simp at h5; omega, fun i e he => h6 i e ?_⟩
    rw [List.getElem?_append_left (List.getElem?_eq_some_iff.1 he).1]; exact he
/-- Of an own list that is given back less is told. -/
theorem Con.cut {G : List (Nat × List Value)} {f : Nat} {xs : List AV} {o : List (Nat × Nd)} {n m : Nat} {y : AV} {T : TypeId} {k : Nat} {els tail : List (List AV)} (hc : Con P G f xs o n (Is y [(0, .lst T k (els ++ tail))] m) No) :
    Con P G f xs o n (Is y [(0, .lst T k els)] m) No := by
  refine ⟨hc.1, fun w th z own vs ho hm hr => (hc.2 w th z own vs ho hm hr).mono ?_⟩
  rintro e w' ⟨v, u, o', n', th', z', h1, h2, h3⟩
  rcases h1 with ⟨rfl, rfl, rfl, rfl⟩ | ⟨_, h⟩
  · refine ⟨v, u, [(0, .lst T k els)], n', th', z', .inl ⟨rfl, rfl, rfl, rfl⟩, ?_, h3⟩
    refine (h2.say (i := 0) (nd' := .lst T k els) rfl (fun L hL hn => hn.cut)).less fun i x hi => ?_
    simp only [lk] at hi ⊢
    split at hi
    · rename_i q; subst q; cases hi; rfl
    · cases hi
  · exact h.elim
end
def idxK (p : LK → Bool) : List LK → Nat → Int
  | [], _ => -1
  | x :: r, k => if p x = true then (k : Int) else idxK p r (k + 1)
set_option maxRecDepth 100000 in
theorem indexFuncK_con (G : List (Nat × List Value)) (t : Bool) (l : List LK) (g : Nat) (caps : List AV) (p : LK → Bool) (hl : l.length ≤ 1048576) (hcap : ∀ st, borL st caps = some caps) (hren : ∀ f, renL f caps = caps) (hf : ∀ G x, Con Go.Proofs.Tryd.prog G g (.agg (eK x) :: caps) [] 0 (Is (.r (.bool (p x))) [] 0) No) :
    Con Go.Proofs.Tryd.prog G 60 [.ro t 3 (l.map eK), .fn g caps] [] 0 (Is (.r (.int .i64 (idxK p l 0))) [] 0) No := by
  refine con_of_awp Go.Proofs.Tryd.func60 rfl (by kernel_rfl) (of_decide_eq_true (by kernel_rfl)) ?_; intro E hG hE; subst hG; simp only [ent]
  (repeat' (first | refine awp_seq ?_ | refine awp_block ?_ | refine awp_skip ?_ | refine awp_exit ?_ | ((first | refine rR (fun K kp hK hkp => ?_) | refine iG ?_); simp (implicitDefEqProofs := false) (maxSteps := 2000000) (disch := omega) only [go_sem]; (repeat' (first | (refine hK _ ?_; clear hK hkp kp K) | (with_reducible refine And.intro ?_ ?_) | omega))) | ((first | refine aG (fun h => ?_) (fun h => ?_) | refine aD (fun h => ?_) (fun h => ?_) | refine aX (fun h => ?_) (fun h => ?_)) <;> simp only [h]) | refine awp_cond_t rfl ?_ | refine awp_cond_f rfl ?_ | ((refine awp_cond rfl (fun h => ?_) (fun h => ?_) <;> try simp only [ifs] at h) <;> (try (exfalso; omega))) | refine awp_ret ?_))
  refine awp_loop (fun k : Nat => ⟨[(8, .r (.int .i64 k)), (7, .r (.int .i64 l.length)), (0, .ro t 3 (l.map eK)), (1, .fn g caps)], [], 0⟩) (fun k => k ≤ l.length ∧ idxK p (l.drop k) k = idxK p l 0) (fun k => l.length - k) 0 ?_ ?_ ?_
  · simp
  · (refine emb [] ?_ ?_ rfl ?_ ?_ ?_ ?_ <;> simp [okM, okO, lk, ren, renL, renNd, by_, hE, hren] <;> (try omega) <;> (try (intro i hi; first | (rcases (by omega : i = 0 ∨ i = 1 ∨ i = 2) with rfl | rfl | rfl <;> rfl) | (rcases (by omega : i = 0 ∨ i = 1) with rfl | rfl <;> rfl))))
  intro k ⟨hk, hno⟩
  by_cases hk' : k < l.length
  · obtain ⟨x, hx⟩ : ∃ x, l[k]? = some x := ⟨l[k], by simp [hk']⟩
    have hd := drop_at hx
    rw [hd, idxK] at hno
    have hfx := hf E.G x
    simp only [eK] at hfx
    (repeat' (first | refine awp_seq ?_ | refine awp_block ?_ | refine awp_skip ?_ | refine awp_exit ?_ | ((first | refine rR (fun K kp hK hkp => ?_) | refine cR hfx ?_ | refine iG ?_); simp (implicitDefEqProofs := false) (maxSteps := 2000000) (disch := omega) only [go_sem, hx, eK, hcap]; (repeat' (first | (refine hK _ ?_; clear hK hkp kp K) | (with_reducible refine And.intro ?_ ?_) | omega))) | ((first | refine aG (fun h => ?_) (fun h => ?_) | refine aD (fun h => ?_) (fun h => ?_) | refine aX (fun h => ?_) (fun h => ?_)) <;> simp only [h]) | refine awp_cond_t rfl ?_ | refine awp_cond_f rfl ?_ | ((refine awp_cond rfl (fun h => ?_) (fun h => ?_) <;> try simp only [ifs] at h) <;> (try (exfalso; omega))) | refine awp_ret ?_))
    · (refine retA_is (by (simp (implicitDefEqProofs := false) (maxSteps := 2000000) (disch := omega) only [go_sem, Go.Proofs.Tryd.results60]); rfl) ?_; refine eN hE ?_; simp [oneA, ren, renL])
      rw [← hno, if_pos h]
    · ((first | (refine nextB (k + 1) ?_ ?_ ?_) | (refine nextA (k + 1) ?_ ?_ ?_) | (refine nextE (k + 1) ?_ ?_ ?_)); rotate_left; (· (try dsimp only); (first | omega | (simp only [List.length_drop, List.length_cons, List.length_append]; omega) | (simp; done) | (simp; omega))); (· (refine emb [] ?_ ?_ rfl ?_ ?_ ?_ ?_ <;> simp [okM, okO, lk, ren, renL, renNd, by_, hE, hren] <;> (try omega) <;> (try (intro i hi; first | (rcases (by omega : i = 0 ∨ i = 1 ∨ i = 2) with rfl | rfl | rfl <;> rfl) | (rcases (by omega : i = 0 ∨ i = 1) with rfl | rfl <;> rfl))))))
      exact ⟨by omega, by rw [← hno, if_neg (by simp [h])]⟩
  · (repeat' (first | refine awp_seq ?_ | refine awp_block ?_ | refine awp_skip ?_ | refine awp_exit ?_ | ((first | refine rR (fun K kp hK hkp => ?_) | refine iG ?_); simp (implicitDefEqProofs := false) (maxSteps := 2000000) (disch := omega) only [go_sem]; (repeat' (first | (refine hK _ ?_; clear hK hkp kp K) | (with_reducible refine And.intro ?_ ?_) | omega))) | ((first | refine aG (fun h => ?_) (fun h => ?_) | refine aD (fun h => ?_) (fun h => ?_) | refine aX (fun h => ?_) (fun h => ?_)) <;> simp only [h]) | refine awp_cond_t rfl ?_ | refine awp_cond_f rfl ?_ | ((refine awp_cond rfl (fun h => ?_) (fun h => ?_) <;> try simp only [ifs] at h) <;> (try (exfalso; omega))) | refine awp_ret ?_))
    (refine retA_is (by (simp (implicitDefEqProofs := false) (maxSteps := 2000000) (disch := omega) only [go_sem, Go.Proofs.Tryd.results60]); rfl) ?_; refine eN hE ?_; simp [oneA, ren, renL])
    rw [← hno, List.drop_of_length_le (by omega)]; rfl
/-- Where the first one is that is so. -/
theorem idxK_spec (p : LK → Bool) : ∀ (l : List LK) (k : Nat), (idxK p l k = -1 ∧ l.filter (fun x => !p x) = l) ∨ ∃ i, idxK p l k = ((k + i : Nat) : Int) ∧ i < l.length ∧ (l.take (i + 1)).filter (fun x => !p x) = l.take i
  | [], k => .inl ⟨rfl, rfl⟩
  | x :: r, k => by
    by_cases h : p x = true
    · exact .inr ⟨0, by rw [idxK, if_pos h]; rfl, by simp, by simp [h]⟩
    · rcases idxK_spec p r (k + 1) with ⟨h1, h2⟩ | ⟨i, h1, h2, h3⟩
      · exact .inl ⟨by rw [idxK, if_neg h, h1], by rw [List.filter_cons, if_pos (by simp [h]), h2]⟩
      · refine .inr ⟨i + 1, ?_, by simp; omega, ?_⟩
        · rw [idxK, if_neg h, h1, show k + 1 + i = k + (i + 1) by omega]
        · rw [List.take_succ_cons, List.filter_cons, if_pos (by simp [h]), h3, List.take_succ_cons]
/-- What stays. -/
def keptK (p : LK → Bool) (l : List LK) : List LK := l.filter fun x => !p x
theorem kept_len (p : LK → Bool) (l : List LK) : (keptK p l).length ≤ l.length := List.length_filter_le _ _
theorem kept_succ {p : LK → Bool} {l : List LK} {j : Nat} {x : LK} (h : l[j]? = some x) : keptK p (l.take (j + 1)) = if p x = true then keptK p (l.take j) else keptK p (l.take j) ++ [x] := by
  unfold keptK
  rw [List.take_add_one, h, List.filter_append]
  cases hp : p x <;> simp [hp]
/-- How the row lies, behind so many of its elements. -/
def rowD (p : LK → Bool) (l : List LK) (j : Nat) : List LK := keptK p (l.take j) ++ l.drop (keptK p (l.take j)).length
theorem kept_take (p : LK → Bool) (l : List LK) (j : Nat) : (keptK p (l.take j)).length ≤ l.length := Nat.le_trans (kept_len _ _) (List.length_take_le' _ _)
theorem rowD_len (p : LK → Bool) (l : List LK) (j : Nat) : (rowD p l j).length = l.length := by
  have := kept_take p l j
  unfold rowD; rw [List.length_append, List.length_drop]; omega
theorem rowD_at (p : LK → Bool) (l : List LK) (j q : Nat) (h : (keptK p (l.take j)).length ≤ q) : (rowD p l j)[q]? = l[q]? := by
  unfold rowD
  rw [List.getElem?_append_right h, List.getElem?_drop]; congr 1; omega
theorem rowD_same {p : LK → Bool} {l : List LK} {j : Nat} {x : LK} (h : l[j]? = some x) (hp : p x = true) : rowD p l (j + 1) = rowD p l j := by
  unfold rowD; rw [kept_succ h, if_pos hp]
theorem rowD_set {p : LK → Bool} {l : List LK} {j : Nat} {x : LK} (h : l[j]? = some x) (hp : p x = false) (hlt : (keptK p (l.take j)).length < l.length) : rowD p l (j + 1) = (rowD p l j).set (keptK p (l.take j)).length x := by
  unfold rowD; rw [kept_succ h, if_neg (by simp [hp])]
  rw [List.set_append_right _ _ (Nat.le_refl _), Nat.sub_self, show (l.drop (keptK p (l.take j)).length).set 0 x = x :: l.drop ((keptK p (l.take j)).length + 1) by rw [List.drop_eq_getElem_cons hlt]; rfl]
  simp
def zK : List AV := [.r (.int .i64 0), .r (.string ⟨#[]⟩), .r (.int .i64 0)]
set_option maxRecDepth 100000 in
set_option maxHeartbeats 8000000 in
theorem deleteFunc_con0 (G : List (Nat × List Value)) (l : List LK) (g : Nat) (caps : List AV) (p : LK → Bool) (hl : l.length ≤ 1048576) (hcap : ∀ st, borL st caps = some caps) (hren : ∀ f, renL f caps = caps) (hf : ∀ G x, Con Go.Proofs.Tryd.prog G g (.agg (eK x) :: caps) [] 0 (Is (.r (.bool (p x))) [] 0) No) :
    Con Go.Proofs.Tryd.prog G 48 [.s 0 0 l.length, .fn g caps] [(0, .lst 82 3 (l.map eK))] 1 (Is (.s 0 0 (keptK p l).length) [(0, .lst 82 3 ((keptK p l).map eK ++ List.replicate (l.length - (keptK p l).length) zK))] 1) No := by
  have ic := indexFuncK_con G false l g caps p hl hcap hren hf
  rcases idxK_spec p l 0 with ⟨h1, h2⟩ | ⟨i, h1, h2, h3⟩
  · rw [h1] at ic
    have hk : keptK p l = l := h2
    rw [hk]
    refine con_of_awp Go.Proofs.Tryd.func48 rfl (by kernel_rfl) (of_decide_eq_true (by kernel_rfl)) ?_; intro E hG hE; subst hG; simp only [ent]
    (repeat' (first | refine awp_seq ?_ | refine awp_block ?_ | refine awp_skip ?_ | refine awp_exit ?_ | ((first | refine rR (fun K kp hK hkp => ?_) | refine cR ic ?_ | refine iG ?_); simp (implicitDefEqProofs := false) (maxSteps := 2000000) (disch := omega) only [go_sem, hcap]; (repeat' (first | (refine hK _ ?_; clear hK hkp kp K) | (with_reducible refine And.intro ?_ ?_) | omega))) | ((first | refine aG (fun h => ?_) (fun h => ?_) | refine aD (fun h => ?_) (fun h => ?_) | refine aX (fun h => ?_) (fun h => ?_)) <;> simp only [h]) | refine awp_cond_t rfl ?_ | refine awp_cond_f rfl ?_ | ((refine awp_cond rfl (fun h => ?_) (fun h => ?_) <;> try simp only [ifs] at h) <;> (try (exfalso; omega))) | refine awp_ret ?_))
    (refine retA_is (by (simp (implicitDefEqProofs := false) (maxSteps := 2000000) (disch := omega) only [go_sem, Go.Proofs.Tryd.results48]); rfl) ?_; refine (embV [0] ?_ ?_ ?_ ?_ ?_ ?_).s <;> simp [oneA, okO, lk, ren, renL, renNd, by_, hE] <;> (try (intro i hi; first | (rcases (by omega : i = 0 ∨ i = 1 ∨ i = 2) with rfl | rfl | rfl <;> rfl) | (rcases (by omega : i = 0 ∨ i = 1) with rfl | rfl <;> rfl))))
  · rw [h1, Nat.zero_add] at ic
    have b1 : ((i : Int) == -1) = false := by rw [beq_eq_false_iff_ne]; omega
    refine con_of_awp Go.Proofs.Tryd.func48 rfl (by kernel_rfl) (of_decide_eq_true (by kernel_rfl)) ?_; intro E hG hE; subst hG; simp only [ent]
    (repeat' (first | refine awp_seq ?_ | refine awp_block ?_ | refine awp_skip ?_ | refine awp_exit ?_ | ((first | refine rR (fun K kp hK hkp => ?_) | refine cR ic ?_ | refine iG ?_); simp (implicitDefEqProofs := false) (maxSteps := 2000000) (disch := omega) only [go_sem, hcap, b1]; (repeat' (first | (refine hK _ ?_; clear hK hkp kp K) | (with_reducible refine And.intro ?_ ?_) | omega))) | ((first | refine aG (fun h => ?_) (fun h => ?_) | refine aD (fun h => ?_) (fun h => ?_) | refine aX (fun h => ?_) (fun h => ?_)) <;> simp only [h]) | refine awp_cond_t rfl ?_ | refine awp_cond_f rfl ?_ | ((refine awp_cond rfl (fun h => ?_) (fun h => ?_) <;> try simp only [ifs] at h) <;> (try (exfalso; omega))) | refine awp_ret ?_))
    have hki : keptK p (l.take (i + 1)) = l.take i := h3
    have hli : (l.take i).length = i := by rw [List.length_take]; omega
    have hri : rowD p l (i + 1) = l := by unfold rowD; rw [hki, hli, List.take_append_drop]
    refine awp_loop (fun j : Nat => ⟨[(6, .r (.int .i64 j)), (5, .r (.int .i64 (keptK p (l.take j)).length)), (0, .s 0 0 l.length), (1, .fn g caps)], [(0, .lst 82 3 ((rowD p l j).map eK))], 1⟩) (fun j => j ≤ l.length ∧ (keptK p (l.take j)).length + 1 ≤ j) (fun j => l.length - j) (i + 1) ?_ ?_ ?_
    · exact ⟨by omega, by rw [hki, hli]; omega⟩
    · (refine emb [0] ?_ ?_ rfl ?_ ?_ ?_ ?_ <;> simp [okM, okO, lk, ren, renL, renNd, by_, hE, hki, hli, hri, hren] <;> (try omega) <;> (try (intro i hi; first | (rcases (by omega : i = 0 ∨ i = 1 ∨ i = 2) with rfl | rfl | rfl <;> rfl) | (rcases (by omega : i = 0 ∨ i = 1) with rfl | rfl <;> rfl))))
    rintro j ⟨hj, hkj⟩
    have hrl := rowD_len p l j
    by_cases hlt : j < l.length
    · obtain ⟨x, hx⟩ : ∃ x, l[j]? = some x := ⟨l[j], by simp [hlt]⟩
      obtain ⟨y, hy⟩ : ∃ y, l[(keptK p (l.take j)).length]? = some y := ⟨l[(keptK p (l.take j)).length]'(by omega), by simp⟩
      have hx1 := rowD_at p l j j (by omega)
      have hy1 := rowD_at p l j _ (Nat.le_refl (keptK p (l.take j)).length)
      rw [hx] at hx1
      rw [hy] at hy1
      have hks := kept_succ (p := p) hx
      have hfx := hf E.G x
      simp only [eK] at hfx
      have z1 : ((j : Int) < (l.length : Int)) = True := eq_true (by omega)
      cases hp : p x
      · rw [hp] at hfx
        rw [if_neg (by simp [hp])] at hks
        have hst : List.set ((rowD p l j).map eK) (keptK p (l.take j)).length (eK x) = (rowD p l (j + 1)).map eK := by rw [rowD_set hx hp (by omega), List.map_set]
        simp only [eK] at hst
        have z2 : (((keptK p (l.take j)).length : Int) < (l.length : Int)) = True := eq_true (by omega)
        (repeat' (first | refine awp_seq ?_ | refine awp_block ?_ | refine awp_skip ?_ | refine awp_exit ?_ | ((first | refine rR (fun K kp hK hkp => ?_) | refine cR hfx ?_ | refine iG ?_); simp (implicitDefEqProofs := false) (maxSteps := 2000000) (disch := omega) only [go_sem, hx1, hy1, eK, hcap, z1, z2]; (repeat' (first | (refine hK _ ?_; clear hK hkp kp K) | (with_reducible refine And.intro ?_ ?_) | omega))) | ((first | refine aG (fun h => ?_) (fun h => ?_) | refine aD (fun h => ?_) (fun h => ?_) | refine aX (fun h => ?_) (fun h => ?_)) <;> simp only [h]) | refine awp_cond_t rfl ?_ | refine awp_cond_f rfl ?_ | ((refine awp_cond rfl (fun h => ?_) (fun h => ?_) <;> try simp only [ifs] at h) <;> (try (exfalso; omega))) | refine awp_ret ?_))
        ((first | (refine nextB (j + 1) ?_ ?_ ?_) | (refine nextA (j + 1) ?_ ?_ ?_) | (refine nextE (j + 1) ?_ ?_ ?_)); rotate_left; (· (try dsimp only); (first | omega | (simp only [List.length_drop, List.length_cons, List.length_append]; omega) | (simp; done) | (simp; omega))); (· (refine emb [0] ?_ ?_ rfl ?_ ?_ ?_ ?_ <;> simp [okM, okO, lk, ren, renL, renNd, by_, hE, hks, hst, splice, hren] <;> (try omega) <;> (try (intro i hi; first | (rcases (by omega : i = 0 ∨ i = 1 ∨ i = 2) with rfl | rfl | rfl <;> rfl) | (rcases (by omega : i = 0 ∨ i = 1) with rfl | rfl <;> rfl))))))
        exact ⟨by omega, by rw [hks]; simp; omega⟩
      · rw [hp] at hfx
        rw [if_pos hp] at hks
        (repeat' (first | refine awp_seq ?_ | refine awp_block ?_ | refine awp_skip ?_ | refine awp_exit ?_ | ((first | refine rR (fun K kp hK hkp => ?_) | refine cR hfx ?_ | refine iG ?_); simp (implicitDefEqProofs := false) (maxSteps := 2000000) (disch := omega) only [go_sem, hx1, hy1, eK, hcap, z1]; (repeat' (first | (refine hK _ ?_; clear hK hkp kp K) | (with_reducible refine And.intro ?_ ?_) | omega))) | ((first | refine aG (fun h => ?_) (fun h => ?_) | refine aD (fun h => ?_) (fun h => ?_) | refine aX (fun h => ?_) (fun h => ?_)) <;> simp only [h]) | refine awp_cond_t rfl ?_ | refine awp_cond_f rfl ?_ | ((refine awp_cond rfl (fun h => ?_) (fun h => ?_) <;> try simp only [ifs] at h) <;> (try (exfalso; omega))) | refine awp_ret ?_))
        ((first | (refine nextB (j + 1) ?_ ?_ ?_) | (refine nextA (j + 1) ?_ ?_ ?_) | (refine nextE (j + 1) ?_ ?_ ?_)); rotate_left; (· (try dsimp only); (first | omega | (simp only [List.length_drop, List.length_cons, List.length_append]; omega) | (simp; done) | (simp; omega))); (· (refine emb [0] ?_ ?_ rfl ?_ ?_ ?_ ?_ <;> simp [okM, okO, lk, ren, renL, renNd, by_, hE, hks, rowD_same hx hp, hren] <;> (try omega) <;> (try (intro i hi; first | (rcases (by omega : i = 0 ∨ i = 1 ∨ i = 2) with rfl | rfl | rfl <;> rfl) | (rcases (by omega : i = 0 ∨ i = 1) with rfl | rfl <;> rfl))))))
        exact ⟨by omega, by rw [hks]; omega⟩
    · obtain rfl : j = l.length := by omega
      rw [List.take_length] at hkj ⊢
      have hrow : rowD p l l.length = keptK p l ++ l.drop (keptK p l).length := by unfold rowD; rw [List.take_length]
      have q1 : List.take (keptK p l).length ((rowD p l l.length).map eK) = (keptK p l).map eK := by rw [hrow, List.map_append, List.take_left' (by simp)]
      have q2 : List.drop ((keptK p l).length + (l.length - (keptK p l).length)) ((rowD p l l.length).map eK) = [] := List.drop_of_length_le (by simp [hrl]; omega)
      (repeat' (first | refine awp_seq ?_ | refine awp_block ?_ | refine awp_skip ?_ | refine awp_exit ?_ | ((first | refine rR (fun K kp hK hkp => ?_) | refine iG ?_); simp (implicitDefEqProofs := false) (maxSteps := 2000000) (disch := omega) only [go_sem, List.length_map, hrl]; (repeat' (first | (refine hK _ ?_; clear hK hkp kp K) | (with_reducible refine And.intro ?_ ?_) | omega))) | ((first | refine aG (fun h => ?_) (fun h => ?_) | refine aD (fun h => ?_) (fun h => ?_) | refine aX (fun h => ?_) (fun h => ?_)) <;> simp only [h]) | refine awp_cond_t rfl ?_ | refine awp_cond_f rfl ?_ | ((refine awp_cond rfl (fun h => ?_) (fun h => ?_) <;> try simp only [ifs] at h) <;> (try (exfalso; omega))) | refine awp_ret ?_))
      · rfl
      · rw [q1, q2, List.append_nil]
        (refine retA_is (by (simp (implicitDefEqProofs := false) (maxSteps := 2000000) (disch := omega) only [go_sem, Go.Proofs.Tryd.results48, zK]); rfl) ?_; refine (embV [0] ?_ ?_ ?_ ?_ ?_ ?_).s <;> simp [oneA, okO, lk, ren, renL, renNd, by_, hE, zK] <;> (try (intro i hi; first | (rcases (by omega : i = 0 ∨ i = 1 ∨ i = 2) with rfl | rfl | rfl <;> rfl) | (rcases (by omega : i = 0 ∨ i = 1) with rfl | rfl <;> rfl))))
theorem deleteFunc_con (G : List (Nat × List Value)) (l : List LK) (g : Nat) (caps : List AV) (p : LK → Bool) (hl : l.length ≤ 1048576) (hcap : ∀ st, borL st caps = some caps) (hren : ∀ f, renL f caps = caps) (hf : ∀ G x, Con Go.Proofs.Tryd.prog G g (.agg (eK x) :: caps) [] 0 (Is (.r (.bool (p x))) [] 0) No) :
    Con Go.Proofs.Tryd.prog G 48 [.s 0 0 l.length, .fn g caps] [(0, .lst 82 3 (l.map eK))] 1 (Is (.s 0 0 (keptK p l).length) [(0, .lst 82 3 ((keptK p l).map eK))] 1) No :=
  (deleteFunc_con0 G l g caps p hl hcap hren hf).cut
end Go.AM
/- The abstract machine: calls of the library that rewrite one own row of plain cells. -/
namespace Go.AM
open Go Go.RowKit Go.Sort
/-- One own thing, rewritten in its place. -/
theorem mem_one {w w' : World} {own : Nat → Prop} {z : Zone} {G : List (Nat × List Value)} {L : NLoc} {nd nd' : Nd} (hm : Mem ⟨w, own, z, G, [L]⟩ [(0, nd)] 1 [L] z w) (ho : own L.b) (hp : L.ph = false) (hs : w.heap.size ≤ w'.heap.size)
    (hb : ∀ b, b < w.heap.size → b ≠ L.b → w'.heap[b]? = w.heap[b]?) (hy : Sys w w') (hn : NdAt w' z [L] L nd') : Mem ⟨w, own, z, G, [L]⟩ [(0, nd')] 1 [L] z w' := by
  obtain ⟨M, e1, _, e3⟩ := hm.nds 0 nd rfl
  obtain rfl : L = M := by simpa using e1
  obtain ⟨e4, e5, _⟩ := e3 hp
  refine ⟨rfl, fun i x hi => ?_, fun i j x y A B hi hj hA hB _ _ _ => ?_, fun t b hz => Nat.lt_of_lt_of_le (hm.zlt t b hz) hs, hs, fun b hb1 hb2 => hb b hb1 (fun e => hb2 (e ▸ ho)), fun t b h => h, fun b h => .inl h, fun b h => h, fun g cs hg => ?_, fun i M h => h, hy⟩
  · simp only [lk] at hi
    by_cases h0 : 0 = i
    · subst h0; rw [if_pos rfl] at hi; cases hi
      exact ⟨L, rfl, hn, fun _ => ⟨Nat.lt_of_lt_of_le e4 hs, e5, .inl ho⟩⟩
    · rw [if_neg h0] at hi; cases hi
  · simp only [lk] at hi hj
    by_cases h0 : 0 = i
    · by_cases h1 : 0 = j
      · omega
      · rw [if_neg h1] at hj; cases hj
    · rw [if_neg h0] at hi; cases hi
  · obtain ⟨h1, h2⟩ := hm.globs g cs hg
    exact ⟨h1, fun j u hu => (cell_heap (hb g (hm.zlt _ _ h1) (fun e => e5 true (e ▸ h1))) j).trans (h2 j u hu)⟩
theorem reps_r {w : World} {z : Zone} {th : List NLoc} : ∀ {us vs : List Value}, Reps w z th (us.map .r) vs → vs = us
  | [], vs, h => h.of_nil
  | u :: r, vs, h => by
    obtain ⟨y, ys, rfl, h1, h2⟩ := h.head
    rw [h1.r_inv, reps_r h2]
theorem putRow_at {α : Type} [Inhabited α] {enc : α → Value} {w : World} {b off n : Nat} {d : Array α} {os : Array Obj} {cells : Array Value} {T : TypeId} {fr : Nat × Nat} (h : w.heap[b]? = some (.cells cells T fr)) :
    (grow (putRow enc (Go.Sort.ahead w n) b off d) os).heap[b]? = some (.cells (putCells enc off d cells) T fr) := by
  have hb : b < w.heap.size := (Array.getElem?_eq_some_iff.1 h).1
  simp only [grow]
  rw [Array.getElem?_append_left (by simpa [putRow, mapBlock] using hb)]
  simp [putRow, mapBlock, Array.getElem?_modify, h, onCells]
theorem putRow_else {α : Type} [Inhabited α] {enc : α → Value} {w : World} {b off n : Nat} {d : Array α} {os : Array Obj} {k : Nat} (hk : k < w.heap.size) (hn : k ≠ b) :
    (grow (putRow enc (Go.Sort.ahead w n) b off d) os).heap[k]? = w.heap[k]? := by
  simp only [grow]
  rw [Array.getElem?_append_left (by simpa [putRow, mapBlock] using hk)]
  simp [putRow, mapBlock, Array.getElem?_modify, Ne.symm hn]
theorem putRow_size {α : Type} [Inhabited α] {enc : α → Value} {w : World} {b off n : Nat} {d : Array α} {os : Array Obj} : w.heap.size ≤ (grow (putRow enc (Go.Sort.ahead w n) b off d) os).heap.size := by
  simp [grow, putRow, mapBlock]
def eEnc {α : Type} (enc : α → Value) (x : α) : List AV := [.r (enc x)]
/-- A call that rewrites an own row of plain cells in its place and gives back a head of it (or what else a function of the slice says). -/
theorem con_put {α : Type} [Inhabited α] {P : Program} {G : List (Nat × List Value)} {f : Nat} {T : TypeId} (hok : okFn P f = true) (enc : α → Value) (h1 : ∀ x, (enc x).oneCell' = true) (us : List Value) (l l' lr : List α) (hl : l'.length = l.length) (hlr : ∀ (i : Nat) y, lr[i]? = some y → l'[i]? = some y) (m : Nat) (hm : m ≤ l.length) (y : AV) (rv : Option Addr → Nat → Value) (hy : (y = .s 0 0 m ∧ rv = fun a c => .slice a m c) ∨ ∃ u, y = .r u ∧ rv = fun _ _ => u)
    (h0 : l = [] → ∀ w, Calls P f (.slice none 0 0 :: us).toArray w fun e w' => e = .returned (rv none 0) ∧ w' = w)
    (h : ∀ (w : World) (b off c : Nat), Holds enc w b off l.toArray → b < w.heap.size → l.length ≤ c → Calls P f (.slice (some ⟨b, off, none⟩) l.length c :: us).toArray w fun e w' => e = .returned (rv (some ⟨b, off, none⟩) c) ∧ ∃ n os, w' = grow (putRow enc (Go.Sort.ahead w n) b off l'.toArray) os) :
    Con P G f (.s 0 0 l.length :: us.map .r) [(0, .lst T 1 (l.map (eEnc enc)))] 1 (Is y [(0, .lst T 1 (lr.map (eEnc enc)))] 1) No := by
  refine ⟨hok, fun w th z own vs ho hmem hr => ?_⟩
  obtain ⟨v, r, rfl, g1, g2⟩ := hr.head
  obtain rfl := reps_r g2
  obtain ⟨L, rfl⟩ : ∃ L, th = [L] := List.length_eq_one_iff.1 hmem.len
  obtain ⟨M, e1, e2, e3⟩ := hmem.nds 0 _ rfl
  obtain rfl : L = M := by simpa using e1
  rcases e2 with ⟨hp, he⟩ | ⟨hp, cells, fr, hb, hf, hk, hsz, hle, hcl⟩
  · have hl0 : l = [] := by simpa using he
    subst hl0
    obtain rfl : l' = [] := List.length_eq_zero_iff.1 (by simpa using hl)
    obtain rfl : m = 0 := by simpa using hm
    obtain rfl : lr = [] := by
      cases lr with
      | nil => rfl
      | cons a r => have := hlr 0 a rfl; simp at this
    have hv : v = .slice none 0 0 := by
      cases g1 with
      | s _ _ _ _ c x M hL hp' => obtain rfl : L = M := by simpa using hL
                                  rw [hp] at hp'; cases hp'
      | sn => rfl
    subst hv
    refine (h0 rfl w).mono ?_
    rintro e w' ⟨rfl, rfl⟩
    refine ⟨_, y, _, 1, [L], z, .inl ⟨rfl, rfl, rfl, rfl⟩, by simpa using hmem, ?_⟩
    rcases hy with ⟨rfl, rfl⟩ | ⟨u, rfl, rfl⟩
    · exact .sn _ 0 0 L rfl hp
    · exact .r _ _
  · have hown : own L.b := (ho _).2 ⟨0, _, L, rfl, rfl, hp, rfl⟩
    have hlt := (e3 hp).1
    obtain ⟨c, x, rfl, hc1, hc2, hx⟩ : ∃ c x, v = .slice (some ⟨L.b, x, none⟩) l.length c ∧ l.length ≤ c ∧ c ≤ L.cap ∧ (0 < c → x = L.o) := by
      generalize hq : l.length = q at g1
      cases g1 with
      | s _ _ _ _ c x M hL hp' h3 h4 h5 =>
        obtain rfl : L = M := by simpa using hL
        exact ⟨c, x, rfl, h3, by omega, fun hc => by simpa using h5 hc⟩
      | sn _ _ _ M hL hp' => obtain rfl : L = M := by simpa using hL
                             rw [hp] at hp'; cases hp'
    have hx' : 0 < l.length → x = L.o := fun hh => hx (by omega)
    have H : Holds enc w L.b x l.toArray := by
      intro j hj
      have hj : j < l.length := by simpa using hj
      obtain rfl := hx' (by omega)
      obtain ⟨_, q2⟩ := hcl j (eEnc enc l[j]) (by rw [List.getElem?_map, List.getElem?_eq_getElem hj]; rfl)
      obtain ⟨y, q3, q4, _⟩ := q2 0 _ rfl
      rw [hk] at q3
      obtain rfl := q4.r_inv
      have q5 : cells[L.o + j]? = some (enc l[j]) := by simpa using q3
      have q6 : L.o + j < cells.size := (Array.getElem?_eq_some_iff.1 q5).1
      refine ⟨?_, ?_⟩
      · simp only [World.cell?, hb]
        simpa [hj] using q5
      · simp only [World.frozen?, hb]
        have := hf (L.o + j) q6
        simpa using this
    refine (h w L.b x c H hlt hc1).mono ?_
    rintro e w' ⟨rfl, n, os, rfl⟩
    have hcell : ∀ j, j < l.length → (putCells enc x l'.toArray cells)[L.o + j]? = (l'[j]?).map enc := by
      intro j hj
      obtain rfl := hx' (by omega)
      have hsz' : L.o + j < cells.size := by rw [hk] at hsz; have : l.length ≤ L.cap := by omega
                                             omega
      simp only [putCells, Array.getElem?_mapIdx, Array.getElem?_eq_getElem hsz', Option.map_some]
      have hj' : j < l'.length := by omega
      rw [if_pos (by simp; omega)]
      simp [show L.o + j - L.o = j by omega, hj']
    have hN : NdAt (grow (putRow enc (Go.Sort.ahead w n) L.b x l'.toArray) os) z [L] L (.lst T 1 (lr.map (eEnc enc))) := by
      have hlen : lr.length ≤ l'.length := by
        rcases Nat.lt_or_ge l'.length lr.length with hh | hh
        · have h1 := hlr l'.length lr[l'.length] (by simp [hh])
          simp at h1
        · exact hh
      refine .inr ⟨hp, _, fr, putRow_at hb, ?_, hk, ?_, ?_, ?_⟩
      · intro i hi; exact hf i (by simpa [putCells] using hi)
      · simpa [putCells] using hsz
      · simp only [List.length_map] at hle ⊢; omega
      · intro i e he
        rw [List.getElem?_map] at he
        obtain ⟨y, hy, rfl⟩ := Option.map_eq_some_iff.1 he
        have hy := hlr i y hy
        refine ⟨by simp [eEnc, hk], fun j a ha => ?_⟩
        have hi : i < l'.length := (List.getElem?_eq_some_iff.1 hy).1
        have hj0 : j = 0 := by
          have := (List.getElem?_eq_some_iff.1 ha).1
          simp [eEnc] at this; omega
        subst hj0
        simp [eEnc] at ha
        subst ha
        refine ⟨enc y, ?_, .r _ _, h1 y⟩
        have := hcell i (by omega)
        rw [hk]
        simpa [hy] using this
    refine ⟨_, y, _, 1, [L], z, .inl ⟨rfl, rfl, rfl, rfl⟩, mem_one hmem hown hp putRow_size (fun b hb1 hb2 => putRow_else hb1 hb2) ⟨rfl, rfl, rfl⟩ hN, ?_⟩
    rcases hy with ⟨rfl, rfl⟩ | ⟨u, rfl, rfl⟩
    · exact .s _ 0 0 m c x L rfl hp (by omega) (by omega) (fun hc => by simpa using hx hc)
    · exact .r _ _
end Go.AM
/- Locks: slices.Delete of one lock, as a contract. -/
namespace Go.AM
open Go Go.RowKit
open Go.Proofs.YteebiklebedneaaDoor (LK flat flat_len flat_at zeroL)
def delM (l : List LK) (i : Nat) : List LK := l.take i ++ l.drop (i + 1)
theorem delM_len {l : List LK} {i : Nat} (h : i < l.length) : (delM l i).length = l.length - 1 := by
  unfold delM; rw [List.length_append, List.length_take, List.length_drop]; omega
theorem delM_get {l : List LK} {i : Nat} (h : i < l.length) (q : Nat) : (delM l i)[q]? = if q < i then l[q]? else l[q + 1]? := by
  unfold delM
  by_cases hq : q < i
  · rw [if_pos hq, List.getElem?_append_left (by rw [List.length_take]; omega), List.getElem?_take_of_lt hq]
  · rw [if_neg hq, List.getElem?_append_right (by rw [List.length_take]; omega), List.getElem?_drop, List.length_take]; congr 1; omega
set_option maxHeartbeats 2000000 in
theorem delete_con (G : List (Nat × List Value)) (l : List LK) (i : Nat) (hi : i < l.length) (hn : l.length ≤ 1048576) :
    Con Go.Proofs.Tryd.prog G 50 [.s 0 0 l.length, .r (.int .i64 i), .r (.int .i64 ((i : Int) + 1))] [(0, .lst 82 3 (l.map eK))] 1 (Is (.s 0 0 (l.length - 1)) [(0, .lst 82 3 ((delM l i).map eK))] 1) No := by
  refine ⟨by kernel_rfl, fun w th z own vs ho hmem hr => ?_⟩
  obtain ⟨v, r, rfl, g1, g2⟩ := hr.head
  obtain ⟨v2, r2, rfl, g3, g4⟩ := g2.head
  obtain ⟨v3, r3, rfl, g5, g6⟩ := g4.head
  obtain rfl := g3.r_inv
  obtain rfl := g5.r_inv
  obtain rfl := g6.of_nil
  obtain ⟨L, rfl⟩ : ∃ L, th = [L] := List.length_eq_one_iff.1 hmem.len
  obtain ⟨M, e1, e2, e3⟩ := hmem.nds 0 _ rfl
  obtain rfl : L = M := by simpa using e1
  rcases e2 with ⟨hp, he⟩ | ⟨hp, cells, fr, hb, hf, hk, hsz, hle, hcl⟩
  · have hl0 : l = [] := by simpa using he
    subst hl0; simp at hi
  have hown : own L.b := (ho _).2 ⟨0, _, L, rfl, rfl, hp, rfl⟩
  have hlt := (e3 hp).1
  obtain ⟨c, x, rfl, hc1, hc2, hx⟩ : ∃ c x, v = .slice (some ⟨L.b, x, none⟩) l.length c ∧ l.length ≤ c ∧ c ≤ L.cap ∧ (0 < c → x = L.o) := by
    generalize hq : l.length = q at g1
    cases g1 with
    | s _ _ _ _ c x M hL hp' h3 h4 h5 =>
      obtain rfl : L = M := by simpa using hL
      exact ⟨c, x, rfl, h3, by omega, fun hc => by simpa using h5 hc⟩
    | sn _ _ _ M hL hp' => obtain rfl : L = M := by simpa using hL
                           rw [hp] at hp'; cases hp'
  obtain rfl := hx (by omega)
  have hold : ∀ (j : Nat) y, l[j]? = some y → ∀ (q : Nat) u, (LK.cells y)[q]? = some u → cells[L.o + j * 3 + q]? = some u := by
    intro j y hj q u hq
    obtain ⟨_, q2⟩ := hcl j (eK y) (by rw [List.getElem?_map, hj]; rfl)
    obtain ⟨u', q3, q4, _⟩ := q2 q (.r u) (by rw [show eK y = (LK.cells y).map .r from rfl, List.getElem?_map, hq]; rfl)
    rw [hk] at q3
    rw [q3, show u' = u from q4.r_inv]
  have hH : ∀ (j : Nat) y, l[j]? = some y → ∀ (q : Nat) u, (LK.cells y)[q]? = some u → w.cell? ⟨L.b, L.o + j * 3 + q, none⟩ = some u ∧ w.frozen? ⟨L.b, L.o + j * 3 + q, none⟩ = false := by
    intro j y hj q u hq
    have h5 := hold j y hj q u hq
    exact ⟨by rw [cell_of hb]; exact h5, frozen_of hb hf (Array.getElem?_eq_some_iff.1 h5).1⟩
  have hrun := Go.Proofs.YteebiklebedneaaDoor.delete_any L.b L.o c i (i + 1) rfl l w hH hn hc1 hi
  rw [show ((i + 1 : Nat) : Int) = (i : Int) + 1 by omega] at hrun
  refine hrun.mono ?_
  rintro e w' ⟨rfl, rfl⟩
  obtain ⟨a1, a2, a3⟩ := heap_setCells L.b (flat (l.drop (i + 1))) (L.o + i * 3) w.drew cells 82 fr hb
  obtain ⟨b1, b2, b3⟩ := heap_setCells L.b zeroL (L.o + (l.length - 1) * 3) (w.drew.setCells L.b (L.o + i * 3) (flat (l.drop (i + 1)))) _ 82 fr a3
  have hd : w.drew.heap = w.heap := rfl
  have hflen : (flat (l.drop (i + 1))).length = (l.length - (i + 1)) * 3 := by rw [flat_len, List.length_drop]
  have hcap : L.o + l.length * 3 ≤ cells.size := by
    rw [hk] at hsz
    have : l.length * 3 ≤ L.cap * 3 := Nat.mul_le_mul_right _ (by omega)
    omega
  have hz3 : zeroL.length = 3 := rfl
  have hS1 := setMany_get (flat (l.drop (i + 1))) (L.o + i * 3) cells (by rw [hflen]; omega)
  have hS2 := setMany_get zeroL (L.o + (l.length - 1) * 3) (setMany cells (L.o + i * 3) (flat (l.drop (i + 1)))) (by rw [setMany_size, hz3]; omega)
  have hN : NdAt ((w.drew.setCells L.b (L.o + i * 3) (flat (l.drop (i + 1)))).setCells L.b (L.o + (l.length - 1) * 3) zeroL) z [L] L (.lst 82 3 ((delM l i).map eK)) := by
    refine .inr ⟨hp, _, fr, b3, fun k hk' => ?_, hk, ?_, ?_, fun q el hq => ?_⟩
    · rw [setMany_size, setMany_size] at hk'; exact hf k hk'
    · rw [setMany_size, setMany_size]; exact hsz
    · rw [List.length_map, delM_len hi]; rw [List.length_map] at hle; omega
    rw [List.getElem?_map] at hq
    obtain ⟨y, hy, rfl⟩ := Option.map_eq_some_iff.1 hq
    have hql : q < l.length - 1 := by rw [← delM_len hi]; exact (List.getElem?_eq_some_iff.1 hy).1
    rw [delM_get hi] at hy
    refine ⟨by rw [hk]; rfl, fun j a ha => ?_⟩
    have hj3 : j < 3 := (List.getElem?_eq_some_iff.1 ha).1
    obtain ⟨u, hu⟩ : ∃ u, (LK.cells y)[j]? = some u := ⟨_, List.getElem?_eq_getElem (show j < (LK.cells y).length from hj3)⟩
    obtain rfl : a = .r u := by
      rw [show eK y = (LK.cells y).map .r from rfl, List.getElem?_map, hu] at ha
      exact (Option.some.inj ha).symm
    refine ⟨u, ?_, .r _ _, ?_⟩
    · rw [hk, hS2, hz3, if_neg (by omega), hS1]
      by_cases hqi : q < i
      · rw [if_pos hqi] at hy
        rw [if_neg (by omega)]
        exact hold q y hy j u hu
      · rw [if_neg hqi] at hy
        rw [if_pos (by rw [hflen]; omega)]
        have := flat_at (l.drop (i + 1)) (q - i) y (by rw [List.getElem?_drop, show i + 1 + (q - i) = q + 1 by omega]; exact hy) j u hu
        rw [show L.o + q * 3 + j - (L.o + i * 3) = (q - i) * 3 + j by omega]; exact this
    · have : ∀ u ∈ LK.cells y, u.oneCell' = true := by simp [LK.cells, Value.oneCell']
      exact this u (List.mem_of_getElem? hu)
  refine ⟨_, .s 0 0 (l.length - 1), _, 1, [L], z, .inl ⟨rfl, rfl, rfl, rfl⟩, mem_one hmem hown hp (by rw [b1, a1, hd]; exact Nat.le_refl _) (fun k _ hk' => by rw [b2 k hk', a2 k hk', hd]) ?_ hN, .s _ 0 0 _ c L.o L rfl hp (by omega) (by omega) (fun _ => by simp)⟩
  have s1 := sys_setCells L.b (flat (l.drop (i + 1))) (L.o + i * 3) w.drew
  have s2 := sys_setCells L.b zeroL (L.o + (l.length - 1) * 3) (w.drew.setCells L.b (L.o + i * 3) (flat (l.drop (i + 1))))
  exact (show Sys w w.drew from ⟨rfl, rfl, rfl⟩).trans (s1.trans s2)
end Go.AM
/- The abstract machine, 27: regions that draw their order: moves that may come late are taken first. -/
namespace Go.AM
open Go
section
variable {P : Program} {ops : Array Oper} {Q : Exit → Act → World → Prop} {n : Nat} {L : Array Bool → Act → World → Prop}
theorem getD_set_self (s : Array Bool) (i : Nat) : (s.setIfInBounds i true).getD i true = true := by
  rcases Nat.lt_or_ge i s.size with h | h
  · simp [Array.getD_eq_getD_getElem?, h]
  · rw [Array.getD_eq_getD_getElem?, Array.getElem?_eq_none (by simpa using h)]; rfl
/-- These have come up. -/
def Did (fs : List Nat) (s : Array Bool) : Prop := ∀ f ∈ fs, s.getD f true = true
theorem Did.set {fs : List Nat} {s : Array Bool} (h : Did fs s) (i : Nat) : Did fs (s.setIfInBounds i true) := by
  intro f hf
  by_cases e : i = f
  · subst e; exact getD_set_self _ _
  · rw [getD_set_ne true e]; exact h f hf
theorem anyE_firstF {fs : List Nat} {i : Nat} {oi : Oper} {v : Value} (hi : ops[i]? = some oi) (hsel : ∀ (j : Nat) (o : Oper) cs b, ops[j]? = some o → o.op ≠ .select cs b)
    (hQ : ∀ c a w, Q (.panic c) (a.put oi.dst v) w → Q (.panic c) a w) (hlt : ∀ s, HeadInv .any ops n s → Did fs s → ∀ i, i < n → s.getD i true = false → ∀ j ∈ Region.ready .any ops s, j < n) (hin : i < n)
    (hdone : ∀ s a w, L s a w → ∀ j ∈ Region.ready .any ops s, n ≤ j) : ∀ (f : Nat) (s : Array Bool) (a : Act) (w : World), HeadInv .any ops n s → Did fs s →
      (∀ j oj, ops[j]? = some oj → j ≠ i → s.getD j true = false → (∀ e ∈ oj.after, Region.binds .any e = true → e.on ≠ i) → oi.apart ops oj = true) →
      i ∈ Region.ready .any ops s → YieldsIf P ops (Ext w) oi v a → anyE P ops Q n L f (s.setIfInBounds i true) (a.put oi.dst v) w → anyE P ops Q n L (f + 1) s a w := by
  intro f
  induction f with
  | zero =>
    intro s a w inv did _ hr hy H
    refine ⟨fun h => (by rw [h] at hr; cases hr), fun j hj => ?_⟩
    have hjn : j < n := hlt s inv did i hin (mem_ready.1 hr).1 j hj
    by_cases hji : j = i
    · subst hji; exact ⟨hjn, hy.wpOp hi (Ext.refl w) ⟨Ext.refl w, H⟩⟩
    · have := hdone _ _ _ H j (ready_mono hj hji)
      omega
  | succ f ih =>
    intro s a w inv did hfree hr hy H
    refine ⟨fun h => (by rw [h] at hr; cases hr), fun j hj => ?_⟩
    have hjn : j < n := hlt s inv did i hin (mem_ready.1 hr).1 j hj
    refine ⟨hjn, ?_⟩
    by_cases hji : j = i
    · subst hji; exact hy.wpOp hi (Ext.refl w) ⟨Ext.refl w, H⟩
    · have h1 := (H.2 j (ready_mono hj hji)).2
      obtain ⟨hjun, oj, hoj, hall⟩ := mem_ready.1 hj
      have hiun := (mem_ready.1 hr).1
      have hnot : ∀ e ∈ oj.after, Region.binds .any e = true → e.on ≠ i := fun e he hb heq => by
        have h2 := hall e he hb
        rw [heq, getD_both hiun] at h2
        cases h2
      have h2 := wpOp_putIf hoj (hfree j oj hoj hji hjun hnot) (fun cs b => hsel i oi cs b hi) (fun cs b => hsel j oj cs b hoj) hQ hy h1
      refine wpOp_mono (fun a' w' h3 => ⟨h3.2.1, ih _ a' w' (inv.set hj hjn) (did.set j) (fun k ok hk hki hun hno => hfree k ok hk hki ?_ hno) (ready_mono hr (Ne.symm hji)) (yields_ext h3.1 h3.2.1) ?_⟩) h2
      · by_cases hjk : j = k
        · subst hjk; exact hjun
        · rwa [getD_set_ne true hjk] at hun
      · rw [Array.setIfInBounds_comm _ _ hji]
        exact h3.2.2
end
section
variable {P : Program} {E : Env} {N : Nat} {st : AS} {th : List NLoc} {z : Zone} {a : Act} {w : World} {AQ : AExit → AS → Prop}
theorem execD_soundF {ops : Array Oper} {kp : AV → AS → Prop} {Q : Exit → Act → World → Prop} {K : AS → Prop} {n : Nat} {fs : List Nat} (hQ : ∀ c a d v w, Q (.panic c) (a.put d v) w → Q (.panic c) a w)
    (hp : ∀ x v st' th' z' a' w', kp x st' → Sim E N st' th' z' a' w' → Rep w' z' th' x v → Q (.panic [{ v := v, recovered := false }]) a' w')
    (hK : ∀ st' th' z' a' w', K st' → Sim E N st' th' z' a' w' → Q .normal a' w') (hd : ∀ o ∈ ops.toList, ∀ i, o.dst = some i → i < N)
    (h1 : Region.noSelect ops = true) (h2 : ∀ s, HeadInv .any ops n s → Did fs s → ∀ i, i < n → s.getD i true = false → ∀ j ∈ Region.ready .any ops s, j < n) :
    ∀ (ord : List Nat) {s : Array Bool} {st : AS} {th : List NLoc} {z : Zone} {a : Act} {w : World}, HeadInv .any ops n s → Did fs s → okOrd ops n ord s = true → Sim E N st th z a w → execD P E N (dsOf ops) kp (ops.toList.drop n) (ordOf ops ord) st K → anyE P ops Q n (tailE P ops Q n) ord.length s a w
  | [], s, st, th, z, a, w, inv, did, ho, h, hx => ⟨ho, exec_sound hp hK _ (fun o ho => hd o (List.mem_of_mem_drop ho)) h hx⟩
  | i :: rest, s, st, th, z, a, w, inv, did, ho, h, hx => by
    simp only [okOrd, Bool.and_eq_true, decide_eq_true_eq] at ho
    obtain ⟨⟨hin, ho1⟩, ho2⟩ := ho
    cases hi : ops[i]? with
    | none => rw [hi] at ho1; simp at ho1
    | some o =>
      simp only [ordOf, List.filterMap_cons, hi] at hx
      unfold execD at hx
      change branch _ (stepG P E N st o.op (fun v st' => execD P E N (dsOf ops) kp (ops.toList.drop n) (ordOf ops rest) (st'.put o.dst v) K) kp) (execD P E N (dsOf ops) kp (ops.toList.drop n) (ordOf ops rest) (st.put o.dst (.r (.tuple #[]))) K) at hx
      have hmem : o ∈ ops.toList := Array.mem_toList_iff.2 (Array.mem_of_getElem? hi)
      have hdo := hd o hmem
      simp only [hi] at ho1
      have ih : ∀ {s : Array Bool} {st : AS} {th : List NLoc} {z : Zone} {a : Act} {w : World}, HeadInv .any ops n s → Did fs s → okOrd ops n rest s = true → Sim E N st th z a w → execD P E N (dsOf ops) kp (ops.toList.drop n) (ordOf ops rest) st K → anyE P ops Q n (tailE P ops Q n) rest.length s a w :=
        execD_soundF hQ hp hK hd h1 h2 rest
      have guard := guard_sound h hx
      split at ho1
      · rename_i hq
        simp only [Bool.and_eq_true] at ho1
        obtain ⟨hr, hf⟩ := ho1
        have hr' : i ∈ Region.ready .any ops s := by simpa using hr
        rcases guard with ⟨hw, hs⟩ | ⟨hw, hs⟩
        · obtain ⟨x, hqv, hs⟩ := stepG_quiet hq hs
          obtain ⟨v, hrep, hrun⟩ := qv_sound h o hqv
          exact anyE_firstF hi (Region.noSelect_spec h1) (fun c a w => hQ c a _ _ w) h2 hin (fun s a w hL => seqB_ready hL.1) _ s a w inv did (Region.free_spec hi hf) hr' (.inl ⟨hw, fun w' e => hrun w' (e.sameK h)⟩)
            (ih (inv.set hr' hin) (did.set i) ho2 (h.put hrep o.dst hdo) hs)
        · exact anyE_firstF hi (Region.noSelect_spec h1) (fun c a w => hQ c a _ _ w) h2 hin (fun s a w hL => seqB_ready hL.1) _ s a w inv did (Region.free_spec hi hf) hr' (.inr ⟨hw, rfl⟩)
            (ih (inv.set hr' hin) (did.set i) ho2 (h.put (.r th undef) o.dst hdo) hs)
      · simp only [decide_eq_true_eq] at ho1
        have hr' : i ∈ Region.ready .any ops s := by rw [ho1]; simp
        refine ⟨fun h0 => (by rw [h0] at hr'; cases hr'), fun j hj => ?_⟩
        rw [ho1] at hj
        obtain rfl : j = i := by simpa using hj
        refine ⟨hin, ?_⟩
        unfold wpOp
        simp only [hi]
        rcases guard with ⟨hw, hs⟩ | ⟨hw, hs⟩
        · rw [if_pos hw]
          exact .inl (stepG_sound h o hs hdo (fun x st' th' z' a' w' g1 g2 g3 => ⟨g3, ih (inv.set hr' hin) (did.set j) ho2 g2 g1⟩) (fun x v st' th' z' w' g1 g2 g3 => hp x v st' th' z' a w' g1 g2 g3))
        · rw [if_neg (by rw [hw]; exact Bool.false_ne_true)]
          exact ⟨Ext.refl w, ih (inv.set hr' hin) (did.set j) ho2 (h.put (.r th undef) o.dst hdo) hs⟩
/-- Moves, one behind the other. -/
def movF (G : List (Nat × List Value)) : List Oper → AS → Option AS
  | [], st => some st
  | ⟨d, .move x, _, _, _, none⟩ :: r, st => match ev st G x with
    | some v => movF G r (st.put d v)
    | none => none
  | _ :: _, _ => none
def okF (ops : Array Oper) (n : Nat) : List Nat → Array Bool → Bool
  | [], _ => true
  | i :: r, s => decide (i < n) && (ops[i]?).isSome && (Region.ready .any ops s).contains i && Region.free .any ops s i && okF ops n r (s.setIfInBounds i true)
def allF (fs : List Nat) (s : Array Bool) : Array Bool := fs.foldl (fun s i => s.setIfInBounds i true) s
def okDrawF (ops : Array Oper) (n : Nat) (fs ord : List Nat) : Bool :=
  Region.noSelect ops && sinkZ ops n fs && Region.chainB .any ops n && decide (n < ops.size) && decide (fs.length + ord.length = n) && okF ops n fs (Array.replicate ops.size false) && okOrd ops n ord (allF fs (Array.replicate ops.size false))
theorem allF_did {fs : List Nat} : ∀ {gs : List Nat} {s : Array Bool}, (∀ f ∈ fs, f ∈ gs ∨ s.getD f true = true) → Did fs (allF gs s)
  | [], s, h => fun f hf => (h f hf).elim (fun h => by cases h) id
  | i :: r, s, h => by
    show Did fs (allF r (s.setIfInBounds i true))
    refine allF_did fun f hf => ?_
    rcases h f hf with h1 | h1
    · rcases List.mem_cons.1 h1 with rfl | h1
      · exact .inr (getD_set_self _ _)
      · exact .inl h1
    · refine .inr ?_
      by_cases e : i = f
      · subst e; exact getD_set_self _ _
      · rw [getD_set_ne true e]; exact h1
theorem take_F {ops : Array Oper} {Q : Exit → Act → World → Prop} {n g : Nat} (hQ : ∀ c a d v w, Q (.panic c) (a.put d v) w → Q (.panic c) a w) (hsel : Region.noSelect ops = true) (hd : ∀ o ∈ ops.toList, ∀ i, o.dst = some i → i < N) :
    ∀ (fs : List Nat) {s : Array Bool} {st st1 : AS} {a : Act}, okF ops n fs s = true → HeadInv .any ops n s → Sim E N st th z a w → movF E.G (ordOf ops fs) st = some st1 →
      (∀ a', HeadInv .any ops n (allF fs s) → Sim E N st1 th z a' w → wpAny P .any ops Q g (allF fs s) a' w) → wpAny P .any ops Q (fs.length + g) s a w
  | [], s, st, st1, a, _, inv, h, hm, hk => by
    simp only [ordOf, List.filterMap_nil, movF, Option.some.injEq] at hm
    subst hm
    have h0 := hk a inv h
    rw [List.length_nil, Nat.zero_add]
    exact h0
  | i :: r, s, st, st1, a, ho, inv, h, hm, hk => by
    simp only [okF, Bool.and_eq_true, decide_eq_true_eq] at ho
    obtain ⟨⟨⟨⟨hin, hsome⟩, hr⟩, hf⟩, ho2⟩ := ho
    obtain ⟨o, hi⟩ := Option.isSome_iff_exists.1 hsome
    have hr' : i ∈ Region.ready .any ops s := by simpa using hr
    have hmem : o ∈ ops.toList := Array.mem_toList_iff.2 (Array.mem_of_getElem? hi)
    simp only [ordOf, List.filterMap_cons, hi] at hm
    obtain ⟨d, op, ty, pos, aft, gd⟩ := o
    unfold movF at hm
    split at hm
    · rename_i hq; cases hq
    · rename_i x d' x' t' p' af' r' e1
      simp only [List.cons.injEq, Oper.mk.injEq] at e1
      obtain ⟨⟨rfl, rfl, rfl, rfl, rfl, rfl⟩, rfl⟩ := e1
      split at hm
      · rename_i v hv
        rw [show (i :: r).length + g = (r.length + g) + 1 by simp; omega]
        refine wpAny_take (v := a.eval x') hi hsel hf hr (fun c a w => hQ c a _ _ w) (.inl ⟨by simp [Region.wanted], fun w' => by simp [execOp]⟩) ?_
        exact take_F hQ hsel hd r ho2 (inv.set hr' hin) (h.put (ev_sound h hv) _ (hd _ hmem)) hm hk
      · cases hm
    · cases hm
theorem awp_df {id : Nat} {ops : Array Oper} {ds : List (Option Nat)} {l l' lf : List Oper} {st1 : AS} (hm : P.follows .mixedOrders = true) (n : Nat) (fs ord : List Nat) (hB : okDrawF ops n fs ord = true) (hd : dstOK N ops = true)
    (hds : dsOf ops = ds) (ht : ops.toList.drop n = l') (hh : ordOf ops ord = l) (hf : ordOf ops fs = lf) (hv : movF E.G lf st = some st1) (h : execD P E N ds (fun x st => AQ (.pan x) st) l' l st1 (AQ .normal)) : AWP P E N (.region id ops true) st AQ := by
  subst hds ht hh hf
  intro Q hQ th z a w hs
  simp only [okDrawF, Bool.and_eq_true, decide_eq_true_eq] at hB
  obtain ⟨⟨⟨⟨⟨⟨b1, b2⟩, b3⟩, b4⟩, b5⟩, b6⟩, b7⟩ := hB
  have hlt : ∀ s, HeadInv .any ops n s → Did fs s → ∀ i, i < n → s.getD i true = false → ∀ j ∈ Region.ready .any ops s, j < n := by
    intro s inv did i hi hs j hj
    by_cases h : j < n
    · exact h
    · have hz : i ∉ fs := fun hz => by rw [did i hz] at hs; cases hs
      exact absurd hj (tail_waitsZ b2 b3 b4 inv _ i rfl hi hz hs j (by omega))
  let Q' : Exit → Act → World → Prop := fun e a w => match e with
    | .panic c => ∀ a' : Act, a'.defers = a.defers → Q (.panic c) a' w
    | e => Q e a w
  refine wp_mono (Q := Q') ?_ (fun e a w hq => by
    cases e
    case panic c => exact hq a rfl
    all_goals exact hq)
  have hQ' : ∀ c a d v w, Q' (.panic c) (a.put d v) w → Q' (.panic c) a w := fun c a d v w hq a' ha => hq a' (by rw [ha]; cases d <;> rfl)
  have inv0 : HeadInv .any ops n (Array.replicate ops.size false) :=
    ⟨by simp, fun j oj _ hl => (by rw [getD_replicate_false] at hl; cases hl), fun t _ ht => getD_in (by simpa using ht) (getD_replicate_false _ _)⟩
  refine wp_region_any hm ?_
  rw [show ops.size = fs.length + (ord.length + (ops.size - n)) by omega]
  refine take_F (P := P) (n := n) (E := E) (N := N) (th := th) (z := z) (g := ord.length + (ops.size - n)) hQ' b1 (dstOK_spec hd) fs (st1 := st1) (by rw [show fs.length + (ord.length + (ops.size - n)) = ops.size by omega]; exact b6) (by rw [show fs.length + (ord.length + (ops.size - n)) = ops.size by omega]; exact inv0) (hs.ext (ext_drew w)) hv (fun a' inv hsim => ?_)
  have did : Did fs (allF fs (Array.replicate ops.size false)) := allF_did fun f hf => .inl hf
  rw [show fs.length + (ord.length + (ops.size - n)) = ops.size by omega] at inv ⊢
  have key := execD_soundF (Q := Q') (K := AQ .normal) (kp := fun x st => AQ (.pan x) st) (P := P) (fs := fs) hQ' (fun x v st' th' z' a' w' g1 g2 g3 a2 ha => hQ.2.2.2 x v st' th' z' w' g1 g2.mem g3 a2 (ha.trans g2.dfs))
    (fun st' th' z' a' w' g1 g2 => hQ.1 st' th' z' a' w' g1 g2) (dstOK_spec hd) b1 hlt ord inv did b7 hsim h
  exact anyE_out (g := ops.size - n) (fun s a w hL => by
    have := wpAny_of_seq (md := .any) (Q' := Q') (ops.toList.drop n) n s a w (fun j => by simp [List.getElem?_drop]) (by simpa using hL.1) hL.2
    simpa using this) _ _ _ _ key
end
section
variable {P : Program} {E : Env} {N : Nat} {st : AS} {AQ : AExit → AS → Prop}
attribute [go_sem] movF
theorem rF {id : Nat} {ops : Array Oper} {ds : List (Option Nat)} {l l' lf : List Oper} {st1 : AS} (hm : P.follows .mixedOrders = true) (n : Nat) (fs ord : List Nat)
    (h : ∀ (K : AS → Prop) (kp : AV → AS → Prop), (∀ st', AQ .normal st' → K st') → (∀ x st', AQ (.pan x) st' → kp x st') → exD P E N ds kp l' l st1 K)
    (hB : okDrawF ops n fs ord = true := by kernel_rfl) (hd : dstOK N ops = true := by kernel_rfl) (hg : ((ordOf ops ord).all fun o => isG o.op) = true := by kernel_rfl)
    (hds : dsOf ops = ds := by simp only [go_sem]; rfl) (ht : ops.toList.drop n = l' := by simp only [go_sem]; rfl) (hh : ordOf ops ord = l := by simp only [go_sem]; rfl) (hf : ordOf ops fs = lf := by simp only [go_sem]; rfl)
    (hv : movF E.G lf st = some st1 := by simp only [go_sem]; rfl) : AWP P E N (.region id ops true) st AQ :=
  awp_df hm n fs ord hB hd hds ht hh hf hv (execD_of (by rw [← hh]; exact hg) (h _ _ (fun _ h => h) (fun _ _ h => h)))
end
end Go.AM
/- Locks: the program's have. -/
namespace Go.AM
open Go Go.RowKit
open Go.Proofs.YteebiklebedneaaDoor (LK findM isK haveM haveM_find)
theorem retA_norm' {P : Program} {E : Env} {N : Nat} {rs : List ResultVar} {Q R : AV → List (Nat × Nd) → Nat → Prop} {st : AS} (h : retA P E N rs Q R .ret st) : retA P E N rs Q R .normal st := h
attribute [local irreducible] AWP retA
def unitV : AV := .r (.tuple #[])
set_option maxRecDepth 100000 in
set_option maxHeartbeats 4000000 in
theorem have_in (G : List (Nat × List Value)) (l1 l2 : List LK) (n1 : l1.length ≤ 1048576) (x : LK) (h : 0 ≤ findM x.t x.s l1) :
    Con Go.Proofs.Tryd.prog G 51 [.p 0 0 0, .agg (eK x)] [(0, .box 41 [.s 1 0 l1.length, .s 2 0 l2.length]), (1, .lst 82 3 (l1.map eK)), (2, .lst 82 3 (l2.map eK))] 3
      (Is (.tup []) [(0, .box 41 [.s 1 0 (haveM x l1).length, .s 2 0 l2.length]), (1, .lst 82 3 ((haveM x l1).map eK)), (2, .lst 82 3 (l2.map eK))] 3) No := by
  rcases haveM_find x l1 with ⟨h1, _, _⟩ | ⟨j, y, h1, h2, h3, h4, h5⟩
  · omega
  have hj : j < l1.length := (List.getElem?_eq_some_iff.1 h2).1
  have fc := find_con G false l1 n1 x.t x.s
  rw [h1] at fc
  have hl : (haveM x l1).length = l1.length := by rw [h5, List.length_set]
  have hst : List.set (l1.map eK) j (eK ⟨y.t, y.s, x.m⟩) = (haveM x l1).map eK := by rw [h5, List.map_set]
  simp only [eK] at hst
  have z1 : ((j : Int) < (l1.length : Int)) = True := eq_true (by omega)
  have d1 : decide ((j : Int) ≥ 0) = true := decide_eq_true (by omega)
  refine con_of_awp Go.Proofs.Tryd.func51 rfl (by kernel_rfl) (of_decide_eq_true (by kernel_rfl)) ?_; intro E hG hE; subst hG; simp only [ent]
  (repeat' (first | refine awp_seq ?_ | refine awp_block ?_ | refine awp_skip ?_ | refine awp_exit ?_ | ((first | refine rR (fun K kp hK hkp => ?_) | refine rD (id := 1) mixed 10 [0,1,2,3,4,5,6,7,8,9] (fun K kp hK hkp => ?_) | refine rD (id := 3) mixed 9 [0,1,2,3,4,5,6,7,8] (fun K kp hK hkp => ?_) | refine rX (id := 4) mixed [] 11 [0,1,2,3,4,5,6,7,8,9,10] (fun K kp hK hkp => ?_) | refine cR fc ?_ | refine cD fc ?_ | refine cX fc ?_ | refine iG ?_ | refine iD ?_ | refine iX ?_); simp (implicitDefEqProofs := false) (maxSteps := 2000000) (disch := omega) only [go_sem, eK, d1, z1, h2, splice]; (repeat' (first | (refine hK _ ?_; clear hK hkp kp K) | (with_reducible refine And.intro ?_ ?_) | omega))) | ((first | refine aG (fun h => ?_) (fun h => ?_) | refine aD (fun h => ?_) (fun h => ?_) | refine aX (fun h => ?_) (fun h => ?_)) <;> simp only [h]) | refine awp_cond_t rfl ?_ | refine awp_cond_f rfl ?_ | ((refine awp_cond rfl (fun h => ?_) (fun h => ?_) <;> try simp only [ifs] at h) <;> (try (exfalso; omega))) | refine awp_ret ?_))
  rw [hl]
  (refine retA_is (by (simp (implicitDefEqProofs := false) (maxSteps := 2000000) (disch := omega) only [go_sem, Go.Proofs.Tryd.results51, hst]); rfl) ?_; refine (embV [0, 1, 2] ?_ ?_ ?_ ?_ ?_ ?_).s <;> simp [oneA, okO, lk, ren, renL, renNd, by_, hE, hst] <;> (try (intro i hi; first | (rcases (by omega : i = 0 ∨ i = 1 ∨ i = 2) with rfl | rfl | rfl <;> rfl) | (rcases (by omega : i = 0 ∨ i = 1) with rfl | rfl <;> rfl))))
set_option maxRecDepth 100000 in
set_option maxHeartbeats 4000000 in
theorem have_app (G : List (Nat × List Value)) (l1 l2 : List LK) (n1 : l1.length ≤ 1048576) (x : LK) (h : findM x.t x.s l1 < 0) :
    Con Go.Proofs.Tryd.prog G 51 [.p 0 0 0, .agg (eK x)] [(0, .box 41 [.s 1 0 l1.length, .s 2 0 l2.length]), (1, .lst 82 3 (l1.map eK)), (2, .lst 82 3 (l2.map eK))] 3
      (Is (.tup []) [(0, .box 41 [.s 3 0 (haveM x l1).length, .s 2 0 l2.length]), (3, .lst 82 3 ((haveM x l1).map eK)), (2, .lst 82 3 (l2.map eK))] 4) No := by
  rcases haveM_find x l1 with ⟨h1, h2, _⟩ | ⟨j, y, h1, h2, h3, h4, h5⟩
  · have fc := find_con G false l1 n1 x.t x.s
    rw [h1] at fc
    refine con_of_awp Go.Proofs.Tryd.func51 rfl (by kernel_rfl) (of_decide_eq_true (by kernel_rfl)) ?_; intro E hG hE; subst hG; simp only [ent]
    (repeat' (first | refine awp_seq ?_ | refine awp_block ?_ | refine awp_skip ?_ | refine awp_exit ?_ | ((first | refine rR (fun K kp hK hkp => ?_) | refine rD (id := 1) mixed 10 [0,1,2,3,4,5,6,7,8,9] (fun K kp hK hkp => ?_) | refine rD (id := 3) mixed 9 [0,1,2,3,4,5,6,7,8] (fun K kp hK hkp => ?_) | refine rF (id := 4) mixed 7 [0] [1,2,3,4,5,6] (fun K kp hK hkp => ?_) | refine cR fc ?_ | refine cD fc ?_ | refine cX fc ?_ | refine iG ?_ | refine iD ?_ | refine iX ?_); simp (implicitDefEqProofs := false) (maxSteps := 2000000) (disch := omega) only [go_sem, eK]; (repeat' (first | (refine hK _ ?_; clear hK hkp kp K) | (with_reducible refine And.intro ?_ ?_) | omega))) | ((first | refine aG (fun h => ?_) (fun h => ?_) | refine aD (fun h => ?_) (fun h => ?_) | refine aX (fun h => ?_) (fun h => ?_)) <;> simp only [h]) | refine awp_cond_t rfl ?_ | refine awp_cond_f rfl ?_ | ((refine awp_cond rfl (fun h => ?_) (fun h => ?_) <;> try simp only [ifs] at h) <;> (try (exfalso; omega))) | refine awp_ret ?_))
    rw [h2]
    refine retA_norm' ?_
    (refine retA_is (by (simp (implicitDefEqProofs := false) (maxSteps := 2000000) (disch := omega) only [go_sem, Go.Proofs.Tryd.results51, eK]); rfl) ?_; refine (embV [0, 1, 2, 5] ?_ ?_ ?_ ?_ ?_ ?_).s <;> simp [oneA, okO, lk, ren, renL, renNd, by_, hE, eK] <;> (try (intro i hi; first | (rcases (by omega : i = 0 ∨ i = 1 ∨ i = 2) with rfl | rfl | rfl <;> rfl) | (rcases (by omega : i = 0 ∨ i = 1) with rfl | rfl <;> rfl))))
  · omega
end Go.AM
/- Locks copied. -/
namespace Go.AM
open Go Go.RowKit
open Go.Proofs.YteebiklebedneaaDoor (LK)
attribute [local irreducible] AWP retA
def nilV : AV := .r (.slice none 0 0)
set_option maxRecDepth 100000 in
set_option maxHeartbeats 8000000 in
theorem locksCopy_con (G : List (Nat × List Value)) (t1 t2 : Bool) (l1 l2 : List LK) (n1 : l1.length ≤ 1048576) (n2 : l2.length ≤ 1048576) : Con Go.Proofs.Tryd.prog G 19 [.agg [.ro t1 3 (l1.map eK), .ro t2 3 (l2.map eK)]] [] 0 (Is (.agg [.ro true 3 (l1.map eK), .ro true 3 (l2.map eK)]) [] 0) No := by
  refine con_of_awp Go.Proofs.Tryd.func19 rfl (by kernel_rfl) (of_decide_eq_true (by kernel_rfl)) ?_; intro E hG hE; subst hG; simp only [ent]
  (repeat' (first | refine awp_seq ?_ | refine awp_block ?_ | refine awp_skip ?_ | refine awp_exit ?_ | ((first | refine rR (fun K kp hK hkp => ?_) | refine rD (id := 5) mixed 8 [0,1,2,3,4,5,6,7] (fun K kp hK hkp => ?_) | refine rD (id := 9) mixed 8 [0,1,2,3,4,5,6,7] (fun K kp hK hkp => ?_) | refine iG ?_ | refine iD ?_); simp (implicitDefEqProofs := false) (maxSteps := 2000000) (disch := omega) only [go_sem, eK]; (repeat' (first | (refine hK _ ?_; clear hK hkp kp K) | (with_reducible refine And.intro ?_ ?_) | omega))) | ((first | refine aG (fun h => ?_) (fun h => ?_) | refine aD (fun h => ?_) (fun h => ?_) | refine aX (fun h => ?_) (fun h => ?_)) <;> simp only [h]) | refine awp_cond_t rfl ?_ | refine awp_cond_f rfl ?_ | ((refine awp_cond rfl (fun h => ?_) (fun h => ?_) <;> try simp only [ifs] at h) <;> (try (exfalso; omega))) | refine awp_ret ?_))
  (refine AWP.emb (emb_nilB 2 0 82 3 rfl rfl (by simp)) ?_; simp only [List.set_cons_zero, List.set_cons_succ, lk, ↓reduceIte, Nat.reduceAdd])
  refine awp_loop (fun k : Nat => ⟨[(4, .r (.int .i64 k)), (3, .p 2 0 0), (2, .p 1 0 0), (1, .p 0 0 0)], [(0, .box 41 [.ro t1 3 (l1.map eK), .ro t2 3 (l2.map eK)]), (1, .box 41 [.r (.slice none 0 0), .r (.slice none 0 0)]), (2, .box 41 [.s 3 0 k, .r (.slice none 0 0)]), (3, .lst 82 3 ((l1.take k).map eK))], 4⟩) (fun k => k ≤ l1.length) (fun k => l1.length - k) 0 ?_ ?_ ?_
  · simp
  · (refine emb [0, 1, 2, 3] ?_ ?_ rfl ?_ ?_ ?_ ?_ <;> simp [okM, okO, lk, ren, renL, renNd, by_, hE] <;> (try omega) <;> (try (intro i hi; first | (rcases (by omega : i = 0 ∨ i = 1 ∨ i = 2) with rfl | rfl | rfl <;> rfl) | (rcases (by omega : i = 0 ∨ i = 1) with rfl | rfl <;> rfl))))
  intro k hk
  by_cases hlt : k < l1.length
  · obtain ⟨y, hx⟩ : ∃ x, l1[k]? = some x := ⟨l1[k], by simp [hlt]⟩
    have ht : l1.take (k + 1) = l1.take k ++ [y] := by rw [List.take_add_one, hx]; rfl
    have hl : (l1.take k).length = k := by rw [List.length_take]; omega
    have htk : List.take k (List.take k (l1.map eK)) = List.take k (l1.map eK) := by rw [List.take_take, Nat.min_self]
    (repeat' (first | refine awp_seq ?_ | refine awp_block ?_ | refine awp_skip ?_ | refine awp_exit ?_ | ((first | refine rR (fun K kp hK hkp => ?_) | refine rD (id := 5) mixed 8 [0,1,2,3,4,5,6,7] (fun K kp hK hkp => ?_) | refine rD (id := 9) mixed 8 [0,1,2,3,4,5,6,7] (fun K kp hK hkp => ?_) | refine iG ?_ | refine iD ?_); simp (implicitDefEqProofs := false) (maxSteps := 2000000) (disch := omega) only [go_sem, hx, eK]; (repeat' (first | (refine hK _ ?_; clear hK hkp kp K) | (with_reducible refine And.intro ?_ ?_) | omega))) | ((first | refine aG (fun h => ?_) (fun h => ?_) | refine aD (fun h => ?_) (fun h => ?_) | refine aX (fun h => ?_) (fun h => ?_)) <;> simp only [h]) | refine awp_cond_t rfl ?_ | refine awp_cond_f rfl ?_ | ((refine awp_cond rfl (fun h => ?_) (fun h => ?_) <;> try simp only [ifs] at h) <;> (try (exfalso; omega))) | refine awp_ret ?_))
    ((first | (refine nextB (k + 1) ?_ ?_ ?_) | (refine nextA (k + 1) ?_ ?_ ?_) | (refine nextE (k + 1) ?_ ?_ ?_)); rotate_left; (· (try dsimp only); (first | omega | (simp only [List.length_drop, List.length_cons, List.length_append]; omega) | (simp; done) | (simp; omega))); (· (refine emb [0, 1, 2, 5] ?_ ?_ rfl ?_ ?_ ?_ ?_ <;> simp [okM, okO, lk, ren, renL, renNd, by_, hE, ht, htk, eK] <;> (try omega) <;> (try (intro i hi; first | (rcases (by omega : i = 0 ∨ i = 1 ∨ i = 2) with rfl | rfl | rfl <;> rfl) | (rcases (by omega : i = 0 ∨ i = 1) with rfl | rfl <;> rfl))))))
    omega
  · obtain rfl : k = l1.length := by omega
    rw [List.take_length]
    (repeat' (first | refine awp_seq ?_ | refine awp_block ?_ | refine awp_skip ?_ | refine awp_exit ?_ | ((first | refine rR (fun K kp hK hkp => ?_) | refine rD (id := 5) mixed 8 [0,1,2,3,4,5,6,7] (fun K kp hK hkp => ?_) | refine rD (id := 9) mixed 8 [0,1,2,3,4,5,6,7] (fun K kp hK hkp => ?_) | refine iG ?_ | refine iD ?_); simp (implicitDefEqProofs := false) (maxSteps := 2000000) (disch := omega) only [go_sem]; (repeat' (first | (refine hK _ ?_; clear hK hkp kp K) | (with_reducible refine And.intro ?_ ?_) | omega))) | ((first | refine aG (fun h => ?_) (fun h => ?_) | refine aD (fun h => ?_) (fun h => ?_) | refine aX (fun h => ?_) (fun h => ?_)) <;> simp only [h]) | refine awp_cond_t rfl ?_ | refine awp_cond_f rfl ?_ | ((refine awp_cond rfl (fun h => ?_) (fun h => ?_) <;> try simp only [ifs] at h) <;> (try (exfalso; omega))) | refine awp_ret ?_))
    (refine AWP.emb (emb_nilB 2 1 82 3 rfl rfl (by simp)) ?_; simp only [List.set_cons_zero, List.set_cons_succ, lk, ↓reduceIte, Nat.reduceAdd])
    refine awp_loop (fun k : Nat => ⟨[(5, .r (.int .i64 k)), (3, .p 2 0 0), (2, .p 1 0 0), (1, .p 0 0 0)], [(0, .box 41 [.ro t1 3 (l1.map eK), .ro t2 3 (l2.map eK)]), (1, .box 41 [.r (.slice none 0 0), .r (.slice none 0 0)]), (2, .box 41 [.s 3 0 l1.length, .s 4 0 k]), (3, .lst 82 3 (l1.map eK)), (4, .lst 82 3 ((l2.take k).map eK))], 5⟩) (fun k => k ≤ l2.length) (fun k => l2.length - k) 0 ?_ ?_ ?_
    · simp
    · (refine emb [0, 1, 2, 3, 4] ?_ ?_ rfl ?_ ?_ ?_ ?_ <;> simp [okM, okO, lk, ren, renL, renNd, by_, hE] <;> (try omega) <;> (try (intro i hi; first | (rcases (by omega : i = 0 ∨ i = 1 ∨ i = 2) with rfl | rfl | rfl <;> rfl) | (rcases (by omega : i = 0 ∨ i = 1) with rfl | rfl <;> rfl))))
    intro k hk
    by_cases hlt : k < l2.length
    · obtain ⟨y, hx⟩ : ∃ x, l2[k]? = some x := ⟨l2[k], by simp [hlt]⟩
      have ht : l2.take (k + 1) = l2.take k ++ [y] := by rw [List.take_add_one, hx]; rfl
      have hl : (l2.take k).length = k := by rw [List.length_take]; omega
      have htk : List.take k (List.take k (l2.map eK)) = List.take k (l2.map eK) := by rw [List.take_take, Nat.min_self]
      (repeat' (first | refine awp_seq ?_ | refine awp_block ?_ | refine awp_skip ?_ | refine awp_exit ?_ | ((first | refine rR (fun K kp hK hkp => ?_) | refine rD (id := 5) mixed 8 [0,1,2,3,4,5,6,7] (fun K kp hK hkp => ?_) | refine rD (id := 9) mixed 8 [0,1,2,3,4,5,6,7] (fun K kp hK hkp => ?_) | refine iG ?_ | refine iD ?_); simp (implicitDefEqProofs := false) (maxSteps := 2000000) (disch := omega) only [go_sem, hx, eK]; (repeat' (first | (refine hK _ ?_; clear hK hkp kp K) | (with_reducible refine And.intro ?_ ?_) | omega))) | ((first | refine aG (fun h => ?_) (fun h => ?_) | refine aD (fun h => ?_) (fun h => ?_) | refine aX (fun h => ?_) (fun h => ?_)) <;> simp only [h]) | refine awp_cond_t rfl ?_ | refine awp_cond_f rfl ?_ | ((refine awp_cond rfl (fun h => ?_) (fun h => ?_) <;> try simp only [ifs] at h) <;> (try (exfalso; omega))) | refine awp_ret ?_))
      ((first | (refine nextB (k + 1) ?_ ?_ ?_) | (refine nextA (k + 1) ?_ ?_ ?_) | (refine nextE (k + 1) ?_ ?_ ?_)); rotate_left; (· (try dsimp only); (first | omega | (simp only [List.length_drop, List.length_cons, List.length_append]; omega) | (simp; done) | (simp; omega))); (· (refine emb [0, 1, 2, 3, 6] ?_ ?_ rfl ?_ ?_ ?_ ?_ <;> simp [okM, okO, lk, ren, renL, renNd, by_, hE, ht, htk, eK] <;> (try omega) <;> (try (intro i hi; first | (rcases (by omega : i = 0 ∨ i = 1 ∨ i = 2) with rfl | rfl | rfl <;> rfl) | (rcases (by omega : i = 0 ∨ i = 1) with rfl | rfl <;> rfl))))))
      omega
    · obtain rfl : k = l2.length := by omega
      rw [List.take_length]
      (repeat' (first | refine awp_seq ?_ | refine awp_block ?_ | refine awp_skip ?_ | refine awp_exit ?_ | ((first | refine rR (fun K kp hK hkp => ?_) | refine rD (id := 5) mixed 8 [0,1,2,3,4,5,6,7] (fun K kp hK hkp => ?_) | refine rD (id := 9) mixed 8 [0,1,2,3,4,5,6,7] (fun K kp hK hkp => ?_) | refine iG ?_ | refine iD ?_); simp (implicitDefEqProofs := false) (maxSteps := 2000000) (disch := omega) only [go_sem]; (repeat' (first | (refine hK _ ?_; clear hK hkp kp K) | (with_reducible refine And.intro ?_ ?_) | omega))) | ((first | refine aG (fun h => ?_) (fun h => ?_) | refine aD (fun h => ?_) (fun h => ?_) | refine aX (fun h => ?_) (fun h => ?_)) <;> simp only [h]) | refine awp_cond_t rfl ?_ | refine awp_cond_f rfl ?_ | ((refine awp_cond rfl (fun h => ?_) (fun h => ?_) <;> try simp only [ifs] at h) <;> (try (exfalso; omega))) | refine awp_ret ?_))
      (refine retA_is (by (simp (implicitDefEqProofs := false) (maxSteps := 2000000) (disch := omega) only [go_sem, Go.Proofs.Tryd.results19]); rfl) ?_; refine embS_frz (by simp only [oneA]; simp (implicitDefEqProofs := false) (maxSteps := 2000000) (disch := omega) only [go_sem]; rfl) ?_; refine (embV_nil hE (by simp) ?_).s; simp [oneA, ren, renL])
end Go.AM
/- Rows of numbers: the same lists are the same. -/
namespace Go.AM
open Go Go.RowKit
attribute [local irreducible] AWP retA
def eIs (l : List Int) : List AV := [.ro true 1 (l.map eI)]
@[simp] theorem ptA_eIs (a : List Int) : (∀ x, x ∈ eIs a → PT x) = True := eq_true (by intro x hx; simp [eIs] at hx; subst hx; simp)
instance : PTf eIs := ⟨fun a => of_eq_true (ptA_eIs a)⟩
set_option maxRecDepth 100000 in
set_option maxHeartbeats 4000000 in
theorem sameI_con (G : List (Nat × List Value)) (t t' : Bool) (l : List Int) (hl : l.length ≤ 1048576) : Con Go.Proofs.Tryd.prog G 22 [.ro t 1 (l.map eI), .ro t' 1 (l.map eI)] [] 0 (Is (.r (.bool true)) [] 0) No := by
  refine con_of_awp Go.Proofs.Tryd.func22 rfl (by kernel_rfl) (of_decide_eq_true (by kernel_rfl)) ?_; intro E hG hE; subst hG; simp only [ent]
  (repeat' (first | refine awp_seq ?_ | refine awp_block ?_ | refine awp_skip ?_ | refine awp_exit ?_ | ((first | refine rR (fun K kp hK hkp => ?_) | refine rD (id := 6) mixed 9 [0,1,2,3,4,5,6,7,8] (fun K kp hK hkp => ?_) | refine iG ?_ | refine iD ?_); simp (implicitDefEqProofs := false) (maxSteps := 2000000) (disch := omega) only [go_sem, bne_self_eq_false]; (repeat' (first | (refine hK _ ?_; clear hK hkp kp K) | (with_reducible refine And.intro ?_ ?_) | omega))) | ((first | refine aG (fun h => ?_) (fun h => ?_) | refine aD (fun h => ?_) (fun h => ?_) | refine aX (fun h => ?_) (fun h => ?_)) <;> simp only [h]) | refine awp_cond_t rfl ?_ | refine awp_cond_f rfl ?_ | ((refine awp_cond rfl (fun h => ?_) (fun h => ?_) <;> try simp only [ifs] at h) <;> (try (exfalso; omega))) | refine awp_ret ?_))
  refine awp_loop (fun k : Nat => ⟨[(5, .r (.int .i64 k)), (0, .ro t 1 (l.map eI)), (1, .ro t' 1 (l.map eI))], [], 0⟩) (fun k => k ≤ l.length) (fun k => l.length - k) 0 ?_ ?_ ?_
  · simp
  · (refine emb [] ?_ ?_ rfl ?_ ?_ ?_ ?_ <;> simp [okM, okO, lk, ren, renL, renNd, by_, hE] <;> (try omega) <;> (try (intro i hi; first | (rcases (by omega : i = 0 ∨ i = 1 ∨ i = 2) with rfl | rfl | rfl <;> rfl) | (rcases (by omega : i = 0 ∨ i = 1) with rfl | rfl <;> rfl))))
  intro k hk
  by_cases hlt : k < l.length
  · obtain ⟨x, hx⟩ : ∃ x, l[k]? = some x := ⟨l[k], by simp [hlt]⟩
    have d1 : decide ((k : Int) < (l.length : Int)) = true := decide_eq_true (by omega)
    (repeat' (first | refine awp_seq ?_ | refine awp_block ?_ | refine awp_skip ?_ | refine awp_exit ?_ | ((first | refine rR (fun K kp hK hkp => ?_) | refine rD (id := 6) mixed 9 [0,1,2,3,4,5,6,7,8] (fun K kp hK hkp => ?_) | refine iG ?_ | refine iD ?_); simp (implicitDefEqProofs := false) (maxSteps := 2000000) (disch := omega) only [go_sem, hx, eI, d1, bne_self_eq_false]; (repeat' (first | (refine hK _ ?_; clear hK hkp kp K) | (with_reducible refine And.intro ?_ ?_) | omega))) | ((first | refine aG (fun h => ?_) (fun h => ?_) | refine aD (fun h => ?_) (fun h => ?_) | refine aX (fun h => ?_) (fun h => ?_)) <;> simp only [h]) | refine awp_cond_t rfl ?_ | refine awp_cond_f rfl ?_ | ((refine awp_cond rfl (fun h => ?_) (fun h => ?_) <;> try simp only [ifs] at h) <;> (try (exfalso; omega))) | refine awp_ret ?_))
    ((first | (refine nextB (k + 1) ?_ ?_ ?_) | (refine nextA (k + 1) ?_ ?_ ?_) | (refine nextE (k + 1) ?_ ?_ ?_)); rotate_left; (· (try dsimp only); (first | omega | (simp only [List.length_drop, List.length_cons, List.length_append]; omega) | (simp; done) | (simp; omega))); (· (refine emb [] ?_ ?_ rfl ?_ ?_ ?_ ?_ <;> simp [okM, okO, lk, ren, renL, renNd, by_, hE] <;> (try omega) <;> (try (intro i hi; first | (rcases (by omega : i = 0 ∨ i = 1 ∨ i = 2) with rfl | rfl | rfl <;> rfl) | (rcases (by omega : i = 0 ∨ i = 1) with rfl | rfl <;> rfl))))))
    omega
  · have d1 : decide ((k : Int) < (l.length : Int)) = false := decide_eq_false (by omega)
    (repeat' (first | refine awp_seq ?_ | refine awp_block ?_ | refine awp_skip ?_ | refine awp_exit ?_ | ((first | refine rR (fun K kp hK hkp => ?_) | refine rD (id := 6) mixed 9 [0,1,2,3,4,5,6,7,8] (fun K kp hK hkp => ?_) | refine iG ?_ | refine iD ?_); simp (implicitDefEqProofs := false) (maxSteps := 2000000) (disch := omega) only [go_sem, d1]; (repeat' (first | (refine hK _ ?_; clear hK hkp kp K) | (with_reducible refine And.intro ?_ ?_) | omega))) | ((first | refine aG (fun h => ?_) (fun h => ?_) | refine aD (fun h => ?_) (fun h => ?_) | refine aX (fun h => ?_) (fun h => ?_)) <;> simp only [h]) | refine awp_cond_t rfl ?_ | refine awp_cond_f rfl ?_ | ((refine awp_cond rfl (fun h => ?_) (fun h => ?_) <;> try simp only [ifs] at h) <;> (try (exfalso; omega))) | refine awp_ret ?_))
    (refine retA_is (by (simp (implicitDefEqProofs := false) (maxSteps := 2000000) (disch := omega) only [go_sem, Go.Proofs.Tryd.results22]); rfl) ?_; refine eN hE ?_; simp [oneA, ren, renL])
set_option maxRecDepth 100000 in
set_option maxHeartbeats 4000000 in
theorem sameLs_con (G : List (Nat × List Value)) (t t' : Bool) (l : List (List Int)) (hl : l.length ≤ 1048576) (hs : ∀ x ∈ l, x.length ≤ 1048576) : Con Go.Proofs.Tryd.prog G 26 [.ro t 1 (l.map eIs), .ro t' 1 (l.map eIs)] [] 0 (Is (.r (.bool true)) [] 0) No := by
  refine con_of_awp Go.Proofs.Tryd.func26 rfl (by kernel_rfl) (of_decide_eq_true (by kernel_rfl)) ?_; intro E hG hE; subst hG; simp only [ent]
  (repeat' (first | refine awp_seq ?_ | refine awp_block ?_ | refine awp_skip ?_ | refine awp_exit ?_ | ((first | refine rR (fun K kp hK hkp => ?_) | refine rD (id := 6) mixed 10 [0,1,2,3,4,5,6,7,8,9] (fun K kp hK hkp => ?_) | refine iG ?_ | refine iD ?_); simp (implicitDefEqProofs := false) (maxSteps := 2000000) (disch := omega) only [go_sem, bne_self_eq_false]; (repeat' (first | (refine hK _ ?_; clear hK hkp kp K) | (with_reducible refine And.intro ?_ ?_) | omega))) | ((first | refine aG (fun h => ?_) (fun h => ?_) | refine aD (fun h => ?_) (fun h => ?_) | refine aX (fun h => ?_) (fun h => ?_)) <;> simp only [h]) | refine awp_cond_t rfl ?_ | refine awp_cond_f rfl ?_ | ((refine awp_cond rfl (fun h => ?_) (fun h => ?_) <;> try simp only [ifs] at h) <;> (try (exfalso; omega))) | refine awp_ret ?_))
  refine awp_loop (fun k : Nat => ⟨[(5, .r (.int .i64 k)), (0, .ro t 1 (l.map eIs)), (1, .ro t' 1 (l.map eIs))], [], 0⟩) (fun k => k ≤ l.length) (fun k => l.length - k) 0 ?_ ?_ ?_
  · simp
  · (refine emb [] ?_ ?_ rfl ?_ ?_ ?_ ?_ <;> simp [okM, okO, lk, ren, renL, renNd, by_, hE] <;> (try omega) <;> (try (intro i hi; first | (rcases (by omega : i = 0 ∨ i = 1 ∨ i = 2) with rfl | rfl | rfl <;> rfl) | (rcases (by omega : i = 0 ∨ i = 1) with rfl | rfl <;> rfl))))
  intro k hk
  by_cases hlt : k < l.length
  · obtain ⟨x, hx⟩ : ∃ x, l[k]? = some x := ⟨l[k], by simp [hlt]⟩
    have d1 : decide ((k : Int) < (l.length : Int)) = true := decide_eq_true (by omega)
    have sc := sameI_con E.G true true x (hs x (List.mem_of_getElem? hx))
    (repeat' (first | refine awp_seq ?_ | refine awp_block ?_ | refine awp_skip ?_ | refine awp_exit ?_ | ((first | refine rR (fun K kp hK hkp => ?_) | refine rD (id := 6) mixed 10 [0,1,2,3,4,5,6,7,8,9] (fun K kp hK hkp => ?_) | refine cR sc ?_ | refine cD sc ?_ | refine iG ?_ | refine iD ?_); simp (implicitDefEqProofs := false) (maxSteps := 2000000) (disch := omega) only [go_sem, hx, eIs, d1]; (repeat' (first | (refine hK _ ?_; clear hK hkp kp K) | (with_reducible refine And.intro ?_ ?_) | omega))) | ((first | refine aG (fun h => ?_) (fun h => ?_) | refine aD (fun h => ?_) (fun h => ?_) | refine aX (fun h => ?_) (fun h => ?_)) <;> simp only [h]) | refine awp_cond_t rfl ?_ | refine awp_cond_f rfl ?_ | ((refine awp_cond rfl (fun h => ?_) (fun h => ?_) <;> try simp only [ifs] at h) <;> (try (exfalso; omega))) | refine awp_ret ?_))
    ((first | (refine nextB (k + 1) ?_ ?_ ?_) | (refine nextA (k + 1) ?_ ?_ ?_) | (refine nextE (k + 1) ?_ ?_ ?_)); rotate_left; (· (try dsimp only); (first | omega | (simp only [List.length_drop, List.length_cons, List.length_append]; omega) | (simp; done) | (simp; omega))); (· (refine emb [] ?_ ?_ rfl ?_ ?_ ?_ ?_ <;> simp [okM, okO, lk, ren, renL, renNd, by_, hE] <;> (try omega) <;> (try (intro i hi; first | (rcases (by omega : i = 0 ∨ i = 1 ∨ i = 2) with rfl | rfl | rfl <;> rfl) | (rcases (by omega : i = 0 ∨ i = 1) with rfl | rfl <;> rfl))))))
    omega
  · have d1 : decide ((k : Int) < (l.length : Int)) = false := decide_eq_false (by omega)
    (repeat' (first | refine awp_seq ?_ | refine awp_block ?_ | refine awp_skip ?_ | refine awp_exit ?_ | ((first | refine rR (fun K kp hK hkp => ?_) | refine rD (id := 6) mixed 10 [0,1,2,3,4,5,6,7,8,9] (fun K kp hK hkp => ?_) | refine iG ?_ | refine iD ?_); simp (implicitDefEqProofs := false) (maxSteps := 2000000) (disch := omega) only [go_sem, d1]; (repeat' (first | (refine hK _ ?_; clear hK hkp kp K) | (with_reducible refine And.intro ?_ ?_) | omega))) | ((first | refine aG (fun h => ?_) (fun h => ?_) | refine aD (fun h => ?_) (fun h => ?_) | refine aX (fun h => ?_) (fun h => ?_)) <;> simp only [h]) | refine awp_cond_t rfl ?_ | refine awp_cond_f rfl ?_ | ((refine awp_cond rfl (fun h => ?_) (fun h => ?_) <;> try simp only [ifs] at h) <;> (try (exfalso; omega))) | refine awp_ret ?_))
    (refine retA_is (by (simp (implicitDefEqProofs := false) (maxSteps := 2000000) (disch := omega) only [go_sem, Go.Proofs.Tryd.results26]); rfl) ?_; refine eN hE ?_; simp [oneA, ren, renL])
end Go.AM
/- Locks: the program's Leave. -/
namespace Go.AM
open Go Go.RowKit
open Go.Proofs.YteebiklebedneaaDoor (LK findM isK haveM haveM_find haveM_len modeB firstM lockGood chkM shapeM)
attribute [local irreducible] AWP retA
/-- The first place from one on that can be had now. -/
def nxtF (h q : List LK) : Nat → Nat → Option Nat
  | 0, _ => none
  | f + 1, i => match q[i]? with
    | none => none
    | some x => if firstM h q i x = true then some i else nxtF h q f (i + 1)
def leaveF : Nat → List LK → List LK → List Int → List LK × List LK × List Int
  | 0, h, q, w => (h, q, w)
  | f + 1, h, q, w => match nxtF h q q.length 0 with
    | none => (h, q, w)
    | some i => match q[i]? with
      | none => (h, q, w)
      | some x => leaveF f (haveM x h) (delM q i) (w ++ [x.t])
def keptT (txn : Int) (l : List LK) : List LK := keptK (fun x => x.t == txn) l
def leaveM (l1 l2 : List LK) (txn : Int) : List LK × List LK × List Int := leaveF (keptT txn l2).length (keptT txn l1) (keptT txn l2) []
/-- What stays so in the loop. -/
structure LeaveOk (h q : List LK) (w : List Int) : Prop where
  many : h.length + q.length ≤ 400
  wmany : w.length + q.length ≤ 400
  hm : ∀ y ∈ h, modeB y.m = true
  qm : ∀ y ∈ q, modeB y.m = true
theorem haveM_modes {x : LK} (hx : modeB x.m = true) : ∀ {l : List LK}, (∀ y ∈ l, modeB y.m = true) → ∀ y ∈ haveM x l, modeB y.m = true
  | [], _, y, hy => by simp [haveM] at hy; subst hy; exact hx
  | z :: r, h, y, hy => by
    unfold haveM at hy
    split at hy
    · rcases List.mem_cons.1 hy with rfl | hy
      · exact hx
      · exact h y (by simp [hy])
    · rcases List.mem_cons.1 hy with rfl | hy
      · exact h y (by simp)
      · exact haveM_modes hx (fun u hu => h u (by simp [hu])) y hy
theorem LeaveOk.step {h q : List LK} {w : List Int} (o : LeaveOk h q w) {i : Nat} {x : LK} (hi : q[i]? = some x) : LeaveOk (haveM x h) (delM q i) (w ++ [x.t]) := by
  have hlt := (List.getElem?_eq_some_iff.1 hi).1
  have h1 := haveM_len x h
  have h2 := delM_len hlt
  have h3 := o.many
  have h4 := o.wmany
  have hx := o.qm x (List.mem_of_getElem? hi)
  refine ⟨by omega, by simp; omega, haveM_modes hx o.hm, fun y hy => ?_⟩
  unfold delM at hy
  rcases List.mem_append.1 hy with hy | hy
  · exact o.qm y (List.mem_of_mem_take hy)
  · exact o.qm y (List.mem_of_mem_drop hy)
theorem nxt_stop {h q : List LK} {i : Nat} (hi : q.length ≤ i) (f : Nat) : nxtF h q f i = none := by
  cases f with
  | zero => rfl
  | succ f => rw [nxtF, List.getElem?_eq_none hi]
theorem nxt_go {h q : List LK} {i : Nat} {x : LK} (hx : q[i]? = some x) (hf : firstM h q i x = true) : nxtF h q (q.length - i) i = some i := by
  have := (List.getElem?_eq_some_iff.1 hx).1
  rw [show q.length - i = (q.length - i - 1) + 1 by omega, nxtF, hx]; simp only; rw [if_pos hf]
theorem nxt_on {h q : List LK} {i : Nat} {x : LK} (hx : q[i]? = some x) (hf : firstM h q i x = false) : nxtF h q (q.length - i) i = nxtF h q (q.length - (i + 1)) (i + 1) := by
  have := (List.getElem?_eq_some_iff.1 hx).1
  rw [show q.length - i = (q.length - (i + 1)) + 1 by omega, nxtF, hx]; simp only; rw [if_neg (by simp [hf])]
theorem leave_stop {h q : List LK} {w : List Int} (hn : nxtF h q q.length 0 = none) : leaveF q.length h q w = (h, q, w) := by
  cases hq : q.length with
  | zero => rfl
  | succ f => rw [leaveF, hn]
theorem leave_go {h q : List LK} {w : List Int} {i : Nat} {x : LK} (hx : q[i]? = some x) (hn : nxtF h q q.length 0 = some i) : leaveF q.length h q w = leaveF (delM q i).length (haveM x h) (delM q i) (w ++ [x.t]) := by
  have hlt := (List.getElem?_eq_some_iff.1 hx).1
  rw [delM_len hlt, show q.length = (q.length - 1) + 1 by omega, leaveF, show q.length - 1 + 1 = q.length by omega, hn]
  simp only [hx, Nat.add_sub_cancel]
theorem good_modes0 {l1 l2 : List LK} (h : lockGood l1 l2) : (∀ y ∈ l1, modeB y.m = true) ∧ ∀ y ∈ l2, modeB y.m = true :=
  ⟨fun y hy => (Go.Proofs.YteebiklebedneaaDoor.shape_mode (h.2.1 y hy)).1, fun y hy => by
    obtain ⟨k, hk⟩ := List.mem_iff_getElem?.1 hy
    exact (Go.Proofs.YteebiklebedneaaDoor.shape_mode (h.2.2.2 k y hk).1).1⟩
set_option maxRecDepth 100000 in
theorem mine_con (u : Bool) (txn : Int) (G : List (Nat × List Value)) (x : LK) : Con Go.Proofs.Tryd.prog G 46 [.agg (eK x), .re u [.r (.int .i64 txn)] 0] [] 0 (Is (.r (.bool (x.t == txn))) [] 0) No := by
  refine con_of_awp Go.Proofs.Tryd.func46 rfl (by kernel_rfl) (of_decide_eq_true (by kernel_rfl)) ?_; intro E hG hE; subst hG; simp only [ent]
  (repeat' (first | refine awp_seq ?_ | refine awp_block ?_ | refine awp_skip ?_ | refine awp_exit ?_ | ((first | refine rR (fun K kp hK hkp => ?_) | refine iG ?_); simp (implicitDefEqProofs := false) (maxSteps := 2000000) (disch := omega) only [go_sem, eK]; (repeat' (first | (refine hK _ ?_; clear hK hkp kp K) | (with_reducible refine And.intro ?_ ?_) | omega))) | ((first | refine aG (fun h => ?_) (fun h => ?_) | refine aD (fun h => ?_) (fun h => ?_) | refine aX (fun h => ?_) (fun h => ?_)) <;> simp only [h]) | refine awp_cond_t rfl ?_ | refine awp_cond_f rfl ?_ | ((refine awp_cond rfl (fun h => ?_) (fun h => ?_) <;> try simp only [ifs] at h) <;> (try (exfalso; omega))) | refine awp_ret ?_))
  (refine retA_is (by (simp (implicitDefEqProofs := false) (maxSteps := 2000000) (disch := omega) only [go_sem, Go.Proofs.Tryd.results46]); rfl) ?_; refine eN hE ?_; simp [oneA, ren, renL])
set_option maxRecDepth 100000 in
set_option maxHeartbeats 16000000 in
theorem Leave_good {G : List (Nat × List Value)} (T : TabsL G) (t1 t2 : Bool) (l1 l2 : List LK) (o1 : okKs l1) (o2 : okKs l2) (hg : lockGood l1 l2) (txn : Int) (h1 : 1 ≤ txn) (h2 : txn ≤ 1048576) :
    Con Go.Proofs.Tryd.prog G 20 [.agg [.ro t1 3 (l1.map eK), .ro t2 3 (l2.map eK)], .r (.int .i64 txn)] [] 0
      (Is (.tup [.agg [.ro true 3 ((leaveM l1 l2 txn).1.map eK), .ro true 3 ((leaveM l1 l2 txn).2.1.map eK)], .ro true 1 ((leaveM l1 l2 txn).2.2.map eI), .r (.int .i64 0)]) [] 0) No := by
  have cc := check_con T t1 t2 l1 l2 o1 o2
  rw [Go.Proofs.YteebiklebedneaaDoor.chk_yes hg] at cc
  have oc := own_con G t1 t2 l1 l2 o1.1 o2.1
  have d1 : decide (txn < 1) = false := decide_eq_false (by omega)
  have d2 : decide (txn > 1048576) = false := decide_eq_false (by omega)
  have f1 := deleteFunc_con G l1 46 [.re false [.r (.int .i64 txn)] 0] (fun x => x.t == txn) o1.1 (by simp [borL, bor]) (by simp [renL, ren]) (fun G x => mine_con false txn G x)
  have f2 := deleteFunc_con G l2 46 [.re false [.r (.int .i64 txn)] 0] (fun x => x.t == txn) o2.1 (by simp [borL, bor]) (by simp [renL, ren]) (fun G x => mine_con false txn G x)
  refine con_of_awp Go.Proofs.Tryd.func20 rfl (by kernel_rfl) (of_decide_eq_true (by kernel_rfl)) ?_; intro E hG hE; subst hG; simp only [ent]
  (repeat' (first | refine awp_seq ?_ | refine awp_block ?_ | refine awp_skip ?_ | refine awp_exit ?_ | ((first | refine rR (fun K kp hK hkp => ?_) | refine rX (id := 8) mixed [3,4] 9 [0,1,2,4,5,6,3,7,8] (fun K kp hK hkp => ?_) | refine cR cc ?_ | refine cD cc ?_ | refine cR oc ?_ | refine cD oc ?_ | refine iG ?_ | refine iD ?_); simp (implicitDefEqProofs := false) (maxSteps := 2000000) (disch := omega) only [go_sem, eK, d1, d2]; (repeat' (first | (refine hK _ ?_; clear hK hkp kp K) | (with_reducible refine And.intro ?_ ?_) | omega))) | ((first | refine aG (fun h => ?_) (fun h => ?_) | refine aD (fun h => ?_) (fun h => ?_) | refine aX (fun h => ?_) (fun h => ?_)) <;> simp only [h]) | refine awp_cond_t rfl ?_ | refine awp_cond_f rfl ?_ | ((refine awp_cond rfl (fun h => ?_) (fun h => ?_) <;> try simp only [ifs] at h) <;> (try (exfalso; omega))) | refine awp_ret ?_))
  (refine callX_own [3] (f1) ?_ ?_ ?_ ?_ ?_ ?_ ?_ ?_ ?_ rfl rfl ?_; (· simp [pasL, pas, idx, bor, borL, borC, lk, eK]); (· simp [okO, lk, renNd, renL, ren, by_, eK]); (· (intro i hi; simp only [List.length_cons, List.length_nil] at hi; repeat' (first | omega | exact ⟨_, rfl⟩ | (rcases i with _ | i)))); (· simp); (· simp); (· simp); (· simp); (· simp [eK]); (· simp [eK]); simp only [mapO, fw, rmL, rm, List.map_cons, List.map_nil, List.foldl_cons, List.foldl_nil, List.getElem?_cons_zero, List.getElem?_cons_succ, List.getElem?_nil, List.length_cons, List.length_nil, Nat.zero_add, Nat.sub_self, Nat.add_zero, ↓reduceIte, Nat.reduceEqDiff, reduceCtorEq, Nat.reduceAdd, Nat.reduceSub, List.cons_append, List.nil_append, ren, renL, renNd, eK]; simp (implicitDefEqProofs := false) (maxSteps := 2000000) (disch := omega) only [go_sem, eK]; (repeat' (first | (refine hK _ ?_; clear hK hkp kp K) | (with_reducible refine And.intro ?_ ?_) | omega)))
  (refine callX_own [4] (f2) ?_ ?_ ?_ ?_ ?_ ?_ ?_ ?_ ?_ rfl rfl ?_; (· simp [pasL, pas, idx, bor, borL, borC, lk, eK]); (· simp [okO, lk, renNd, renL, ren, by_, eK]); (· (intro i hi; simp only [List.length_cons, List.length_nil] at hi; repeat' (first | omega | exact ⟨_, rfl⟩ | (rcases i with _ | i)))); (· simp); (· simp); (· simp); (· simp); (· simp [eK]); (· simp [eK]); simp only [mapO, fw, rmL, rm, List.map_cons, List.map_nil, List.foldl_cons, List.foldl_nil, List.getElem?_cons_zero, List.getElem?_cons_succ, List.getElem?_nil, List.length_cons, List.length_nil, Nat.zero_add, Nat.sub_self, Nat.add_zero, ↓reduceIte, Nat.reduceEqDiff, reduceCtorEq, Nat.reduceAdd, Nat.reduceSub, List.cons_append, List.nil_append, ren, renL, renNd, eK]; simp (implicitDefEqProofs := false) (maxSteps := 2000000) (disch := omega) only [go_sem, eK]; (repeat' (first | (refine hK _ ?_; clear hK hkp kp K) | (with_reducible refine And.intro ?_ ?_) | omega)))
  (repeat' (first | refine awp_seq ?_ | refine awp_block ?_ | refine awp_skip ?_ | refine awp_exit ?_ | ((first | refine rR (fun K kp hK hkp => ?_) | refine rD (id := 8) mixed 9 [0,1,2,4,5,6,3,7,8] (fun K kp hK hkp => ?_) | refine iG ?_ | refine iD ?_); simp (implicitDefEqProofs := false) (maxSteps := 2000000) (disch := omega) only [go_sem, eK]; (repeat' (first | (refine hK _ ?_; clear hK hkp kp K) | (with_reducible refine And.intro ?_ ?_) | omega))) | ((first | refine aG (fun h => ?_) (fun h => ?_) | refine aD (fun h => ?_) (fun h => ?_) | refine aX (fun h => ?_) (fun h => ?_)) <;> simp only [h]) | refine awp_cond_t rfl ?_ | refine awp_cond_f rfl ?_ | ((refine awp_cond rfl (fun h => ?_) (fun h => ?_) <;> try simp only [ifs] at h) <;> (try (exfalso; omega))) | refine awp_ret ?_))
  (refine AWP.emb (emb_nil 10 3 1 ?_) ?_; (· rfl); dsimp only)
  obtain ⟨R, hR⟩ : ∃ R, leaveM l1 l2 txn = R := ⟨_, rfl⟩
  rw [hR]
  refine awp_loop (fun d : Nat × List LK × List LK × List Int => ⟨[(11, .r (.int .i64 d.1)), (10, .s 4 0 d.2.2.2.length), (9, .p 1 0 0), (4, .p 0 0 0)], [(0, .box 41 [.r (.slice none 0 0), .r (.slice none 0 0)]), (1, .box 41 [.s 2 0 d.2.1.length, .s 3 0 d.2.2.1.length]), (2, .lst 82 3 (d.2.1.map eK)), (3, .lst 82 3 (d.2.2.1.map eK)), (4, .lst 3 1 (d.2.2.2.map eI))], 5⟩)
    (fun d => d.1 ≤ d.2.2.1.length ∧ LeaveOk d.2.1 d.2.2.1 d.2.2.2 ∧ nxtF d.2.1 d.2.2.1 (d.2.2.1.length - d.1) d.1 = nxtF d.2.1 d.2.2.1 d.2.2.1.length 0 ∧ leaveF d.2.2.1.length d.2.1 d.2.2.1 d.2.2.2 = R) (fun d => 401 * d.2.2.1.length + (d.2.2.1.length - d.1)) (0, keptT txn l1, keptT txn l2, []) ?_ ?_ ?_
  · have g1 := kept_len (fun x => x.t == txn) l1
    have g2 := kept_len (fun x => x.t == txn) l2
    have g3 := hg.1
    obtain ⟨m1, m2⟩ := good_modes0 hg
    refine ⟨Nat.zero_le _, ⟨?_, ?_, fun y hy => m1 y (List.mem_filter.1 hy).1, fun y hy => m2 y (List.mem_filter.1 hy).1⟩, rfl, hR⟩
    · simp only [keptT]; omega
    · simp only [keptT, List.length_nil]; omega
  · (refine emb [2, 5, 3, 4, 6] ?_ ?_ rfl ?_ ?_ ?_ ?_ <;> simp [okM, okO, lk, ren, renL, renNd, by_, hE, keptT] <;> (try omega) <;> (try (intro i hi; first | (rcases (by omega : i = 0 ∨ i = 1 ∨ i = 2) with rfl | rfl | rfl <;> rfl) | (rcases (by omega : i = 0 ∨ i = 1) with rfl | rfl <;> rfl))))
  rintro ⟨i, hh, q, wk⟩ ⟨hi, ok, hn, hl⟩
  simp only at hi ok hn hl ⊢
  have b1 := ok.many
  have b2 := ok.wmany
  by_cases hlt : i < q.length
  · obtain ⟨x, hx⟩ : ∃ x, q[i]? = some x := ⟨q[i], by simp [hlt]⟩
    have fc := first_con T false false hh q (by omega) (by omega) i x hx (ok.qm x (List.mem_of_getElem? hx)) ok.hm
    cases hf : firstM hh q i x
    · rw [hf] at fc
      (repeat' (first | refine awp_seq ?_ | refine awp_block ?_ | refine awp_skip ?_ | refine awp_exit ?_ | ((first | refine rR (fun K kp hK hkp => ?_) | refine rD (id := 8) mixed 9 [0,1,2,4,5,6,3,7,8] (fun K kp hK hkp => ?_) | refine cR fc ?_ | refine cD fc ?_ | refine iG ?_ | refine iD ?_); simp (implicitDefEqProofs := false) (maxSteps := 2000000) (disch := omega) only [go_sem, eK]; (repeat' (first | (refine hK _ ?_; clear hK hkp kp K) | (with_reducible refine And.intro ?_ ?_) | omega))) | ((first | refine aG (fun h => ?_) (fun h => ?_) | refine aD (fun h => ?_) (fun h => ?_) | refine aX (fun h => ?_) (fun h => ?_)) <;> simp only [h]) | refine awp_cond_t rfl ?_ | refine awp_cond_f rfl ?_ | ((refine awp_cond rfl (fun h => ?_) (fun h => ?_) <;> try simp only [ifs] at h) <;> (try (exfalso; omega))) | refine awp_ret ?_))
      ((first | (refine nextB ((i + 1, hh, q, wk)) ?_ ?_ ?_) | (refine nextA ((i + 1, hh, q, wk)) ?_ ?_ ?_) | (refine nextE ((i + 1, hh, q, wk)) ?_ ?_ ?_)); rotate_left; (· (try dsimp only); (first | omega | (simp only [List.length_drop, List.length_cons, List.length_append]; omega) | (simp; done) | (simp; omega))); (· (refine emb [0, 1, 2, 3, 4] ?_ ?_ rfl ?_ ?_ ?_ ?_ <;> simp [okM, okO, lk, ren, renL, renNd, by_, hE] <;> (try omega) <;> (try (intro i hi; first | (rcases (by omega : i = 0 ∨ i = 1 ∨ i = 2) with rfl | rfl | rfl <;> rfl) | (rcases (by omega : i = 0 ∨ i = 1) with rfl | rfl <;> rfl))))))
      exact ⟨Nat.succ_le_of_lt hlt, ok, by rw [← hn, nxt_on hx hf], hl⟩
    · rw [hf] at fc
      have z1 : ((i : Int) < (q.length : Int)) = True := eq_true (by omega)
      have dc := delete_con E.G q i hlt (by omega)
      have dl := delM_len hlt
      have os := ok.step hx
      rw [leave_go hx (by rw [← hn, nxt_go hx hf])] at hl
      (repeat' (first | refine awp_seq ?_ | refine awp_block ?_ | refine awp_skip ?_ | refine awp_exit ?_ | ((first | refine rR (fun K kp hK hkp => ?_) | refine rD (id := 8) mixed 9 [0,1,2,4,5,6,3,7,8] (fun K kp hK hkp => ?_) | refine cR fc ?_ | refine cD fc ?_ | refine iG ?_ | refine iD ?_); simp (implicitDefEqProofs := false) (maxSteps := 2000000) (disch := omega) only [go_sem, eK, hx, z1]; (repeat' (first | (refine hK _ ?_; clear hK hkp kp K) | (with_reducible refine And.intro ?_ ?_) | omega))) | ((first | refine aG (fun h => ?_) (fun h => ?_) | refine aD (fun h => ?_) (fun h => ?_) | refine aX (fun h => ?_) (fun h => ?_)) <;> simp only [h]) | refine awp_cond_t rfl ?_ | refine awp_cond_f rfl ?_ | ((refine awp_cond rfl (fun h => ?_) (fun h => ?_) <;> try simp only [ifs] at h) <;> (try (exfalso; omega))) | refine awp_ret ?_))
      rw [← dl] at dc
      (refine callR_own [3] (dc) ?_ ?_ ?_ ?_ ?_ ?_ ?_ ?_ rfl rfl ?_; (· simp [pasL, pas, idx, bor, borL, borC, lk, eK]); (· simp [okO, lk, renNd, renL, ren, by_, eK]); (· (intro i hi; simp only [List.length_cons, List.length_nil] at hi; repeat' (first | omega | exact ⟨_, rfl⟩ | (rcases i with _ | i)))); (· simp); (· simp); (· simp); (· simp [eK]); (· simp [eK]); simp only [mapO, fw, rmL, rm, List.map_cons, List.map_nil, List.foldl_cons, List.foldl_nil, List.getElem?_cons_zero, List.getElem?_cons_succ, List.getElem?_nil, List.length_cons, List.length_nil, Nat.zero_add, Nat.sub_self, Nat.add_zero, ↓reduceIte, Nat.reduceEqDiff, reduceCtorEq, Nat.reduceAdd, Nat.reduceSub, List.cons_append, List.nil_append, ren, renL, renNd, eK]; simp (implicitDefEqProofs := false) (maxSteps := 2000000) (disch := omega) only [go_sem, eK]; (repeat' (first | (refine hK _ ?_; clear hK hkp kp K) | (with_reducible refine And.intro ?_ ?_) | omega)))
      (repeat' (first | refine awp_seq ?_ | refine awp_block ?_ | refine awp_skip ?_ | refine awp_exit ?_ | ((first | refine rR (fun K kp hK hkp => ?_) | refine rD (id := 8) mixed 9 [0,1,2,4,5,6,3,7,8] (fun K kp hK hkp => ?_) | refine iG ?_ | refine iD ?_); simp (implicitDefEqProofs := false) (maxSteps := 2000000) (disch := omega) only [go_sem, eK]; (repeat' (first | (refine hK _ ?_; clear hK hkp kp K) | (with_reducible refine And.intro ?_ ?_) | omega))) | ((first | refine aG (fun h => ?_) (fun h => ?_) | refine aD (fun h => ?_) (fun h => ?_) | refine aX (fun h => ?_) (fun h => ?_)) <;> simp only [h]) | refine awp_cond_t rfl ?_ | refine awp_cond_f rfl ?_ | ((refine awp_cond rfl (fun h => ?_) (fun h => ?_) <;> try simp only [ifs] at h) <;> (try (exfalso; omega))) | refine awp_ret ?_))
      have os1 := os.many
      have os2 := os.wmany
      have b3 : wk.length + q.length ≤ 400 := b2
      rcases (by omega : 0 ≤ findM x.t x.s hh ∨ findM x.t x.s hh < 0) with hF | hF
      · have hc := have_in E.G hh (delM q i) (by omega) x hF
        simp only [eK] at hc
        (refine callR_own [1, 2, 3] (hc) ?_ ?_ ?_ ?_ ?_ ?_ ?_ ?_ rfl rfl ?_; (· simp [pasL, pas, idx, bor, borL, borC, lk, eK]); (· simp [okO, lk, renNd, renL, ren, by_, eK]); (· (intro i hi; simp only [List.length_cons, List.length_nil] at hi; repeat' (first | omega | exact ⟨_, rfl⟩ | (rcases i with _ | i)))); (· simp); (· simp); (· simp); (· simp [eK]); (· simp [eK]); simp only [mapO, fw, rmL, rm, List.map_cons, List.map_nil, List.foldl_cons, List.foldl_nil, List.getElem?_cons_zero, List.getElem?_cons_succ, List.getElem?_nil, List.length_cons, List.length_nil, Nat.zero_add, Nat.sub_self, Nat.add_zero, ↓reduceIte, Nat.reduceEqDiff, reduceCtorEq, Nat.reduceAdd, Nat.reduceSub, List.cons_append, List.nil_append, ren, renL, renNd, eK]; simp (implicitDefEqProofs := false) (maxSteps := 2000000) (disch := omega) only [go_sem, eK]; (repeat' (first | (refine hK _ ?_; clear hK hkp kp K) | (with_reducible refine And.intro ?_ ?_) | omega)))
        (repeat' (first | refine awp_seq ?_ | refine awp_block ?_ | refine awp_skip ?_ | refine awp_exit ?_ | ((first | refine rR (fun K kp hK hkp => ?_) | refine rD (id := 8) mixed 9 [0,1,2,4,5,6,3,7,8] (fun K kp hK hkp => ?_) | refine iG ?_ | refine iD ?_); simp (implicitDefEqProofs := false) (maxSteps := 2000000) (disch := omega) only [go_sem, eK]; (repeat' (first | (refine hK _ ?_; clear hK hkp kp K) | (with_reducible refine And.intro ?_ ?_) | omega))) | ((first | refine aG (fun h => ?_) (fun h => ?_) | refine aD (fun h => ?_) (fun h => ?_) | refine aX (fun h => ?_) (fun h => ?_)) <;> simp only [h]) | refine awp_cond_t rfl ?_ | refine awp_cond_f rfl ?_ | ((refine awp_cond rfl (fun h => ?_) (fun h => ?_) <;> try simp only [ifs] at h) <;> (try (exfalso; omega))) | refine awp_ret ?_))
        ((first | (refine nextB ((0, haveM x hh, delM q i, wk ++ [x.t])) ?_ ?_ ?_) | (refine nextA ((0, haveM x hh, delM q i, wk ++ [x.t])) ?_ ?_ ?_) | (refine nextE ((0, haveM x hh, delM q i, wk ++ [x.t])) ?_ ?_ ?_)); rotate_left; (· (try dsimp only); (first | omega | (simp only [List.length_drop, List.length_cons, List.length_append]; omega) | (simp; done) | (simp; omega))); (· (refine emb [0, 1, 2, 3, 7] ?_ ?_ rfl ?_ ?_ ?_ ?_ <;> simp [okM, okO, lk, ren, renL, renNd, by_, hE, eI] <;> (try omega) <;> (try (intro i hi; first | (rcases (by omega : i = 0 ∨ i = 1 ∨ i = 2) with rfl | rfl | rfl <;> rfl) | (rcases (by omega : i = 0 ∨ i = 1) with rfl | rfl <;> rfl))))))
        exact ⟨Nat.zero_le _, os, rfl, hl⟩
      · have hc := have_app E.G hh (delM q i) (by omega) x hF
        simp only [eK] at hc
        (refine callR_own [1, 2, 3] (hc) ?_ ?_ ?_ ?_ ?_ ?_ ?_ ?_ rfl rfl ?_; (· simp [pasL, pas, idx, bor, borL, borC, lk, eK]); (· simp [okO, lk, renNd, renL, ren, by_, eK]); (· (intro i hi; simp only [List.length_cons, List.length_nil] at hi; repeat' (first | omega | exact ⟨_, rfl⟩ | (rcases i with _ | i)))); (· simp); (· simp); (· simp); (· simp [eK]); (· simp [eK]); simp only [mapO, fw, rmL, rm, List.map_cons, List.map_nil, List.foldl_cons, List.foldl_nil, List.getElem?_cons_zero, List.getElem?_cons_succ, List.getElem?_nil, List.length_cons, List.length_nil, Nat.zero_add, Nat.sub_self, Nat.add_zero, ↓reduceIte, Nat.reduceEqDiff, reduceCtorEq, Nat.reduceAdd, Nat.reduceSub, List.cons_append, List.nil_append, ren, renL, renNd, eK]; simp (implicitDefEqProofs := false) (maxSteps := 2000000) (disch := omega) only [go_sem, eK]; (repeat' (first | (refine hK _ ?_; clear hK hkp kp K) | (with_reducible refine And.intro ?_ ?_) | omega)))
        (repeat' (first | refine awp_seq ?_ | refine awp_block ?_ | refine awp_skip ?_ | refine awp_exit ?_ | ((first | refine rR (fun K kp hK hkp => ?_) | refine rD (id := 8) mixed 9 [0,1,2,4,5,6,3,7,8] (fun K kp hK hkp => ?_) | refine iG ?_ | refine iD ?_); simp (implicitDefEqProofs := false) (maxSteps := 2000000) (disch := omega) only [go_sem, eK]; (repeat' (first | (refine hK _ ?_; clear hK hkp kp K) | (with_reducible refine And.intro ?_ ?_) | omega))) | ((first | refine aG (fun h => ?_) (fun h => ?_) | refine aD (fun h => ?_) (fun h => ?_) | refine aX (fun h => ?_) (fun h => ?_)) <;> simp only [h]) | refine awp_cond_t rfl ?_ | refine awp_cond_f rfl ?_ | ((refine awp_cond rfl (fun h => ?_) (fun h => ?_) <;> try simp only [ifs] at h) <;> (try (exfalso; omega))) | refine awp_ret ?_))
        ((first | (refine nextB ((0, haveM x hh, delM q i, wk ++ [x.t])) ?_ ?_ ?_) | (refine nextA ((0, haveM x hh, delM q i, wk ++ [x.t])) ?_ ?_ ?_) | (refine nextE ((0, haveM x hh, delM q i, wk ++ [x.t])) ?_ ?_ ?_)); rotate_left; (· (try dsimp only); (first | omega | (simp only [List.length_drop, List.length_cons, List.length_append]; omega) | (simp; done) | (simp; omega))); (· (refine emb [0, 1, 6, 3, 8] ?_ ?_ rfl ?_ ?_ ?_ ?_ <;> simp [okM, okO, lk, ren, renL, renNd, by_, hE, eI] <;> (try omega) <;> (try (intro i hi; first | (rcases (by omega : i = 0 ∨ i = 1 ∨ i = 2) with rfl | rfl | rfl <;> rfl) | (rcases (by omega : i = 0 ∨ i = 1) with rfl | rfl <;> rfl))))))
        exact ⟨Nat.zero_le _, os, rfl, hl⟩
  · obtain rfl : i = q.length := by omega
    rw [Nat.sub_self] at hn
    rw [leave_stop hn.symm] at hl
    subst hl
    simp only
    have oc2 := own_con E.G false false hh q (by omega) (by omega)
    (repeat' (first | refine awp_seq ?_ | refine awp_block ?_ | refine awp_skip ?_ | refine awp_exit ?_ | ((first | refine rR (fun K kp hK hkp => ?_) | refine rD (id := 8) mixed 9 [0,1,2,4,5,6,3,7,8] (fun K kp hK hkp => ?_) | refine cR oc2 ?_ | refine cD oc2 ?_ | refine iG ?_ | refine iD ?_); simp (implicitDefEqProofs := false) (maxSteps := 2000000) (disch := omega) only [go_sem, eK]; (repeat' (first | (refine hK _ ?_; clear hK hkp kp K) | (with_reducible refine And.intro ?_ ?_) | omega))) | ((first | refine aG (fun h => ?_) (fun h => ?_) | refine aD (fun h => ?_) (fun h => ?_) | refine aX (fun h => ?_) (fun h => ?_)) <;> simp only [h]) | refine awp_cond_t rfl ?_ | refine awp_cond_f rfl ?_ | ((refine awp_cond rfl (fun h => ?_) (fun h => ?_) <;> try simp only [ifs] at h) <;> (try (exfalso; omega))) | refine awp_ret ?_))
    (refine retA_is (by (simp (implicitDefEqProofs := false) (maxSteps := 2000000) (disch := omega) only [go_sem, Go.Proofs.Tryd.results20]); rfl) ?_; refine embS_frz (by simp only [oneA]; simp (implicitDefEqProofs := false) (maxSteps := 2000000) (disch := omega) only [go_sem]; rfl) ?_; refine (embV_nil hE (by simp) ?_).s; simp [oneA, ren, renL])
end Go.AM
/- Locks: the reference's given. -/
namespace Go.AM
open Go Go.RowKit
open Go.Proofs.YteebiklebedneaaDoor (LK findM isK haveM haveM_find)
attribute [local irreducible] AWP retA
set_option maxRecDepth 100000 in
set_option maxHeartbeats 8000000 in
theorem given_in (G : List (Nat × List Value)) (l1 l2 : List LK) (n1 : l1.length ≤ 1048576) (x : LK) (h : 0 ≤ findM x.t x.s l1) :
    Con Go.Proofs.Tryd.prog G 55 [.agg [.s 0 0 l1.length, .s 1 0 l2.length], .agg (eK x)] [(0, .lst 82 3 (l1.map eK)), (1, .lst 82 3 (l2.map eK))] 2
      (Is (.agg [.s 0 0 (haveM x l1).length, .s 1 0 l2.length]) [(0, .lst 82 3 ((haveM x l1).map eK)), (1, .lst 82 3 (l2.map eK))] 2) No := by
  rcases haveM_find x l1 with ⟨h1, _, _⟩ | ⟨j, y, h1, h2, h3, h4, h5⟩
  · omega
  have hj : j < l1.length := (List.getElem?_eq_some_iff.1 h2).1
  have hl : (haveM x l1).length = l1.length := by rw [h5, List.length_set]
  have hst : List.set (l1.map eK) j (eK ⟨y.t, y.s, x.m⟩) = (haveM x l1).map eK := by rw [h5, List.map_set]
  simp only [eK] at hst
  refine con_of_awp Go.Proofs.Tryd.func55 rfl (by kernel_rfl) (of_decide_eq_true (by kernel_rfl)) ?_; intro E hG hE; subst hG; simp only [ent]
  (repeat' (first | refine awp_seq ?_ | refine awp_block ?_ | refine awp_skip ?_ | refine awp_exit ?_ | ((first | refine rR (fun K kp hK hkp => ?_) | refine rD (id := 4) mixed 20 [0,1,2,3,4,5,6,7,8,9,10,11,12,13,14,15,16,17,18,19] (fun K kp hK hkp => ?_) | refine iG ?_ | refine iD ?_); simp (implicitDefEqProofs := false) (maxSteps := 2000000) (disch := omega) only [go_sem, eK]; (repeat' (first | (refine hK _ ?_; clear hK hkp kp K) | (with_reducible refine And.intro ?_ ?_) | omega))) | ((first | refine aG (fun h => ?_) (fun h => ?_) | refine aD (fun h => ?_) (fun h => ?_) | refine aX (fun h => ?_) (fun h => ?_)) <;> simp only [h]) | refine awp_cond_t rfl ?_ | refine awp_cond_f rfl ?_ | ((refine awp_cond rfl (fun h => ?_) (fun h => ?_) <;> try simp only [ifs] at h) <;> (try (exfalso; omega))) | refine awp_ret ?_))
  refine awp_loop (fun k : Nat => ⟨[(5, .r (.int .i64 k)), (4, .p 4 0 0), (3, .p 3 0 0), (2, .p 2 0 0)], [(0, .lst 82 3 (l1.map eK)), (1, .lst 82 3 (l2.map eK)), (2, .box 41 [.s 0 0 l1.length, .s 1 0 l2.length]), (3, .box 82 (eK x)), (4, .box 41 [.r (.slice none 0 0), .r (.slice none 0 0)])], 5⟩) (fun k => k ≤ j) (fun k => j - k) 0 ?_ ?_ ?_
  · simp
  · (refine emb [0, 1, 2, 3, 4] ?_ ?_ rfl ?_ ?_ ?_ ?_ <;> simp [okM, okO, lk, ren, renL, renNd, by_, hE, eK] <;> (try omega) <;> (try (intro i hi; first | (rcases (by omega : i = 0 ∨ i = 1 ∨ i = 2) with rfl | rfl | rfl <;> rfl) | (rcases (by omega : i = 0 ∨ i = 1) with rfl | rfl <;> rfl))))
  intro k hk
  by_cases hlt : k < j
  · obtain ⟨u, hx⟩ : ∃ u, l1[k]? = some u := ⟨l1[k], by simp [show k < l1.length by omega]⟩
    have hu := h4 k u hlt hx
    have z1 : ((k : Int) < (l1.length : Int)) = True := eq_true (by omega)
    unfold isK at hu
    cases e1 : (u.t == x.t)
    · (repeat' (first | refine awp_seq ?_ | refine awp_block ?_ | refine awp_skip ?_ | refine awp_exit ?_ | ((first | refine rR (fun K kp hK hkp => ?_) | refine rD (id := 4) mixed 20 [0,1,2,3,4,5,6,7,8,9,10,11,12,13,14,15,16,17,18,19] (fun K kp hK hkp => ?_) | refine iG ?_ | refine iD ?_); simp (implicitDefEqProofs := false) (maxSteps := 2000000) (disch := omega) only [go_sem, eK, hx, e1, z1]; (repeat' (first | (refine hK _ ?_; clear hK hkp kp K) | (with_reducible refine And.intro ?_ ?_) | omega))) | ((first | refine aG (fun h => ?_) (fun h => ?_) | refine aD (fun h => ?_) (fun h => ?_) | refine aX (fun h => ?_) (fun h => ?_)) <;> simp only [h]) | refine awp_cond_t rfl ?_ | refine awp_cond_f rfl ?_ | ((refine awp_cond rfl (fun h => ?_) (fun h => ?_) <;> try simp only [ifs] at h) <;> (try (exfalso; omega))) | refine awp_ret ?_))
      ((first | (refine nextB (k + 1) ?_ ?_ ?_) | (refine nextA (k + 1) ?_ ?_ ?_) | (refine nextE (k + 1) ?_ ?_ ?_)); rotate_left; (· (try dsimp only); (first | omega | (simp only [List.length_drop, List.length_cons, List.length_append]; omega) | (simp; done) | (simp; omega))); (· (refine emb [0, 1, 2, 3, 4] ?_ ?_ rfl ?_ ?_ ?_ ?_ <;> simp [okM, okO, lk, ren, renL, renNd, by_, hE, eK] <;> (try omega) <;> (try (intro i hi; first | (rcases (by omega : i = 0 ∨ i = 1 ∨ i = 2) with rfl | rfl | rfl <;> rfl) | (rcases (by omega : i = 0 ∨ i = 1) with rfl | rfl <;> rfl))))))
      omega
    · rw [e1, Bool.true_and] at hu
      (repeat' (first | refine awp_seq ?_ | refine awp_block ?_ | refine awp_skip ?_ | refine awp_exit ?_ | ((first | refine rR (fun K kp hK hkp => ?_) | refine rD (id := 4) mixed 20 [0,1,2,3,4,5,6,7,8,9,10,11,12,13,14,15,16,17,18,19] (fun K kp hK hkp => ?_) | refine iG ?_ | refine iD ?_); simp (implicitDefEqProofs := false) (maxSteps := 2000000) (disch := omega) only [go_sem, eK, hx, e1, hu, z1]; (repeat' (first | (refine hK _ ?_; clear hK hkp kp K) | (with_reducible refine And.intro ?_ ?_) | omega))) | ((first | refine aG (fun h => ?_) (fun h => ?_) | refine aD (fun h => ?_) (fun h => ?_) | refine aX (fun h => ?_) (fun h => ?_)) <;> simp only [h]) | refine awp_cond_t rfl ?_ | refine awp_cond_f rfl ?_ | ((refine awp_cond rfl (fun h => ?_) (fun h => ?_) <;> try simp only [ifs] at h) <;> (try (exfalso; omega))) | refine awp_ret ?_))
      ((first | (refine nextB (k + 1) ?_ ?_ ?_) | (refine nextA (k + 1) ?_ ?_ ?_) | (refine nextE (k + 1) ?_ ?_ ?_)); rotate_left; (· (try dsimp only); (first | omega | (simp only [List.length_drop, List.length_cons, List.length_append]; omega) | (simp; done) | (simp; omega))); (· (refine emb [0, 1, 2, 3, 4] ?_ ?_ rfl ?_ ?_ ?_ ?_ <;> simp [okM, okO, lk, ren, renL, renNd, by_, hE, eK] <;> (try omega) <;> (try (intro i hi; first | (rcases (by omega : i = 0 ∨ i = 1 ∨ i = 2) with rfl | rfl | rfl <;> rfl) | (rcases (by omega : i = 0 ∨ i = 1) with rfl | rfl <;> rfl))))))
      omega
  · obtain rfl : k = j := by omega
    have z1 : ((k : Int) < (l1.length : Int)) = True := eq_true (by omega)
    unfold isK at h3
    simp only [Bool.and_eq_true] at h3
    (repeat' (first | refine awp_seq ?_ | refine awp_block ?_ | refine awp_skip ?_ | refine awp_exit ?_ | ((first | refine rR (fun K kp hK hkp => ?_) | refine rD (id := 4) mixed 20 [0,1,2,3,4,5,6,7,8,9,10,11,12,13,14,15,16,17,18,19] (fun K kp hK hkp => ?_) | refine iG ?_ | refine iD ?_); simp (implicitDefEqProofs := false) (maxSteps := 2000000) (disch := omega) only [go_sem, eK, h2, h3.1, h3.2, z1, splice]; (repeat' (first | (refine hK _ ?_; clear hK hkp kp K) | (with_reducible refine And.intro ?_ ?_) | omega))) | ((first | refine aG (fun h => ?_) (fun h => ?_) | refine aD (fun h => ?_) (fun h => ?_) | refine aX (fun h => ?_) (fun h => ?_)) <;> simp only [h]) | refine awp_cond_t rfl ?_ | refine awp_cond_f rfl ?_ | ((refine awp_cond rfl (fun h => ?_) (fun h => ?_) <;> try simp only [ifs] at h) <;> (try (exfalso; omega))) | refine awp_ret ?_))
    rw [hl]
    (refine retA_is (by (simp (implicitDefEqProofs := false) (maxSteps := 2000000) (disch := omega) only [go_sem, Go.Proofs.Tryd.results55, hst]); rfl) ?_; refine (embV [0, 1] ?_ ?_ ?_ ?_ ?_ ?_).s <;> simp [oneA, okO, lk, ren, renL, renNd, by_, hE, hst] <;> (try (intro i hi; first | (rcases (by omega : i = 0 ∨ i = 1 ∨ i = 2) with rfl | rfl | rfl <;> rfl) | (rcases (by omega : i = 0 ∨ i = 1) with rfl | rfl <;> rfl))))
set_option maxRecDepth 100000 in
set_option maxHeartbeats 8000000 in
theorem given_app (G : List (Nat × List Value)) (l1 l2 : List LK) (n1 : l1.length ≤ 1048576) (x : LK) (h : findM x.t x.s l1 < 0) :
    Con Go.Proofs.Tryd.prog G 55 [.agg [.s 0 0 l1.length, .s 1 0 l2.length], .agg (eK x)] [(0, .lst 82 3 (l1.map eK)), (1, .lst 82 3 (l2.map eK))] 2
      (Is (.agg [.s 2 0 (haveM x l1).length, .s 1 0 l2.length]) [(2, .lst 82 3 ((haveM x l1).map eK)), (1, .lst 82 3 (l2.map eK))] 3) No := by
  rcases haveM_find x l1 with ⟨h1, h2, h3⟩ | ⟨j, y, h1, h2, h3, h4, h5⟩
  rotate_left
  · omega
  rw [List.any_eq_false] at h3
  refine con_of_awp Go.Proofs.Tryd.func55 rfl (by kernel_rfl) (of_decide_eq_true (by kernel_rfl)) ?_; intro E hG hE; subst hG; simp only [ent]
  (repeat' (first | refine awp_seq ?_ | refine awp_block ?_ | refine awp_skip ?_ | refine awp_exit ?_ | ((first | refine rR (fun K kp hK hkp => ?_) | refine rD (id := 4) mixed 20 [0,1,2,3,4,5,6,7,8,9,10,11,12,13,14,15,16,17,18,19] (fun K kp hK hkp => ?_) | refine iG ?_ | refine iD ?_); simp (implicitDefEqProofs := false) (maxSteps := 2000000) (disch := omega) only [go_sem, eK]; (repeat' (first | (refine hK _ ?_; clear hK hkp kp K) | (with_reducible refine And.intro ?_ ?_) | omega))) | ((first | refine aG (fun h => ?_) (fun h => ?_) | refine aD (fun h => ?_) (fun h => ?_) | refine aX (fun h => ?_) (fun h => ?_)) <;> simp only [h]) | refine awp_cond_t rfl ?_ | refine awp_cond_f rfl ?_ | ((refine awp_cond rfl (fun h => ?_) (fun h => ?_) <;> try simp only [ifs] at h) <;> (try (exfalso; omega))) | refine awp_ret ?_))
  refine awp_loop (fun k : Nat => ⟨[(5, .r (.int .i64 k)), (4, .p 4 0 0), (3, .p 3 0 0), (2, .p 2 0 0)], [(0, .lst 82 3 (l1.map eK)), (1, .lst 82 3 (l2.map eK)), (2, .box 41 [.s 0 0 l1.length, .s 1 0 l2.length]), (3, .box 82 (eK x)), (4, .box 41 [.r (.slice none 0 0), .r (.slice none 0 0)])], 5⟩) (fun k => k ≤ l1.length) (fun k => l1.length - k) 0 ?_ ?_ ?_
  · simp
  · (refine emb [0, 1, 2, 3, 4] ?_ ?_ rfl ?_ ?_ ?_ ?_ <;> simp [okM, okO, lk, ren, renL, renNd, by_, hE, eK] <;> (try omega) <;> (try (intro i hi; first | (rcases (by omega : i = 0 ∨ i = 1 ∨ i = 2) with rfl | rfl | rfl <;> rfl) | (rcases (by omega : i = 0 ∨ i = 1) with rfl | rfl <;> rfl))))
  intro k hk
  by_cases hlt : k < l1.length
  · obtain ⟨u, hx⟩ : ∃ u, l1[k]? = some u := ⟨l1[k], by simp [hlt]⟩
    have hu : isK x.t x.s u = false := by simpa using h3 u (List.mem_of_getElem? hx)
    have z1 : ((k : Int) < (l1.length : Int)) = True := eq_true (by omega)
    unfold isK at hu
    cases e1 : (u.t == x.t)
    · (repeat' (first | refine awp_seq ?_ | refine awp_block ?_ | refine awp_skip ?_ | refine awp_exit ?_ | ((first | refine rR (fun K kp hK hkp => ?_) | refine rD (id := 4) mixed 20 [0,1,2,3,4,5,6,7,8,9,10,11,12,13,14,15,16,17,18,19] (fun K kp hK hkp => ?_) | refine iG ?_ | refine iD ?_); simp (implicitDefEqProofs := false) (maxSteps := 2000000) (disch := omega) only [go_sem, eK, hx, e1, z1]; (repeat' (first | (refine hK _ ?_; clear hK hkp kp K) | (with_reducible refine And.intro ?_ ?_) | omega))) | ((first | refine aG (fun h => ?_) (fun h => ?_) | refine aD (fun h => ?_) (fun h => ?_) | refine aX (fun h => ?_) (fun h => ?_)) <;> simp only [h]) | refine awp_cond_t rfl ?_ | refine awp_cond_f rfl ?_ | ((refine awp_cond rfl (fun h => ?_) (fun h => ?_) <;> try simp only [ifs] at h) <;> (try (exfalso; omega))) | refine awp_ret ?_))
      ((first | (refine nextB (k + 1) ?_ ?_ ?_) | (refine nextA (k + 1) ?_ ?_ ?_) | (refine nextE (k + 1) ?_ ?_ ?_)); rotate_left; (· (try dsimp only); (first | omega | (simp only [List.length_drop, List.length_cons, List.length_append]; omega) | (simp; done) | (simp; omega))); (· (refine emb [0, 1, 2, 3, 4] ?_ ?_ rfl ?_ ?_ ?_ ?_ <;> simp [okM, okO, lk, ren, renL, renNd, by_, hE, eK] <;> (try omega) <;> (try (intro i hi; first | (rcases (by omega : i = 0 ∨ i = 1 ∨ i = 2) with rfl | rfl | rfl <;> rfl) | (rcases (by omega : i = 0 ∨ i = 1) with rfl | rfl <;> rfl))))))
      omega
    · rw [e1, Bool.true_and] at hu
      (repeat' (first | refine awp_seq ?_ | refine awp_block ?_ | refine awp_skip ?_ | refine awp_exit ?_ | ((first | refine rR (fun K kp hK hkp => ?_) | refine rD (id := 4) mixed 20 [0,1,2,3,4,5,6,7,8,9,10,11,12,13,14,15,16,17,18,19] (fun K kp hK hkp => ?_) | refine iG ?_ | refine iD ?_); simp (implicitDefEqProofs := false) (maxSteps := 2000000) (disch := omega) only [go_sem, eK, hx, e1, hu, z1]; (repeat' (first | (refine hK _ ?_; clear hK hkp kp K) | (with_reducible refine And.intro ?_ ?_) | omega))) | ((first | refine aG (fun h => ?_) (fun h => ?_) | refine aD (fun h => ?_) (fun h => ?_) | refine aX (fun h => ?_) (fun h => ?_)) <;> simp only [h]) | refine awp_cond_t rfl ?_ | refine awp_cond_f rfl ?_ | ((refine awp_cond rfl (fun h => ?_) (fun h => ?_) <;> try simp only [ifs] at h) <;> (try (exfalso; omega))) | refine awp_ret ?_))
      ((first | (refine nextB (k + 1) ?_ ?_ ?_) | (refine nextA (k + 1) ?_ ?_ ?_) | (refine nextE (k + 1) ?_ ?_ ?_)); rotate_left; (· (try dsimp only); (first | omega | (simp only [List.length_drop, List.length_cons, List.length_append]; omega) | (simp; done) | (simp; omega))); (· (refine emb [0, 1, 2, 3, 4] ?_ ?_ rfl ?_ ?_ ?_ ?_ <;> simp [okM, okO, lk, ren, renL, renNd, by_, hE, eK] <;> (try omega) <;> (try (intro i hi; first | (rcases (by omega : i = 0 ∨ i = 1 ∨ i = 2) with rfl | rfl | rfl <;> rfl) | (rcases (by omega : i = 0 ∨ i = 1) with rfl | rfl <;> rfl))))))
      omega
  · (repeat' (first | refine awp_seq ?_ | refine awp_block ?_ | refine awp_skip ?_ | refine awp_exit ?_ | ((first | refine rR (fun K kp hK hkp => ?_) | refine rD (id := 4) mixed 20 [0,1,2,3,4,5,6,7,8,9,10,11,12,13,14,15,16,17,18,19] (fun K kp hK hkp => ?_) | refine iG ?_ | refine iD ?_); simp (implicitDefEqProofs := false) (maxSteps := 2000000) (disch := omega) only [go_sem, eK]; (repeat' (first | (refine hK _ ?_; clear hK hkp kp K) | (with_reducible refine And.intro ?_ ?_) | omega))) | ((first | refine aG (fun h => ?_) (fun h => ?_) | refine aD (fun h => ?_) (fun h => ?_) | refine aX (fun h => ?_) (fun h => ?_)) <;> simp only [h]) | refine awp_cond_t rfl ?_ | refine awp_cond_f rfl ?_ | ((refine awp_cond rfl (fun h => ?_) (fun h => ?_) <;> try simp only [ifs] at h) <;> (try (exfalso; omega))) | refine awp_ret ?_))
    rw [h2]
    (refine retA_is (by (simp (implicitDefEqProofs := false) (maxSteps := 2000000) (disch := omega) only [go_sem, Go.Proofs.Tryd.results55, eK]); rfl) ?_; refine (embV [0, 1, 6] ?_ ?_ ?_ ?_ ?_ ?_).s <;> simp [oneA, okO, lk, ren, renL, renNd, by_, hE, eK] <;> (try (intro i hi; first | (rcases (by omega : i = 0 ∨ i = 1 ∨ i = 2) with rfl | rfl | rfl <;> rfl) | (rcases (by omega : i = 0 ∨ i = 1) with rfl | rfl <;> rfl))))
end Go.AM
/- Locks: for whom what stands at a place of the queue waits: the program's side. -/
namespace Go.AM
open Go Go.RowKit
open Go.Proofs.YteebiklebedneaaDoor (LK SlAt LksAt TabFits TabJoins fitB joinB modeB shapeM findM agK agR agM ahM wfM modeM firstM lockGood chkM isK sameT sameX fitsL joinsL fittingM)
attribute [local irreducible] AWP retA
def akM (x : LK) (l : List LK) : List Int := (l.filter (agK x)).map (·.t)
theorem filter_eq' {p q : LK → Bool} : ∀ {l : List LK}, (∀ y ∈ l, p y = q y) → l.filter p = l.filter q
  | [], _ => rfl
  | y :: r, h => by
    rw [List.filter_cons, List.filter_cons, h y (by simp), filter_eq' fun z hz => h z (by simp [hz])]
theorem akM_eq {x : LK} {l : List LK} (hx : modeB x.m = true) (hl : ∀ y ∈ l, modeB y.m = true) : akM x l = agM x l := by
  unfold akM agM
  rw [filter_eq' fun y hy => (Go.Proofs.YteebiklebedneaaDoor.agR_eq hx (hl y hy)).symm]
theorem filt_succ {p : LK → Bool} {l : List LK} {k : Nat} {h : LK} (hh : l[k]? = some h) : ((l.take (k + 1)).filter p).map (·.t) = ((l.take k).filter p).map (·.t) ++ (if p h = true then [h.t] else []) := by
  rw [List.take_add_one, hh]
  simp only [Option.toList_some, List.filter_append, List.map_append]
  congr 1
  cases e : p h <;> simp [List.filter, e]
theorem filt_len {p : LK → Bool} (l : List LK) : ((l.filter p).map (·.t)).length ≤ l.length := by rw [List.length_map]; exact List.length_filter_le _ _
theorem fits_get {a b : Int} (h1 : a < 6) (h2 : b < 6) : fitsV[a.toNat * 6 + b.toNat * 1]? = some (.bool (fitB a b)) := by
  rw [Nat.mul_one, fitsV_at (by omega) (by omega)]; rfl
theorem joins_get {a b : Int} (h1 : a < 6) (h2 : b < 6) : joinsV[a.toNat * 6 + b.toNat * 1]? = some (.int .i64 (joinB a b)) := by
  rw [Nat.mul_one, joinsV_at (by omega) (by omega)]; rfl
set_option maxRecDepth 100000 in
set_option maxHeartbeats 8000000 in
theorem waits_con {G : List (Nat × List Value)} (T : TabsL G) (t1 t2 : Bool) (l1 l2 : List LK) (n1 : l1.length ≤ 1048576) (n2 : l2.length ≤ 1048576) (i : Nat) (q : LK) (hi : l2[i]? = some q) (hq : modeB q.m = true) (hm : ∀ y ∈ l1, modeB y.m = true) :
    Con Go.Proofs.Tryd.prog G 56 [.agg [.ro t1 3 (l1.map eK), .ro t2 3 (l2.map eK)], .r (.int .i64 i)] [] 0 (Is (.s 0 0 (wfM l1 l2 i q).length) [(0, .lst 3 1 ((wfM l1 l2 i q).map eI))] 1) No := by
  have hil : i < l2.length := (List.getElem?_eq_some_iff.1 hi).1
  obtain ⟨q1, q2⟩ := Go.Proofs.YteebiklebedneaaDoor.modeB_iff.1 hq
  refine con_of_awp Go.Proofs.Tryd.func56 rfl (by kernel_rfl) (of_decide_eq_true (by kernel_rfl)) ?_; intro E hG hE; subst hG; simp only [ent]
  (repeat' (first | refine awp_seq ?_ | refine awp_block ?_ | refine awp_skip ?_ | refine awp_exit ?_ | ((first | refine rR (fun K kp hK hkp => ?_) | refine rD (id := 6) mixed 22 [0,1,2,3,4,5,6,7,8,9,10,11,12,13,14,15,16,17,18,19,20,21] (fun K kp hK hkp => ?_) | refine iG ?_ | refine iD ?_); simp (implicitDefEqProofs := false) (maxSteps := 2000000) (disch := omega) only [go_sem, hi, eK]; (repeat' (first | (refine hK _ ?_; clear hK hkp kp K) | (with_reducible refine And.intro ?_ ?_) | omega))) | ((first | refine aG (fun h => ?_) (fun h => ?_) | refine aD (fun h => ?_) (fun h => ?_) | refine aX (fun h => ?_) (fun h => ?_)) <;> simp only [h]) | refine awp_cond_t rfl ?_ | refine awp_cond_f rfl ?_ | ((refine awp_cond rfl (fun h => ?_) (fun h => ?_) <;> try simp only [ifs] at h) <;> (try (exfalso; omega))) | refine awp_ret ?_))
  (refine AWP.emb (emb_nil 6 3 1 ?_) ?_; (· rfl); dsimp only)
  refine awp_loop (fun k : Nat => ⟨[(19, .r (.int .i64 k)), (18, .r (.int .i64 l1.length)), (17, .ro t1 3 (l1.map eK)), (6, .s 2 0 (akM q (l1.take k)).length), (5, .p 1 0 0), (2, .p 0 0 0), (1, .r (.int .i64 i))], [(0, .box 41 [.ro t1 3 (l1.map eK), .ro t2 3 (l2.map eK)]), (1, .box 82 (eK q)), (2, .lst 3 1 ((akM q (l1.take k)).map eI))], 3⟩) (fun k => k ≤ l1.length) (fun k => l1.length - k) 0 ?_ ?_ ?_
  · simp
  · (refine emb [0, 1, 2] ?_ ?_ rfl ?_ ?_ ?_ ?_ <;> simp [okM, okO, lk, ren, renL, renNd, by_, hE, eK, akM] <;> (try omega) <;> (try (intro i hi; first | (rcases (by omega : i = 0 ∨ i = 1 ∨ i = 2) with rfl | rfl | rfl <;> rfl) | (rcases (by omega : i = 0 ∨ i = 1) with rfl | rfl <;> rfl))))
  intro k hk
  by_cases hlt : k < l1.length
  · obtain ⟨y, hx⟩ : ∃ x, l1[k]? = some x := ⟨l1[k], by simp [hlt]⟩
    obtain ⟨y1, y2⟩ := Go.Proofs.YteebiklebedneaaDoor.modeB_iff.1 (hm y (List.mem_of_getElem? hx))
    have ht : akM q (l1.take (k + 1)) = akM q (l1.take k) ++ (if agK q y = true then [y.t] else []) := filt_succ hx
    have hle : (akM q (l1.take k)).length ≤ 1048576 := by
      have := filt_len (p := agK q) (l1.take k); have := List.length_take_le k l1; simp only [akM]; omega
    have fg := fits_get (a := y.m) (b := q.m) (by omega) (by omega)
    have z1 : ((0 : Int) ≤ y.m) = True := eq_true (by omega)
    have z2 : (y.m < 6) = True := eq_true (by omega)
    have z3 : ((0 : Int) ≤ q.m) = True := eq_true (by omega)
    have z4 : (q.m < 6) = True := eq_true (by omega)
    cases e1 : (y.s.toList == q.s.toList)
    · (repeat' (first | refine awp_seq ?_ | refine awp_block ?_ | refine awp_skip ?_ | refine awp_exit ?_ | ((first | refine rR (fun K kp hK hkp => ?_) | refine rD (id := 6) mixed 22 [0,1,2,3,4,5,6,7,8,9,10,11,12,13,14,15,16,17,18,19,20,21] (fun K kp hK hkp => ?_) | refine iG ?_ | refine iD ?_); simp (implicitDefEqProofs := false) (maxSteps := 2000000) (disch := omega) only [go_sem, hx, eK, e1]; (repeat' (first | (refine hK _ ?_; clear hK hkp kp K) | (with_reducible refine And.intro ?_ ?_) | omega))) | ((first | refine aG (fun h => ?_) (fun h => ?_) | refine aD (fun h => ?_) (fun h => ?_) | refine aX (fun h => ?_) (fun h => ?_)) <;> simp only [h]) | refine awp_cond_t rfl ?_ | refine awp_cond_f rfl ?_ | ((refine awp_cond rfl (fun h => ?_) (fun h => ?_) <;> try simp only [ifs] at h) <;> (try (exfalso; omega))) | refine awp_ret ?_))
      ((first | (refine nextB (k + 1) ?_ ?_ ?_) | (refine nextA (k + 1) ?_ ?_ ?_) | (refine nextE (k + 1) ?_ ?_ ?_)); rotate_left; (· (try dsimp only); (first | omega | (simp only [List.length_drop, List.length_cons, List.length_append]; omega) | (simp; done) | (simp; omega))); (· (refine emb [0, 1, 2] ?_ ?_ rfl ?_ ?_ ?_ ?_ <;> simp [okM, okO, lk, ren, renL, renNd, by_, hE, eK, ht, agK, e1] <;> (try omega) <;> (try (intro i hi; first | (rcases (by omega : i = 0 ∨ i = 1 ∨ i = 2) with rfl | rfl | rfl <;> rfl) | (rcases (by omega : i = 0 ∨ i = 1) with rfl | rfl <;> rfl))))))
      omega
    cases e2 : (y.t != q.t)
    · (repeat' (first | refine awp_seq ?_ | refine awp_block ?_ | refine awp_skip ?_ | refine awp_exit ?_ | ((first | refine rR (fun K kp hK hkp => ?_) | refine rD (id := 6) mixed 22 [0,1,2,3,4,5,6,7,8,9,10,11,12,13,14,15,16,17,18,19,20,21] (fun K kp hK hkp => ?_) | refine iG ?_ | refine iD ?_); simp (implicitDefEqProofs := false) (maxSteps := 2000000) (disch := omega) only [go_sem, hx, eK, e1, e2]; (repeat' (first | (refine hK _ ?_; clear hK hkp kp K) | (with_reducible refine And.intro ?_ ?_) | omega))) | ((first | refine aG (fun h => ?_) (fun h => ?_) | refine aD (fun h => ?_) (fun h => ?_) | refine aX (fun h => ?_) (fun h => ?_)) <;> simp only [h]) | refine awp_cond_t rfl ?_ | refine awp_cond_f rfl ?_ | ((refine awp_cond rfl (fun h => ?_) (fun h => ?_) <;> try simp only [ifs] at h) <;> (try (exfalso; omega))) | refine awp_ret ?_))
      ((first | (refine nextB (k + 1) ?_ ?_ ?_) | (refine nextA (k + 1) ?_ ?_ ?_) | (refine nextE (k + 1) ?_ ?_ ?_)); rotate_left; (· (try dsimp only); (first | omega | (simp only [List.length_drop, List.length_cons, List.length_append]; omega) | (simp; done) | (simp; omega))); (· (refine emb [0, 1, 2] ?_ ?_ rfl ?_ ?_ ?_ ?_ <;> simp [okM, okO, lk, ren, renL, renNd, by_, hE, eK, ht, agK, e1, e2] <;> (try omega) <;> (try (intro i hi; first | (rcases (by omega : i = 0 ∨ i = 1 ∨ i = 2) with rfl | rfl | rfl <;> rfl) | (rcases (by omega : i = 0 ∨ i = 1) with rfl | rfl <;> rfl))))))
      omega
    cases e3 : fitB y.m q.m
    · rw [e3] at fg
      (repeat' (first | refine awp_seq ?_ | refine awp_block ?_ | refine awp_skip ?_ | refine awp_exit ?_ | ((first | refine rR (fun K kp hK hkp => ?_) | refine rD (id := 6) mixed 22 [0,1,2,3,4,5,6,7,8,9,10,11,12,13,14,15,16,17,18,19,20,21] (fun K kp hK hkp => ?_) | refine iG ?_ | refine iD ?_); simp (implicitDefEqProofs := false) (maxSteps := 2000000) (disch := omega) only [go_sem, hx, eK, e1, e2, T.fits, z1, z2, z3, z4, fg]; (repeat' (first | (refine hK _ ?_; clear hK hkp kp K) | (with_reducible refine And.intro ?_ ?_) | omega))) | ((first | refine aG (fun h => ?_) (fun h => ?_) | refine aD (fun h => ?_) (fun h => ?_) | refine aX (fun h => ?_) (fun h => ?_)) <;> simp only [h]) | refine awp_cond_t rfl ?_ | refine awp_cond_f rfl ?_ | ((refine awp_cond rfl (fun h => ?_) (fun h => ?_) <;> try simp only [ifs] at h) <;> (try (exfalso; omega))) | refine awp_ret ?_))
      ((first | (refine nextB (k + 1) ?_ ?_ ?_) | (refine nextA (k + 1) ?_ ?_ ?_) | (refine nextE (k + 1) ?_ ?_ ?_)); rotate_left; (· (try dsimp only); (first | omega | (simp only [List.length_drop, List.length_cons, List.length_append]; omega) | (simp; done) | (simp; omega))); (· (refine emb [0, 1, 5] ?_ ?_ rfl ?_ ?_ ?_ ?_ <;> simp [okM, okO, lk, ren, renL, renNd, by_, hE, eK, eI, ht, agK, e1, e2, e3] <;> (try omega) <;> (try (intro i hi; first | (rcases (by omega : i = 0 ∨ i = 1 ∨ i = 2) with rfl | rfl | rfl <;> rfl) | (rcases (by omega : i = 0 ∨ i = 1) with rfl | rfl <;> rfl))))))
      omega
    · rw [e3] at fg
      (repeat' (first | refine awp_seq ?_ | refine awp_block ?_ | refine awp_skip ?_ | refine awp_exit ?_ | ((first | refine rR (fun K kp hK hkp => ?_) | refine rD (id := 6) mixed 22 [0,1,2,3,4,5,6,7,8,9,10,11,12,13,14,15,16,17,18,19,20,21] (fun K kp hK hkp => ?_) | refine iG ?_ | refine iD ?_); simp (implicitDefEqProofs := false) (maxSteps := 2000000) (disch := omega) only [go_sem, hx, eK, e1, e2, T.fits, z1, z2, z3, z4, fg]; (repeat' (first | (refine hK _ ?_; clear hK hkp kp K) | (with_reducible refine And.intro ?_ ?_) | omega))) | ((first | refine aG (fun h => ?_) (fun h => ?_) | refine aD (fun h => ?_) (fun h => ?_) | refine aX (fun h => ?_) (fun h => ?_)) <;> simp only [h]) | refine awp_cond_t rfl ?_ | refine awp_cond_f rfl ?_ | ((refine awp_cond rfl (fun h => ?_) (fun h => ?_) <;> try simp only [ifs] at h) <;> (try (exfalso; omega))) | refine awp_ret ?_))
      ((first | (refine nextB (k + 1) ?_ ?_ ?_) | (refine nextA (k + 1) ?_ ?_ ?_) | (refine nextE (k + 1) ?_ ?_ ?_)); rotate_left; (· (try dsimp only); (first | omega | (simp only [List.length_drop, List.length_cons, List.length_append]; omega) | (simp; done) | (simp; omega))); (· (refine emb [0, 1, 2] ?_ ?_ rfl ?_ ?_ ?_ ?_ <;> simp [okM, okO, lk, ren, renL, renNd, by_, hE, eK, ht, agK, e1, e2, e3] <;> (try omega) <;> (try (intro i hi; first | (rcases (by omega : i = 0 ∨ i = 1 ∨ i = 2) with rfl | rfl | rfl <;> rfl) | (rcases (by omega : i = 0 ∨ i = 1) with rfl | rfl <;> rfl))))))
      omega
  · obtain rfl : k = l1.length := by omega
    have mm := Go.Proofs.YteebiklebedneaaDoor.modeM_mem (t := q.t) (s := q.s) hm
    have HW : akM q (l1.take l1.length) = agM q l1 := by rw [List.take_length, akM_eq hq hm]
    rw [HW]
    have fc := find_con E.G t1 l1 n1 q.t q.s
    have hle : (agM q l1).length ≤ 1048576 := by have := filt_len (p := agR q) l1; simp only [agM] at this ⊢; omega
    by_cases e2 : 0 ≤ findM q.t q.s l1
    · have MZ : modeM q.t q.s l1 ≠ 0 := by rcases mm with h | h <;> omega
      have d2 : decide (findM q.t q.s l1 < 0) = false := decide_eq_false (by omega)
      have W : wfM l1 l2 i q = agM q l1 := by rw [wfM, if_neg MZ, List.append_nil]
      rw [W]
      (repeat' (first | refine awp_seq ?_ | refine awp_block ?_ | refine awp_skip ?_ | refine awp_exit ?_ | ((first | refine rR (fun K kp hK hkp => ?_) | refine rD (id := 6) mixed 22 [0,1,2,3,4,5,6,7,8,9,10,11,12,13,14,15,16,17,18,19,20,21] (fun K kp hK hkp => ?_) | refine cR fc ?_ | refine cD fc ?_ | refine iG ?_ | refine iD ?_); simp (implicitDefEqProofs := false) (maxSteps := 2000000) (disch := omega) only [go_sem, eK, d2]; (repeat' (first | (refine hK _ ?_; clear hK hkp kp K) | (with_reducible refine And.intro ?_ ?_) | omega))) | ((first | refine aG (fun h => ?_) (fun h => ?_) | refine aD (fun h => ?_) (fun h => ?_) | refine aX (fun h => ?_) (fun h => ?_)) <;> simp only [h]) | refine awp_cond_t rfl ?_ | refine awp_cond_f rfl ?_ | ((refine awp_cond rfl (fun h => ?_) (fun h => ?_) <;> try simp only [ifs] at h) <;> (try (exfalso; omega))) | refine awp_ret ?_))
      (refine retA_is (by (simp (implicitDefEqProofs := false) (maxSteps := 2000000) (disch := omega) only [go_sem, Go.Proofs.Tryd.results56]); rfl) ?_; refine (embV [2] ?_ ?_ ?_ ?_ ?_ ?_).s <;> simp [oneA, okO, lk, ren, renL, renNd, by_, hE] <;> (try (intro i hi; first | (rcases (by omega : i = 0 ∨ i = 1 ∨ i = 2) with rfl | rfl | rfl <;> rfl) | (rcases (by omega : i = 0 ∨ i = 1) with rfl | rfl <;> rfl))))
    · have MZ : modeM q.t q.s l1 = 0 := by rcases mm with h | h <;> omega
      have d2 : decide (findM q.t q.s l1 < 0) = true := decide_eq_true (by omega)
      have W : wfM l1 l2 i q = agM q l1 ++ ahM q (l2.take i) := by rw [wfM, if_pos MZ]
      rw [W]
      (repeat' (first | refine awp_seq ?_ | refine awp_block ?_ | refine awp_skip ?_ | refine awp_exit ?_ | ((first | refine rR (fun K kp hK hkp => ?_) | refine rD (id := 6) mixed 22 [0,1,2,3,4,5,6,7,8,9,10,11,12,13,14,15,16,17,18,19,20,21] (fun K kp hK hkp => ?_) | refine cR fc ?_ | refine cD fc ?_ | refine iG ?_ | refine iD ?_); simp (implicitDefEqProofs := false) (maxSteps := 2000000) (disch := omega) only [go_sem, eK, d2]; (repeat' (first | (refine hK _ ?_; clear hK hkp kp K) | (with_reducible refine And.intro ?_ ?_) | omega))) | ((first | refine aG (fun h => ?_) (fun h => ?_) | refine aD (fun h => ?_) (fun h => ?_) | refine aX (fun h => ?_) (fun h => ?_)) <;> simp only [h]) | refine awp_cond_t rfl ?_ | refine awp_cond_f rfl ?_ | ((refine awp_cond rfl (fun h => ?_) (fun h => ?_) <;> try simp only [ifs] at h) <;> (try (exfalso; omega))) | refine awp_ret ?_))
      have h62 : (l2.take i).length = i := by rw [List.length_take]; omega
      refine awp_loop (fun k : Nat => ⟨[(64, .r (.int .i64 k)), (63, .r (.int .i64 i)), (62, .ro t2 3 ((l2.take i).map eK)), (6, .s 2 0 (agM q l1 ++ ahM q (l2.take k)).length), (5, .p 1 0 0), (2, .p 0 0 0), (1, .r (.int .i64 i))], [(0, .box 41 [.ro t1 3 (l1.map eK), .ro t2 3 (l2.map eK)]), (1, .box 82 (eK q)), (2, .lst 3 1 ((agM q l1 ++ ahM q (l2.take k)).map eI))], 3⟩) (fun k => k ≤ i) (fun k => i - k) 0 ?_ ?_ ?_
      · simp
      · (refine emb [0, 1, 2] ?_ ?_ rfl ?_ ?_ ?_ ?_ <;> simp [okM, okO, lk, ren, renL, renNd, by_, hE, eK, ahM, h62, List.map_take] <;> (try omega) <;> (try (intro i hi; first | (rcases (by omega : i = 0 ∨ i = 1 ∨ i = 2) with rfl | rfl | rfl <;> rfl) | (rcases (by omega : i = 0 ∨ i = 1) with rfl | rfl <;> rfl))))
      intro k hk
      by_cases hlt : k < i
      · obtain ⟨y, hx⟩ : ∃ x, l2[k]? = some x := ⟨l2[k], by simp [show k < l2.length by omega]⟩
        have hx' : (l2.take i)[k]? = some y := by rw [List.getElem?_take_of_lt hlt]; exact hx
        have ht : ahM q (l2.take (k + 1)) = ahM q (l2.take k) ++ (if sameT q y = true then [y.t] else []) := filt_succ hx
        have hle2 : (ahM q (l2.take k)).length ≤ 1048576 := by
          have := filt_len (p := sameT q) (l2.take k); have := List.length_take_le k l2; simp only [ahM] at this ⊢; omega
        have hap : (agM q l1 ++ ahM q (l2.take k)).length = (agM q l1).length + (ahM q (l2.take k)).length := List.length_append
        cases e1 : (y.s.toList == q.s.toList)
        · (repeat' (first | refine awp_seq ?_ | refine awp_block ?_ | refine awp_skip ?_ | refine awp_exit ?_ | ((first | refine rR (fun K kp hK hkp => ?_) | refine rD (id := 6) mixed 22 [0,1,2,3,4,5,6,7,8,9,10,11,12,13,14,15,16,17,18,19,20,21] (fun K kp hK hkp => ?_) | refine iG ?_ | refine iD ?_); simp (implicitDefEqProofs := false) (maxSteps := 2000000) (disch := omega) only [go_sem, hx', eK, e1]; (repeat' (first | (refine hK _ ?_; clear hK hkp kp K) | (with_reducible refine And.intro ?_ ?_) | omega))) | ((first | refine aG (fun h => ?_) (fun h => ?_) | refine aD (fun h => ?_) (fun h => ?_) | refine aX (fun h => ?_) (fun h => ?_)) <;> simp only [h]) | refine awp_cond_t rfl ?_ | refine awp_cond_f rfl ?_ | ((refine awp_cond rfl (fun h => ?_) (fun h => ?_) <;> try simp only [ifs] at h) <;> (try (exfalso; omega))) | refine awp_ret ?_))
          ((first | (refine nextB (k + 1) ?_ ?_ ?_) | (refine nextA (k + 1) ?_ ?_ ?_) | (refine nextE (k + 1) ?_ ?_ ?_)); rotate_left; (· (try dsimp only); (first | omega | (simp only [List.length_drop, List.length_cons, List.length_append]; omega) | (simp; done) | (simp; omega))); (· (refine emb [0, 1, 2] ?_ ?_ rfl ?_ ?_ ?_ ?_ <;> simp [okM, okO, lk, ren, renL, renNd, by_, hE, eK, ht, sameT, e1] <;> (try omega) <;> (try (intro i hi; first | (rcases (by omega : i = 0 ∨ i = 1 ∨ i = 2) with rfl | rfl | rfl <;> rfl) | (rcases (by omega : i = 0 ∨ i = 1) with rfl | rfl <;> rfl))))))
          omega
        · (repeat' (first | refine awp_seq ?_ | refine awp_block ?_ | refine awp_skip ?_ | refine awp_exit ?_ | ((first | refine rR (fun K kp hK hkp => ?_) | refine rD (id := 6) mixed 22 [0,1,2,3,4,5,6,7,8,9,10,11,12,13,14,15,16,17,18,19,20,21] (fun K kp hK hkp => ?_) | refine iG ?_ | refine iD ?_); simp (implicitDefEqProofs := false) (maxSteps := 2000000) (disch := omega) only [go_sem, hx', eK, e1]; (repeat' (first | (refine hK _ ?_; clear hK hkp kp K) | (with_reducible refine And.intro ?_ ?_) | omega))) | ((first | refine aG (fun h => ?_) (fun h => ?_) | refine aD (fun h => ?_) (fun h => ?_) | refine aX (fun h => ?_) (fun h => ?_)) <;> simp only [h]) | refine awp_cond_t rfl ?_ | refine awp_cond_f rfl ?_ | ((refine awp_cond rfl (fun h => ?_) (fun h => ?_) <;> try simp only [ifs] at h) <;> (try (exfalso; omega))) | refine awp_ret ?_))
          ((first | (refine nextB (k + 1) ?_ ?_ ?_) | (refine nextA (k + 1) ?_ ?_ ?_) | (refine nextE (k + 1) ?_ ?_ ?_)); rotate_left; (· (try dsimp only); (first | omega | (simp only [List.length_drop, List.length_cons, List.length_append]; omega) | (simp; done) | (simp; omega))); (· (refine emb [0, 1, 5] ?_ ?_ rfl ?_ ?_ ?_ ?_ <;> simp [okM, okO, lk, ren, renL, renNd, by_, hE, eK, eI, ht, sameT, e1, take_appm] <;> (try omega) <;> (try (intro i hi; first | (rcases (by omega : i = 0 ∨ i = 1 ∨ i = 2) with rfl | rfl | rfl <;> rfl) | (rcases (by omega : i = 0 ∨ i = 1) with rfl | rfl <;> rfl))))))
          omega
      · obtain rfl : k = i := by omega
        (repeat' (first | refine awp_seq ?_ | refine awp_block ?_ | refine awp_skip ?_ | refine awp_exit ?_ | ((first | refine rR (fun K kp hK hkp => ?_) | refine rD (id := 6) mixed 22 [0,1,2,3,4,5,6,7,8,9,10,11,12,13,14,15,16,17,18,19,20,21] (fun K kp hK hkp => ?_) | refine iG ?_ | refine iD ?_); simp (implicitDefEqProofs := false) (maxSteps := 2000000) (disch := omega) only [go_sem]; (repeat' (first | (refine hK _ ?_; clear hK hkp kp K) | (with_reducible refine And.intro ?_ ?_) | omega))) | ((first | refine aG (fun h => ?_) (fun h => ?_) | refine aD (fun h => ?_) (fun h => ?_) | refine aX (fun h => ?_) (fun h => ?_)) <;> simp only [h]) | refine awp_cond_t rfl ?_ | refine awp_cond_f rfl ?_ | ((refine awp_cond rfl (fun h => ?_) (fun h => ?_) <;> try simp only [ifs] at h) <;> (try (exfalso; omega))) | refine awp_ret ?_))
        (refine retA_is (by (simp (implicitDefEqProofs := false) (maxSteps := 2000000) (disch := omega) only [go_sem, Go.Proofs.Tryd.results56]); rfl) ?_; refine (embV [2] ?_ ?_ ?_ ?_ ?_ ?_).s <;> simp [oneA, okO, lk, ren, renL, renNd, by_, hE] <;> (try (intro i hi; first | (rcases (by omega : i = 0 ∨ i = 1 ∨ i = 2) with rfl | rfl | rfl <;> rfl) | (rcases (by omega : i = 0 ∨ i = 1) with rfl | rfl <;> rfl))))
end Go.AM
/- Locks: for whom what stands at a place of the queue waits: the reference's side. -/
namespace Go.AM
open Go Go.RowKit
open Go.Proofs.YteebiklebedneaaDoor (LK SlAt LksAt TabFits TabJoins fitB joinB modeB shapeM findM agK agR agM ahM wfM modeM firstM lockGood chkM isK sameT sameX fitsL joinsL fittingM)
attribute [local irreducible] AWP retA
set_option maxRecDepth 100000 in
set_option maxHeartbeats 4000000 in
theorem against_con (G : List (Nat × List Value)) (t : Bool) (l : List LK) (x : LK) (hl : l.length ≤ 1048576) : Con Go.Proofs.Tryd.prog G 86 [.ro t 3 (l.map eK), .agg (eK x)] [] 0 (Is (.s 0 0 (agM x l).length) [(0, .lst 3 1 ((agM x l).map eI))] 1) No := by
  refine con_of_awp Go.Proofs.Tryd.func86 rfl (by kernel_rfl) (of_decide_eq_true (by kernel_rfl)) ?_; intro E hG hE; subst hG; simp only [ent]
  (repeat' (first | refine awp_seq ?_ | refine awp_block ?_ | refine awp_skip ?_ | refine awp_exit ?_ | ((first | refine rR (fun K kp hK hkp => ?_) | refine rD (id := 5) mixed 29 [0,1,2,3,4,5,6,7,8,9,10,11,12,13,14,15,16,17,18,19,20,21,22,23,24,25,26,27,28] (fun K kp hK hkp => ?_) | refine iG ?_ | refine iD ?_); simp (implicitDefEqProofs := false) (maxSteps := 2000000) (disch := omega) only [go_sem, eK]; (repeat' (first | (refine hK _ ?_; clear hK hkp kp K) | (with_reducible refine And.intro ?_ ?_) | omega))) | ((first | refine aG (fun h => ?_) (fun h => ?_) | refine aD (fun h => ?_) (fun h => ?_) | refine aX (fun h => ?_) (fun h => ?_)) <;> simp only [h]) | refine awp_cond_t rfl ?_ | refine awp_cond_f rfl ?_ | ((refine awp_cond rfl (fun h => ?_) (fun h => ?_) <;> try simp only [ifs] at h) <;> (try (exfalso; omega))) | refine awp_ret ?_))
  (refine AWP.emb (emb_nil 5 3 1 ?_) ?_; (· rfl); dsimp only)
  refine awp_loop (fun k : Nat => ⟨[(6, .r (.int .i64 k)), (5, .s 1 0 (agM x (l.take k)).length), (0, .ro t 3 (l.map eK)), (3, .p 0 0 0)], [(0, .box 82 (eK x)), (1, .lst 3 1 ((agM x (l.take k)).map eI))], 2⟩) (fun k => k ≤ l.length) (fun k => l.length - k) 0 ?_ ?_ ?_
  · simp
  · (refine emb [0, 1] ?_ ?_ rfl ?_ ?_ ?_ ?_ <;> simp [okM, okO, lk, ren, renL, renNd, by_, hE, eK, agM] <;> (try omega) <;> (try (intro i hi; first | (rcases (by omega : i = 0 ∨ i = 1 ∨ i = 2) with rfl | rfl | rfl <;> rfl) | (rcases (by omega : i = 0 ∨ i = 1) with rfl | rfl <;> rfl))))
  intro k hk
  by_cases hk' : k < l.length
  · obtain ⟨y, hx⟩ : ∃ x, l[k]? = some x := ⟨l[k], by simp [hk']⟩
    have ht : agM x (l.take (k + 1)) = agM x (l.take k) ++ (if agR x y = true then [y.t] else []) := filt_succ hx
    have hle : (agM x (l.take k)).length ≤ 1048576 := by
      have := filt_len (p := agR x) (l.take k); have := List.length_take_le k l; simp only [agM] at this ⊢; omega
    cases h1 : (y.s.toList == x.s.toList)
    · (repeat' (first | refine awp_seq ?_ | refine awp_block ?_ | refine awp_skip ?_ | refine awp_exit ?_ | ((first | refine rR (fun K kp hK hkp => ?_) | refine rD (id := 5) mixed 29 [0,1,2,3,4,5,6,7,8,9,10,11,12,13,14,15,16,17,18,19,20,21,22,23,24,25,26,27,28] (fun K kp hK hkp => ?_) | refine iG ?_ | refine iD ?_); simp (implicitDefEqProofs := false) (maxSteps := 2000000) (disch := omega) only [go_sem, hx, eK, h1]; (repeat' (first | (refine hK _ ?_; clear hK hkp kp K) | (with_reducible refine And.intro ?_ ?_) | omega))) | ((first | refine aG (fun h => ?_) (fun h => ?_) | refine aD (fun h => ?_) (fun h => ?_) | refine aX (fun h => ?_) (fun h => ?_)) <;> simp only [h]) | refine awp_cond_t rfl ?_ | refine awp_cond_f rfl ?_ | ((refine awp_cond rfl (fun h => ?_) (fun h => ?_) <;> try simp only [ifs] at h) <;> (try (exfalso; omega))) | refine awp_ret ?_))
      ((first | (refine nextB (k + 1) ?_ ?_ ?_) | (refine nextA (k + 1) ?_ ?_ ?_) | (refine nextE (k + 1) ?_ ?_ ?_)); rotate_left; (· (try dsimp only); (first | omega | (simp only [List.length_drop, List.length_cons, List.length_append]; omega) | (simp; done) | (simp; omega))); (· (refine emb [0, 1] ?_ ?_ rfl ?_ ?_ ?_ ?_ <;> simp [okM, okO, lk, ren, renL, renNd, by_, hE, eK, ht, agR, h1] <;> (try omega) <;> (try (intro i hi; first | (rcases (by omega : i = 0 ∨ i = 1 ∨ i = 2) with rfl | rfl | rfl <;> rfl) | (rcases (by omega : i = 0 ∨ i = 1) with rfl | rfl <;> rfl))))))
      omega
    cases h2 : (y.t != x.t)
    · (repeat' (first | refine awp_seq ?_ | refine awp_block ?_ | refine awp_skip ?_ | refine awp_exit ?_ | ((first | refine rR (fun K kp hK hkp => ?_) | refine rD (id := 5) mixed 29 [0,1,2,3,4,5,6,7,8,9,10,11,12,13,14,15,16,17,18,19,20,21,22,23,24,25,26,27,28] (fun K kp hK hkp => ?_) | refine iG ?_ | refine iD ?_); simp (implicitDefEqProofs := false) (maxSteps := 2000000) (disch := omega) only [go_sem, hx, eK, h1, h2]; (repeat' (first | (refine hK _ ?_; clear hK hkp kp K) | (with_reducible refine And.intro ?_ ?_) | omega))) | ((first | refine aG (fun h => ?_) (fun h => ?_) | refine aD (fun h => ?_) (fun h => ?_) | refine aX (fun h => ?_) (fun h => ?_)) <;> simp only [h]) | refine awp_cond_t rfl ?_ | refine awp_cond_f rfl ?_ | ((refine awp_cond rfl (fun h => ?_) (fun h => ?_) <;> try simp only [ifs] at h) <;> (try (exfalso; omega))) | refine awp_ret ?_))
      ((first | (refine nextB (k + 1) ?_ ?_ ?_) | (refine nextA (k + 1) ?_ ?_ ?_) | (refine nextE (k + 1) ?_ ?_ ?_)); rotate_left; (· (try dsimp only); (first | omega | (simp only [List.length_drop, List.length_cons, List.length_append]; omega) | (simp; done) | (simp; omega))); (· (refine emb [0, 1] ?_ ?_ rfl ?_ ?_ ?_ ?_ <;> simp [okM, okO, lk, ren, renL, renNd, by_, hE, eK, ht, agR, h1, h2] <;> (try omega) <;> (try (intro i hi; first | (rcases (by omega : i = 0 ∨ i = 1 ∨ i = 2) with rfl | rfl | rfl <;> rfl) | (rcases (by omega : i = 0 ∨ i = 1) with rfl | rfl <;> rfl))))))
      omega
    · cases h3 : fittingM y.m x.m
      · have fc := fitting_con E.G y.m x.m
        rw [h3] at fc
        (repeat' (first | refine awp_seq ?_ | refine awp_block ?_ | refine awp_skip ?_ | refine awp_exit ?_ | ((first | refine rR (fun K kp hK hkp => ?_) | refine rD (id := 5) mixed 29 [0,1,2,3,4,5,6,7,8,9,10,11,12,13,14,15,16,17,18,19,20,21,22,23,24,25,26,27,28] (fun K kp hK hkp => ?_) | refine cR fc ?_ | refine cD fc ?_ | refine iG ?_ | refine iD ?_); simp (implicitDefEqProofs := false) (maxSteps := 2000000) (disch := omega) only [go_sem, hx, eK, h1, h2]; (repeat' (first | (refine hK _ ?_; clear hK hkp kp K) | (with_reducible refine And.intro ?_ ?_) | omega))) | ((first | refine aG (fun h => ?_) (fun h => ?_) | refine aD (fun h => ?_) (fun h => ?_) | refine aX (fun h => ?_) (fun h => ?_)) <;> simp only [h]) | refine awp_cond_t rfl ?_ | refine awp_cond_f rfl ?_ | ((refine awp_cond rfl (fun h => ?_) (fun h => ?_) <;> try simp only [ifs] at h) <;> (try (exfalso; omega))) | refine awp_ret ?_))
        ((first | (refine nextB (k + 1) ?_ ?_ ?_) | (refine nextA (k + 1) ?_ ?_ ?_) | (refine nextE (k + 1) ?_ ?_ ?_)); rotate_left; (· (try dsimp only); (first | omega | (simp only [List.length_drop, List.length_cons, List.length_append]; omega) | (simp; done) | (simp; omega))); (· (refine emb [0, 3] ?_ ?_ rfl ?_ ?_ ?_ ?_ <;> simp [okM, okO, lk, ren, renL, renNd, by_, hE, eK, eI, ht, agR, h1, h2, h3] <;> (try omega) <;> (try (intro i hi; first | (rcases (by omega : i = 0 ∨ i = 1 ∨ i = 2) with rfl | rfl | rfl <;> rfl) | (rcases (by omega : i = 0 ∨ i = 1) with rfl | rfl <;> rfl))))))
        omega
      · have fc := fitting_con E.G y.m x.m
        rw [h3] at fc
        (repeat' (first | refine awp_seq ?_ | refine awp_block ?_ | refine awp_skip ?_ | refine awp_exit ?_ | ((first | refine rR (fun K kp hK hkp => ?_) | refine rD (id := 5) mixed 29 [0,1,2,3,4,5,6,7,8,9,10,11,12,13,14,15,16,17,18,19,20,21,22,23,24,25,26,27,28] (fun K kp hK hkp => ?_) | refine cR fc ?_ | refine cD fc ?_ | refine iG ?_ | refine iD ?_); simp (implicitDefEqProofs := false) (maxSteps := 2000000) (disch := omega) only [go_sem, hx, eK, h1, h2]; (repeat' (first | (refine hK _ ?_; clear hK hkp kp K) | (with_reducible refine And.intro ?_ ?_) | omega))) | ((first | refine aG (fun h => ?_) (fun h => ?_) | refine aD (fun h => ?_) (fun h => ?_) | refine aX (fun h => ?_) (fun h => ?_)) <;> simp only [h]) | refine awp_cond_t rfl ?_ | refine awp_cond_f rfl ?_ | ((refine awp_cond rfl (fun h => ?_) (fun h => ?_) <;> try simp only [ifs] at h) <;> (try (exfalso; omega))) | refine awp_ret ?_))
        ((first | (refine nextB (k + 1) ?_ ?_ ?_) | (refine nextA (k + 1) ?_ ?_ ?_) | (refine nextE (k + 1) ?_ ?_ ?_)); rotate_left; (· (try dsimp only); (first | omega | (simp only [List.length_drop, List.length_cons, List.length_append]; omega) | (simp; done) | (simp; omega))); (· (refine emb [0, 1] ?_ ?_ rfl ?_ ?_ ?_ ?_ <;> simp [okM, okO, lk, ren, renL, renNd, by_, hE, eK, ht, agR, h1, h2, h3] <;> (try omega) <;> (try (intro i hi; first | (rcases (by omega : i = 0 ∨ i = 1 ∨ i = 2) with rfl | rfl | rfl <;> rfl) | (rcases (by omega : i = 0 ∨ i = 1) with rfl | rfl <;> rfl))))))
        omega
  · (repeat' (first | refine awp_seq ?_ | refine awp_block ?_ | refine awp_skip ?_ | refine awp_exit ?_ | ((first | refine rR (fun K kp hK hkp => ?_) | refine rD (id := 5) mixed 29 [0,1,2,3,4,5,6,7,8,9,10,11,12,13,14,15,16,17,18,19,20,21,22,23,24,25,26,27,28] (fun K kp hK hkp => ?_) | refine iG ?_ | refine iD ?_); simp (implicitDefEqProofs := false) (maxSteps := 2000000) (disch := omega) only [go_sem]; (repeat' (first | (refine hK _ ?_; clear hK hkp kp K) | (with_reducible refine And.intro ?_ ?_) | omega))) | ((first | refine aG (fun h => ?_) (fun h => ?_) | refine aD (fun h => ?_) (fun h => ?_) | refine aX (fun h => ?_) (fun h => ?_)) <;> simp only [h]) | refine awp_cond_t rfl ?_ | refine awp_cond_f rfl ?_ | ((refine awp_cond rfl (fun h => ?_) (fun h => ?_) <;> try simp only [ifs] at h) <;> (try (exfalso; omega))) | refine awp_ret ?_))
    rw [show l.take k = l from List.take_of_length_le (by omega)]
    (refine retA_is (by (simp (implicitDefEqProofs := false) (maxSteps := 2000000) (disch := omega) only [go_sem, Go.Proofs.Tryd.results86]); rfl) ?_; refine (embV [1] ?_ ?_ ?_ ?_ ?_ ?_).s <;> simp [oneA, okO, lk, ren, renL, renNd, by_, hE] <;> (try (intro i hi; first | (rcases (by omega : i = 0 ∨ i = 1 ∨ i = 2) with rfl | rfl | rfl <;> rfl) | (rcases (by omega : i = 0 ∨ i = 1) with rfl | rfl <;> rfl))))
set_option maxRecDepth 100000 in
set_option maxHeartbeats 4000000 in
theorem aheadOf_con (G : List (Nat × List Value)) (t1 t2 : Bool) (l1 l2 : List LK) (n2 : l2.length ≤ 1048576) (i : Nat) (q : LK) (hi : l2[i]? = some q) :
    Con Go.Proofs.Tryd.prog G 88 [.agg [.ro t1 3 (l1.map eK), .ro t2 3 (l2.map eK)], .r (.int .i64 i)] [] 0 (Is (.ro true 1 ((ahM q (l2.take i)).map eI)) [] 0) No := by
  have hil : i < l2.length := (List.getElem?_eq_some_iff.1 hi).1
  refine con_of_awp Go.Proofs.Tryd.func88 rfl (by kernel_rfl) (of_decide_eq_true (by kernel_rfl)) ?_; intro E hG hE; subst hG; simp only [ent]
  (repeat' (first | refine awp_seq ?_ | refine awp_block ?_ | refine awp_skip ?_ | refine awp_exit ?_ | ((first | refine rR (fun K kp hK hkp => ?_) | refine rD (id := 5) mixed 13 [0,1,2,3,4,5,6,7,8,9,10,11,12] (fun K kp hK hkp => ?_) | refine iG ?_ | refine iD ?_); simp (implicitDefEqProofs := false) (maxSteps := 2000000) (disch := omega) only [go_sem, eK]; (repeat' (first | (refine hK _ ?_; clear hK hkp kp K) | (with_reducible refine And.intro ?_ ?_) | omega))) | ((first | refine aG (fun h => ?_) (fun h => ?_) | refine aD (fun h => ?_) (fun h => ?_) | refine aX (fun h => ?_) (fun h => ?_)) <;> simp only [h]) | refine awp_cond_t rfl ?_ | refine awp_cond_f rfl ?_ | ((refine awp_cond rfl (fun h => ?_) (fun h => ?_) <;> try simp only [ifs] at h) <;> (try (exfalso; omega))) | refine awp_ret ?_))
  (refine AWP.emb (emb_nil 5 3 1 ?_) ?_; (· rfl); dsimp only)
  refine awp_loop (fun k : Nat => ⟨[(6, .r (.int .i64 k)), (5, .s 1 0 (ahM q (l2.take k)).length), (1, .r (.int .i64 i)), (2, .p 0 0 0)], [(0, .box 41 [.ro t1 3 (l1.map eK), .ro t2 3 (l2.map eK)]), (1, .lst 3 1 ((ahM q (l2.take k)).map eI))], 2⟩) (fun k => k ≤ i) (fun k => i - k) 0 ?_ ?_ ?_
  · simp
  · (refine emb [0, 1] ?_ ?_ rfl ?_ ?_ ?_ ?_ <;> simp [okM, okO, lk, ren, renL, renNd, by_, hE, eK, ahM] <;> (try omega) <;> (try (intro i hi; first | (rcases (by omega : i = 0 ∨ i = 1 ∨ i = 2) with rfl | rfl | rfl <;> rfl) | (rcases (by omega : i = 0 ∨ i = 1) with rfl | rfl <;> rfl))))
  intro k hk
  by_cases hk' : k < i
  · obtain ⟨y, hx⟩ : ∃ x, l2[k]? = some x := ⟨l2[k], by simp [show k < l2.length by omega]⟩
    have ht : ahM q (l2.take (k + 1)) = ahM q (l2.take k) ++ (if sameT q y = true then [y.t] else []) := filt_succ hx
    have hle : (ahM q (l2.take k)).length ≤ 1048576 := by
      have := filt_len (p := sameT q) (l2.take k); have := List.length_take_le k l2; simp only [ahM] at this ⊢; omega
    cases h1 : (y.s.toList == q.s.toList)
    · (repeat' (first | refine awp_seq ?_ | refine awp_block ?_ | refine awp_skip ?_ | refine awp_exit ?_ | ((first | refine rR (fun K kp hK hkp => ?_) | refine rD (id := 5) mixed 13 [0,1,2,3,4,5,6,7,8,9,10,11,12] (fun K kp hK hkp => ?_) | refine iG ?_ | refine iD ?_); simp (implicitDefEqProofs := false) (maxSteps := 2000000) (disch := omega) only [go_sem, hx, hi, eK, h1]; (repeat' (first | (refine hK _ ?_; clear hK hkp kp K) | (with_reducible refine And.intro ?_ ?_) | omega))) | ((first | refine aG (fun h => ?_) (fun h => ?_) | refine aD (fun h => ?_) (fun h => ?_) | refine aX (fun h => ?_) (fun h => ?_)) <;> simp only [h]) | refine awp_cond_t rfl ?_ | refine awp_cond_f rfl ?_ | ((refine awp_cond rfl (fun h => ?_) (fun h => ?_) <;> try simp only [ifs] at h) <;> (try (exfalso; omega))) | refine awp_ret ?_))
      ((first | (refine nextB (k + 1) ?_ ?_ ?_) | (refine nextA (k + 1) ?_ ?_ ?_) | (refine nextE (k + 1) ?_ ?_ ?_)); rotate_left; (· (try dsimp only); (first | omega | (simp only [List.length_drop, List.length_cons, List.length_append]; omega) | (simp; done) | (simp; omega))); (· (refine emb [0, 1] ?_ ?_ rfl ?_ ?_ ?_ ?_ <;> simp [okM, okO, lk, ren, renL, renNd, by_, hE, eK, ht, sameT, h1] <;> (try omega) <;> (try (intro i hi; first | (rcases (by omega : i = 0 ∨ i = 1 ∨ i = 2) with rfl | rfl | rfl <;> rfl) | (rcases (by omega : i = 0 ∨ i = 1) with rfl | rfl <;> rfl))))))
      omega
    · (repeat' (first | refine awp_seq ?_ | refine awp_block ?_ | refine awp_skip ?_ | refine awp_exit ?_ | ((first | refine rR (fun K kp hK hkp => ?_) | refine rD (id := 5) mixed 13 [0,1,2,3,4,5,6,7,8,9,10,11,12] (fun K kp hK hkp => ?_) | refine iG ?_ | refine iD ?_); simp (implicitDefEqProofs := false) (maxSteps := 2000000) (disch := omega) only [go_sem, hx, hi, eK, h1]; (repeat' (first | (refine hK _ ?_; clear hK hkp kp K) | (with_reducible refine And.intro ?_ ?_) | omega))) | ((first | refine aG (fun h => ?_) (fun h => ?_) | refine aD (fun h => ?_) (fun h => ?_) | refine aX (fun h => ?_) (fun h => ?_)) <;> simp only [h]) | refine awp_cond_t rfl ?_ | refine awp_cond_f rfl ?_ | ((refine awp_cond rfl (fun h => ?_) (fun h => ?_) <;> try simp only [ifs] at h) <;> (try (exfalso; omega))) | refine awp_ret ?_))
      ((first | (refine nextB (k + 1) ?_ ?_ ?_) | (refine nextA (k + 1) ?_ ?_ ?_) | (refine nextE (k + 1) ?_ ?_ ?_)); rotate_left; (· (try dsimp only); (first | omega | (simp only [List.length_drop, List.length_cons, List.length_append]; omega) | (simp; done) | (simp; omega))); (· (refine emb [0, 3] ?_ ?_ rfl ?_ ?_ ?_ ?_ <;> simp [okM, okO, lk, ren, renL, renNd, by_, hE, eK, eI, ht, sameT, h1] <;> (try omega) <;> (try (intro i hi; first | (rcases (by omega : i = 0 ∨ i = 1 ∨ i = 2) with rfl | rfl | rfl <;> rfl) | (rcases (by omega : i = 0 ∨ i = 1) with rfl | rfl <;> rfl))))))
      omega
  · (repeat' (first | refine awp_seq ?_ | refine awp_block ?_ | refine awp_skip ?_ | refine awp_exit ?_ | ((first | refine rR (fun K kp hK hkp => ?_) | refine rD (id := 5) mixed 13 [0,1,2,3,4,5,6,7,8,9,10,11,12] (fun K kp hK hkp => ?_) | refine iG ?_ | refine iD ?_); simp (implicitDefEqProofs := false) (maxSteps := 2000000) (disch := omega) only [go_sem]; (repeat' (first | (refine hK _ ?_; clear hK hkp kp K) | (with_reducible refine And.intro ?_ ?_) | omega))) | ((first | refine aG (fun h => ?_) (fun h => ?_) | refine aD (fun h => ?_) (fun h => ?_) | refine aX (fun h => ?_) (fun h => ?_)) <;> simp only [h]) | refine awp_cond_t rfl ?_ | refine awp_cond_f rfl ?_ | ((refine awp_cond rfl (fun h => ?_) (fun h => ?_) <;> try simp only [ifs] at h) <;> (try (exfalso; omega))) | refine awp_ret ?_))
    obtain rfl : k = i := by omega
    (refine retA_is (by (simp (implicitDefEqProofs := false) (maxSteps := 2000000) (disch := omega) only [go_sem, Go.Proofs.Tryd.results88]); rfl) ?_; refine embS_frz (by simp only [oneA]; simp (implicitDefEqProofs := false) (maxSteps := 2000000) (disch := omega) only [go_sem]; rfl) ?_; refine (embV_nil hE (by simp) ?_).s; simp [oneA, ren, renL])
set_option maxRecDepth 100000 in
set_option maxHeartbeats 4000000 in
theorem waitsFor_con (G : List (Nat × List Value)) (t1 t2 : Bool) (l1 l2 : List LK) (n1 : l1.length ≤ 1048576) (n2 : l2.length ≤ 1048576) (i : Nat) (q : LK) (hi : l2[i]? = some q) :
    Con Go.Proofs.Tryd.prog G 54 [.agg [.ro t1 3 (l1.map eK), .ro t2 3 (l2.map eK)], .r (.int .i64 i)] [] 0 (Is (.s 0 0 (wfM l1 l2 i q).length) [(0, .lst 3 1 ((wfM l1 l2 i q).map eI))] 1) No := by
  have hil : i < l2.length := (List.getElem?_eq_some_iff.1 hi).1
  have mc := modeOf_con G t1 l1 n1 q.t q.s
  have ac := against_con G t1 l1 q n1
  have hc := aheadOf_con G t1 t2 l1 l2 n2 i q hi
  have h1 : (agM q l1).length ≤ 1048576 := by have := filt_len (p := agR q) l1; simp only [agM] at this ⊢; omega
  have h2 : (ahM q (l2.take i)).length ≤ 1048576 := by
    have := filt_len (p := sameT q) (l2.take i); have := List.length_take_le' i l2; simp only [ahM] at this ⊢; omega
  by_cases hm : modeM q.t q.s l1 = 0
  · have hW : wfM l1 l2 i q = agM q l1 ++ ahM q (l2.take i) := by rw [wfM, if_pos hm]
    rw [hm] at mc
    rw [hW]
    refine con_of_awp Go.Proofs.Tryd.func54 rfl (by kernel_rfl) (of_decide_eq_true (by kernel_rfl)) ?_; intro E hG hE; subst hG; simp only [ent]
    (repeat' (first | refine awp_seq ?_ | refine awp_block ?_ | refine awp_skip ?_ | refine awp_exit ?_ | ((first | refine rR (fun K kp hK hkp => ?_) | refine cR mc ?_ | refine cR ac ?_ | refine cR hc ?_ | refine iG ?_); simp (implicitDefEqProofs := false) (maxSteps := 2000000) (disch := omega) only [go_sem, eK, hi, eI]; (repeat' (first | (refine hK _ ?_; clear hK hkp kp K) | (with_reducible refine And.intro ?_ ?_) | omega))) | ((first | refine aG (fun h => ?_) (fun h => ?_) | refine aD (fun h => ?_) (fun h => ?_) | refine aX (fun h => ?_) (fun h => ?_)) <;> simp only [h]) | refine awp_cond_t rfl ?_ | refine awp_cond_f rfl ?_ | ((refine awp_cond rfl (fun h => ?_) (fun h => ?_) <;> try simp only [ifs] at h) <;> (try (exfalso; omega))) | refine awp_ret ?_))
    (refine retA_is (by (simp (implicitDefEqProofs := false) (maxSteps := 2000000) (disch := omega) only [go_sem, Go.Proofs.Tryd.results54]); rfl) ?_; refine (embV [3] ?_ ?_ ?_ ?_ ?_ ?_).s <;> simp [oneA, okO, lk, ren, renL, renNd, by_, hE] <;> (try (intro i hi; first | (rcases (by omega : i = 0 ∨ i = 1 ∨ i = 2) with rfl | rfl | rfl <;> rfl) | (rcases (by omega : i = 0 ∨ i = 1) with rfl | rfl <;> rfl))))
  · have hW : wfM l1 l2 i q = agM q l1 := by rw [wfM, if_neg hm, List.append_nil]
    have b0 : (modeM q.t q.s l1 == 0) = false := by simpa using hm
    rw [hW]
    refine con_of_awp Go.Proofs.Tryd.func54 rfl (by kernel_rfl) (of_decide_eq_true (by kernel_rfl)) ?_; intro E hG hE; subst hG; simp only [ent]
    (repeat' (first | refine awp_seq ?_ | refine awp_block ?_ | refine awp_skip ?_ | refine awp_exit ?_ | ((first | refine rR (fun K kp hK hkp => ?_) | refine cR mc ?_ | refine cR ac ?_ | refine cR hc ?_ | refine iG ?_); simp (implicitDefEqProofs := false) (maxSteps := 2000000) (disch := omega) only [go_sem, eK, hi, eI, b0]; (repeat' (first | (refine hK _ ?_; clear hK hkp kp K) | (with_reducible refine And.intro ?_ ?_) | omega))) | ((first | refine aG (fun h => ?_) (fun h => ?_) | refine aD (fun h => ?_) (fun h => ?_) | refine aX (fun h => ?_) (fun h => ?_)) <;> simp only [h]) | refine awp_cond_t rfl ?_ | refine awp_cond_f rfl ?_ | ((refine awp_cond rfl (fun h => ?_) (fun h => ?_) <;> try simp only [ifs] at h) <;> (try (exfalso; omega))) | refine awp_ret ?_))
    (refine retA_is (by (simp (implicitDefEqProofs := false) (maxSteps := 2000000) (disch := omega) only [go_sem, Go.Proofs.Tryd.results54]); rfl) ?_; refine (embV [2] ?_ ?_ ?_ ?_ ?_ ?_).s <;> simp [oneA, okO, lk, ren, renL, renNd, by_, hE] <;> (try (intro i hi; first | (rcases (by omega : i = 0 ∨ i = 1 ∨ i = 2) with rfl | rfl | rfl <;> rfl) | (rcases (by omega : i = 0 ∨ i = 1) with rfl | rfl <;> rfl))))
end Go.AM
/- Locks: the reference's LeftBy. -/
namespace Go.AM
open Go Go.RowKit
open Go.Proofs.YteebiklebedneaaDoor (LK findM isK haveM haveM_find modeB firstM wfM lockGood chkM)
attribute [local irreducible] AWP retA
theorem inK_con (G : List (Nat × List Value)) (n a b : Int) : Con Go.Proofs.Tryd.prog G 53 [.r (.int .i64 n), .r (.int .i64 a), .r (.int .i64 b)] [] 0 (Is (.r (.bool (decide (a ≤ n) && decide (n ≤ b)))) [] 0) No :=
  con_of_calls (by kernel_rfl) (fun w z vs hz hr hG => by
    obtain ⟨v, r, rfl, h1, h2⟩ := hr.head
    obtain ⟨v2, r2, rfl, h3, h4⟩ := h2.head
    obtain ⟨v3, r3, rfl, h5, h6⟩ := h4.head
    obtain rfl := h1.r_inv
    obtain rfl := h3.r_inv
    obtain rfl := h5.r_inv
    obtain rfl := h6.of_nil
    exact (Go.Proofs.YteebiklebedneaaDoor.in_any n a b w).mono (fun e w' ⟨he, hw⟩ => by subst hw; exact ⟨he, Below.refl _ _⟩))
theorem nextF {E : Env} {N : Nat} {ι κ : Type} {I : ι → AS} {ok : ι → Prop} {μ : ι → Nat} {i : ι} {I2 : κ → AS} {ok2 : κ → Prop} {μ2 : κ → Nat} {i2 : κ} {AQ : AExit → AS → Prop} {id id2 : Nat} {K : AS → Prop} {st : AS} (i' : ι) (h1 : ok i') (h2 : μ i' < μ i) (h3 : Emb E N st (I i')) : thenA K (loopA E N I2 ok2 μ2 i2 (blockA id (blockA id2 (loopA E N I ok μ i AQ)))) (.exit id) st := by
  show blockA id (blockA id2 (loopA E N I ok μ i AQ)) (.exit id) st
  have e : blockA id (blockA id2 (loopA E N I ok μ i AQ)) (.exit id) st = loopA E N I ok μ i AQ .normal st := by
    have hb : Nat.beq id id = true := Nat.beq_refl id
    simp only [blockA, hb]
  rw [e]
  exact ⟨i', h1, h2, h3⟩
def restM (q : List LK) (i k : Nat) : List LK := q.take (min k i) ++ (q.take k).drop (i + 1)
theorem restM_all {q : List LK} {i : Nat} (h : i < q.length) : restM q i q.length = delM q i := by
  unfold restM delM; rw [Nat.min_eq_right (by omega), List.take_length]
theorem restM_zero (q : List LK) (i : Nat) : restM q i 0 = [] := by simp [restM]
theorem restM_same (q : List LK) (i : Nat) : restM q i (i + 1) = restM q i i := by
  unfold restM
  rw [Nat.min_eq_right (by omega), Nat.min_self, List.drop_of_length_le (by rw [List.length_take]; omega), List.drop_of_length_le (by rw [List.length_take]; omega)]
theorem restM_succ {q : List LK} {i k : Nat} {y : LK} (hy : q[k]? = some y) (h : k ≠ i) : restM q i (k + 1) = restM q i k ++ [y] := by
  unfold restM
  have ht : q.take (k + 1) = q.take k ++ [y] := by rw [List.take_add_one, hy]; rfl
  have hk := (List.getElem?_eq_some_iff.1 hy).1
  rcases Nat.lt_or_ge k i with hlt | hge
  · rw [Nat.min_eq_left (by omega), Nat.min_eq_left (by omega), List.drop_of_length_le (by rw [List.length_take]; omega), List.drop_of_length_le (by rw [List.length_take]; omega), List.append_nil, List.append_nil, ht]
  · rw [Nat.min_eq_right (by omega), Nat.min_eq_right (by omega), ht, List.drop_append_of_le_length (by rw [List.length_take]; omega), List.append_assoc]
theorem restM_len (q : List LK) (i k : Nat) : (restM q i k).length ≤ q.length := by
  unfold restM
  simp only [List.length_append, List.length_take, List.length_drop]; omega
theorem keptT_succ {txn : Int} {l : List LK} {j : Nat} {x : LK} (h : l[j]? = some x) : keptT txn (l.take (j + 1)) = if (x.t == txn) = true then keptT txn (l.take j) else keptT txn (l.take j) ++ [x] := kept_succ h
theorem keptT_len (txn : Int) (l : List LK) (j : Nat) : (keptT txn (l.take j)).length ≤ l.length := Nat.le_trans (kept_len _ _) (List.length_take_le' _ _)
set_option maxRecDepth 100000 in
set_option maxHeartbeats 32000000 in
theorem LeftBy_good (G : List (Nat × List Value)) (t1 t2 : Bool) (l1 l2 : List LK) (o1 : okKs l1) (o2 : okKs l2) (hg : lockGood l1 l2) (txn : Int) (h1 : 1 ≤ txn) (h2 : txn ≤ 1048576) :
    Con Go.Proofs.Tryd.prog G 21 [.agg [.ro t1 3 (l1.map eK), .ro t2 3 (l2.map eK)], .r (.int .i64 txn)] [] 0
      (Is (.tup [.agg [.ro true 3 ((leaveM l1 l2 txn).1.map eK), .ro true 3 ((leaveM l1 l2 txn).2.1.map eK)], .ro true 1 ((leaveM l1 l2 txn).2.2.map eI), .r (.int .i64 0)]) [] 0) No := by
  have cc := locksFault_con G t1 t2 l1 l2 o1 o2
  rw [Go.Proofs.YteebiklebedneaaDoor.chk_yes hg] at cc
  have ic := inK_con G txn 1 1048576
  rw [show (decide ((1 : Int) ≤ txn) && decide (txn ≤ 1048576)) = true by simp [h1, h2]] at ic
  have p1 := o1.1
  have p2 := o2.1
  refine con_of_awp Go.Proofs.Tryd.func21 rfl (by kernel_rfl) (of_decide_eq_true (by kernel_rfl)) ?_; intro E hG hE; subst hG; simp only [ent]
  (repeat' (first | refine awp_seq ?_ | refine awp_block ?_ | refine awp_skip ?_ | refine awp_exit ?_ | ((first | refine rR (fun K kp hK hkp => ?_) | refine rD (id := 11) mixed 8 [0,1,2,3,4,5,6,7] (fun K kp hK hkp => ?_) | refine rD (id := 16) mixed 8 [0,1,2,3,4,5,6,7] (fun K kp hK hkp => ?_) | refine cR cc ?_ | refine cD cc ?_ | refine cR ic ?_ | refine cD ic ?_ | refine iG ?_ | refine iD ?_); simp (implicitDefEqProofs := false) (maxSteps := 2000000) (disch := omega) only [go_sem, eK]; (repeat' (first | (refine hK _ ?_; clear hK hkp kp K) | (with_reducible refine And.intro ?_ ?_) | omega))) | ((first | refine aG (fun h => ?_) (fun h => ?_) | refine aD (fun h => ?_) (fun h => ?_) | refine aX (fun h => ?_) (fun h => ?_)) <;> simp only [h]) | refine awp_cond_t rfl ?_ | refine awp_cond_f rfl ?_ | ((refine awp_cond rfl (fun h => ?_) (fun h => ?_) <;> try simp only [ifs] at h) <;> (try (exfalso; omega))) | refine awp_ret ?_))
  (refine AWP.emb (emb_nilB 2 0 82 3 rfl rfl (by simp)) ?_; simp only [List.set_cons_zero, List.set_cons_succ, lk, ↓reduceIte, Nat.reduceAdd])
  refine awp_loop (fun k : Nat => ⟨[(9, .r (.int .i64 k)), (8, .p 2 0 0), (4, .p 1 0 0), (2, .p 0 0 0), (1, .r (.int .i64 txn))], [(0, .box 41 [.ro t1 3 (l1.map eK), .ro t2 3 (l2.map eK)]), (1, .box 41 [.r (.slice none 0 0), .r (.slice none 0 0)]), (2, .box 41 [.s 3 0 (keptT txn (l1.take k)).length, .r (.slice none 0 0)]), (3, .lst 82 3 ((keptT txn (l1.take k)).map eK))], 4⟩) (fun k => k ≤ l1.length) (fun k => l1.length - k) 0 ?_ ?_ ?_
  · simp
  · (refine emb [0, 1, 2, 3] ?_ ?_ rfl ?_ ?_ ?_ ?_ <;> simp [okM, okO, lk, ren, renL, renNd, by_, hE, keptT, keptK] <;> (try omega) <;> (try (intro i hi; first | (rcases (by omega : i = 0 ∨ i = 1 ∨ i = 2) with rfl | rfl | rfl <;> rfl) | (rcases (by omega : i = 0 ∨ i = 1) with rfl | rfl <;> rfl))))
  · intro k hk
    have hle := keptT_len txn l1 k
    by_cases hlt : k < l1.length
    · obtain ⟨x, hx⟩ : ∃ x, l1[k]? = some x := ⟨l1[k], by simp [hlt]⟩
      have hs := keptT_succ (txn := txn) hx
      cases e1 : (x.t == txn)
      · have e2 : (x.t != txn) = true := by simpa using e1
        rw [e1, if_neg (by simp)] at hs
        (repeat' (first | refine awp_seq ?_ | refine awp_block ?_ | refine awp_skip ?_ | refine awp_exit ?_ | ((first | refine rR (fun K kp hK hkp => ?_) | refine rD (id := 11) mixed 8 [0,1,2,3,4,5,6,7] (fun K kp hK hkp => ?_) | refine rD (id := 16) mixed 8 [0,1,2,3,4,5,6,7] (fun K kp hK hkp => ?_) | refine iG ?_ | refine iD ?_); simp (implicitDefEqProofs := false) (maxSteps := 2000000) (disch := omega) only [go_sem, eK, hx, e2]; (repeat' (first | (refine hK _ ?_; clear hK hkp kp K) | (with_reducible refine And.intro ?_ ?_) | omega))) | ((first | refine aG (fun h => ?_) (fun h => ?_) | refine aD (fun h => ?_) (fun h => ?_) | refine aX (fun h => ?_) (fun h => ?_)) <;> simp only [h]) | refine awp_cond_t rfl ?_ | refine awp_cond_f rfl ?_ | ((refine awp_cond rfl (fun h => ?_) (fun h => ?_) <;> try simp only [ifs] at h) <;> (try (exfalso; omega))) | refine awp_ret ?_))
        ((first | (refine nextB (k + 1) ?_ ?_ ?_) | (refine nextA (k + 1) ?_ ?_ ?_) | (refine nextE (k + 1) ?_ ?_ ?_)); rotate_left; (· (try dsimp only); (first | omega | (simp only [List.length_drop, List.length_cons, List.length_append]; omega) | (simp; done) | (simp; omega))); (· (refine emb [0, 1, 2, 5] ?_ ?_ rfl ?_ ?_ ?_ ?_ <;> simp [okM, okO, lk, ren, renL, renNd, by_, hE, eK, hs] <;> (try omega) <;> (try (intro i hi; first | (rcases (by omega : i = 0 ∨ i = 1 ∨ i = 2) with rfl | rfl | rfl <;> rfl) | (rcases (by omega : i = 0 ∨ i = 1) with rfl | rfl <;> rfl))))))
        omega
      · have e2 : (x.t != txn) = false := by simpa using e1
        rw [e1, if_pos rfl] at hs
        (repeat' (first | refine awp_seq ?_ | refine awp_block ?_ | refine awp_skip ?_ | refine awp_exit ?_ | ((first | refine rR (fun K kp hK hkp => ?_) | refine rD (id := 11) mixed 8 [0,1,2,3,4,5,6,7] (fun K kp hK hkp => ?_) | refine rD (id := 16) mixed 8 [0,1,2,3,4,5,6,7] (fun K kp hK hkp => ?_) | refine iG ?_ | refine iD ?_); simp (implicitDefEqProofs := false) (maxSteps := 2000000) (disch := omega) only [go_sem, eK, hx, e2]; (repeat' (first | (refine hK _ ?_; clear hK hkp kp K) | (with_reducible refine And.intro ?_ ?_) | omega))) | ((first | refine aG (fun h => ?_) (fun h => ?_) | refine aD (fun h => ?_) (fun h => ?_) | refine aX (fun h => ?_) (fun h => ?_)) <;> simp only [h]) | refine awp_cond_t rfl ?_ | refine awp_cond_f rfl ?_ | ((refine awp_cond rfl (fun h => ?_) (fun h => ?_) <;> try simp only [ifs] at h) <;> (try (exfalso; omega))) | refine awp_ret ?_))
        ((first | (refine nextB (k + 1) ?_ ?_ ?_) | (refine nextA (k + 1) ?_ ?_ ?_) | (refine nextE (k + 1) ?_ ?_ ?_)); rotate_left; (· (try dsimp only); (first | omega | (simp only [List.length_drop, List.length_cons, List.length_append]; omega) | (simp; done) | (simp; omega))); (· (refine emb [0, 1, 2, 3] ?_ ?_ rfl ?_ ?_ ?_ ?_ <;> simp [okM, okO, lk, ren, renL, renNd, by_, hE, eK, hs] <;> (try omega) <;> (try (intro i hi; first | (rcases (by omega : i = 0 ∨ i = 1 ∨ i = 2) with rfl | rfl | rfl <;> rfl) | (rcases (by omega : i = 0 ∨ i = 1) with rfl | rfl <;> rfl))))))
        omega
    obtain rfl : k = l1.length := by omega
    rw [List.take_length] at hle ⊢
    (repeat' (first | refine awp_seq ?_ | refine awp_block ?_ | refine awp_skip ?_ | refine awp_exit ?_ | ((first | refine rR (fun K kp hK hkp => ?_) | refine rD (id := 11) mixed 8 [0,1,2,3,4,5,6,7] (fun K kp hK hkp => ?_) | refine rD (id := 16) mixed 8 [0,1,2,3,4,5,6,7] (fun K kp hK hkp => ?_) | refine iG ?_ | refine iD ?_); simp (implicitDefEqProofs := false) (maxSteps := 2000000) (disch := omega) only [go_sem, eK]; (repeat' (first | (refine hK _ ?_; clear hK hkp kp K) | (with_reducible refine And.intro ?_ ?_) | omega))) | ((first | refine aG (fun h => ?_) (fun h => ?_) | refine aD (fun h => ?_) (fun h => ?_) | refine aX (fun h => ?_) (fun h => ?_)) <;> simp only [h]) | refine awp_cond_t rfl ?_ | refine awp_cond_f rfl ?_ | ((refine awp_cond rfl (fun h => ?_) (fun h => ?_) <;> try simp only [ifs] at h) <;> (try (exfalso; omega))) | refine awp_ret ?_))
    (refine AWP.emb (emb_nilB 2 1 82 3 rfl rfl (by simp)) ?_; simp only [List.set_cons_zero, List.set_cons_succ, lk, ↓reduceIte, Nat.reduceAdd])
    refine awp_loop (fun k : Nat => ⟨[(10, .r (.int .i64 k)), (8, .p 2 0 0), (4, .p 1 0 0), (2, .p 0 0 0), (1, .r (.int .i64 txn))], [(0, .box 41 [.ro t1 3 (l1.map eK), .ro t2 3 (l2.map eK)]), (1, .box 41 [.r (.slice none 0 0), .r (.slice none 0 0)]), (2, .box 41 [.s 3 0 (keptT txn l1).length, .s 4 0 (keptT txn (l2.take k)).length]), (3, .lst 82 3 ((keptT txn l1).map eK)), (4, .lst 82 3 ((keptT txn (l2.take k)).map eK))], 5⟩) (fun k => k ≤ l2.length) (fun k => l2.length - k) 0 ?_ ?_ ?_
    · simp
    · (refine emb [0, 1, 2, 3, 4] ?_ ?_ rfl ?_ ?_ ?_ ?_ <;> simp [okM, okO, lk, ren, renL, renNd, by_, hE, keptT, keptK] <;> (try omega) <;> (try (intro i hi; first | (rcases (by omega : i = 0 ∨ i = 1 ∨ i = 2) with rfl | rfl | rfl <;> rfl) | (rcases (by omega : i = 0 ∨ i = 1) with rfl | rfl <;> rfl))))
    intro k hk
    have hle2 := keptT_len txn l2 k
    by_cases hlt : k < l2.length
    · obtain ⟨x, hx⟩ : ∃ x, l2[k]? = some x := ⟨l2[k], by simp [hlt]⟩
      have hs := keptT_succ (txn := txn) hx
      cases e1 : (x.t == txn)
      · have e2 : (x.t != txn) = true := by simpa using e1
        rw [e1, if_neg (by simp)] at hs
        (repeat' (first | refine awp_seq ?_ | refine awp_block ?_ | refine awp_skip ?_ | refine awp_exit ?_ | ((first | refine rR (fun K kp hK hkp => ?_) | refine rD (id := 11) mixed 8 [0,1,2,3,4,5,6,7] (fun K kp hK hkp => ?_) | refine rD (id := 16) mixed 8 [0,1,2,3,4,5,6,7] (fun K kp hK hkp => ?_) | refine iG ?_ | refine iD ?_); simp (implicitDefEqProofs := false) (maxSteps := 2000000) (disch := omega) only [go_sem, eK, hx, e2]; (repeat' (first | (refine hK _ ?_; clear hK hkp kp K) | (with_reducible refine And.intro ?_ ?_) | omega))) | ((first | refine aG (fun h => ?_) (fun h => ?_) | refine aD (fun h => ?_) (fun h => ?_) | refine aX (fun h => ?_) (fun h => ?_)) <;> simp only [h]) | refine awp_cond_t rfl ?_ | refine awp_cond_f rfl ?_ | ((refine awp_cond rfl (fun h => ?_) (fun h => ?_) <;> try simp only [ifs] at h) <;> (try (exfalso; omega))) | refine awp_ret ?_))
        ((first | (refine nextB (k + 1) ?_ ?_ ?_) | (refine nextA (k + 1) ?_ ?_ ?_) | (refine nextE (k + 1) ?_ ?_ ?_)); rotate_left; (· (try dsimp only); (first | omega | (simp only [List.length_drop, List.length_cons, List.length_append]; omega) | (simp; done) | (simp; omega))); (· (refine emb [0, 1, 2, 3, 6] ?_ ?_ rfl ?_ ?_ ?_ ?_ <;> simp [okM, okO, lk, ren, renL, renNd, by_, hE, eK, hs] <;> (try omega) <;> (try (intro i hi; first | (rcases (by omega : i = 0 ∨ i = 1 ∨ i = 2) with rfl | rfl | rfl <;> rfl) | (rcases (by omega : i = 0 ∨ i = 1) with rfl | rfl <;> rfl))))))
        omega
      · have e2 : (x.t != txn) = false := by simpa using e1
        rw [e1, if_pos rfl] at hs
        (repeat' (first | refine awp_seq ?_ | refine awp_block ?_ | refine awp_skip ?_ | refine awp_exit ?_ | ((first | refine rR (fun K kp hK hkp => ?_) | refine rD (id := 11) mixed 8 [0,1,2,3,4,5,6,7] (fun K kp hK hkp => ?_) | refine rD (id := 16) mixed 8 [0,1,2,3,4,5,6,7] (fun K kp hK hkp => ?_) | refine iG ?_ | refine iD ?_); simp (implicitDefEqProofs := false) (maxSteps := 2000000) (disch := omega) only [go_sem, eK, hx, e2]; (repeat' (first | (refine hK _ ?_; clear hK hkp kp K) | (with_reducible refine And.intro ?_ ?_) | omega))) | ((first | refine aG (fun h => ?_) (fun h => ?_) | refine aD (fun h => ?_) (fun h => ?_) | refine aX (fun h => ?_) (fun h => ?_)) <;> simp only [h]) | refine awp_cond_t rfl ?_ | refine awp_cond_f rfl ?_ | ((refine awp_cond rfl (fun h => ?_) (fun h => ?_) <;> try simp only [ifs] at h) <;> (try (exfalso; omega))) | refine awp_ret ?_))
        ((first | (refine nextB (k + 1) ?_ ?_ ?_) | (refine nextA (k + 1) ?_ ?_ ?_) | (refine nextE (k + 1) ?_ ?_ ?_)); rotate_left; (· (try dsimp only); (first | omega | (simp only [List.length_drop, List.length_cons, List.length_append]; omega) | (simp; done) | (simp; omega))); (· (refine emb [0, 1, 2, 3, 4] ?_ ?_ rfl ?_ ?_ ?_ ?_ <;> simp [okM, okO, lk, ren, renL, renNd, by_, hE, eK, hs] <;> (try omega) <;> (try (intro i hi; first | (rcases (by omega : i = 0 ∨ i = 1 ∨ i = 2) with rfl | rfl | rfl <;> rfl) | (rcases (by omega : i = 0 ∨ i = 1) with rfl | rfl <;> rfl))))))
        omega
    obtain rfl : k = l2.length := by omega
    rw [List.take_length] at hle2 ⊢
    (repeat' (first | refine awp_seq ?_ | refine awp_block ?_ | refine awp_skip ?_ | refine awp_exit ?_ | ((first | refine rR (fun K kp hK hkp => ?_) | refine rD (id := 11) mixed 8 [0,1,2,3,4,5,6,7] (fun K kp hK hkp => ?_) | refine rD (id := 16) mixed 8 [0,1,2,3,4,5,6,7] (fun K kp hK hkp => ?_) | refine iG ?_ | refine iD ?_); simp (implicitDefEqProofs := false) (maxSteps := 2000000) (disch := omega) only [go_sem, eK]; (repeat' (first | (refine hK _ ?_; clear hK hkp kp K) | (with_reducible refine And.intro ?_ ?_) | omega))) | ((first | refine aG (fun h => ?_) (fun h => ?_) | refine aD (fun h => ?_) (fun h => ?_) | refine aX (fun h => ?_) (fun h => ?_)) <;> simp only [h]) | refine awp_cond_t rfl ?_ | refine awp_cond_f rfl ?_ | ((refine awp_cond rfl (fun h => ?_) (fun h => ?_) <;> try simp only [ifs] at h) <;> (try (exfalso; omega))) | refine awp_ret ?_))
    (refine AWP.emb (emb_nil 11 3 1 ?_) ?_; (· rfl); dsimp only)
    obtain ⟨R, hR⟩ : ∃ R, leaveM l1 l2 txn = R := ⟨_, rfl⟩
    rw [hR]
    have g1 := kept_len (fun x => x.t == txn) l1
    have g2 := kept_len (fun x => x.t == txn) l2
    have g3 := hg.1
    obtain ⟨m1, m2⟩ := good_modes0 hg
    have ok0 : LeaveOk (keptT txn l1) (keptT txn l2) [] := ⟨by simp only [keptT]; omega, by simp only [keptT, List.length_nil]; omega, fun y hy => m1 y (List.mem_filter.1 hy).1, fun y hy => m2 y (List.mem_filter.1 hy).1⟩
    refine awp_loop (fun d : Bool × List LK × List LK × List Int => ⟨[(12, .r (.bool d.1)), (11, .s 5 0 d.2.2.2.length), (8, .p 2 0 0), (4, .p 1 0 0), (2, .p 0 0 0)], [(0, .box 41 [.ro t1 3 (l1.map eK), .ro t2 3 (l2.map eK)]), (1, .box 41 [.r (.slice none 0 0), .r (.slice none 0 0)]), (2, .box 41 [.s 3 0 d.2.1.length, .s 4 0 d.2.2.1.length]), (3, .lst 82 3 (d.2.1.map eK)), (4, .lst 82 3 (d.2.2.1.map eK)), (5, .lst 3 1 (d.2.2.2.map eI))], 6⟩)
      (fun d => LeaveOk d.2.1 d.2.2.1 d.2.2.2 ∧ leaveF d.2.2.1.length d.2.1 d.2.2.1 d.2.2.2 = R ∧ (d.1 = false → nxtF d.2.1 d.2.2.1 d.2.2.1.length 0 = none)) (fun d => d.2.2.1.length + (if d.1 = true then 1 else 0)) (true, keptT txn l1, keptT txn l2, []) ?_ ?_ ?_
    · exact ⟨ok0, hR, fun h => by simp at h⟩
    · (refine emb [0, 1, 2, 3, 4, 5] ?_ ?_ rfl ?_ ?_ ?_ ?_ <;> simp [okM, okO, lk, ren, renL, renNd, by_, hE, keptT] <;> (try omega) <;> (try (intro i hi; first | (rcases (by omega : i = 0 ∨ i = 1 ∨ i = 2) with rfl | rfl | rfl <;> rfl) | (rcases (by omega : i = 0 ∨ i = 1) with rfl | rfl <;> rfl))))
    rintro ⟨b, hh, q, wk⟩ ⟨ok, hl, hn⟩
    simp only at ok hl hn ⊢
    have b1 := ok.many
    have b2 := ok.wmany
    cases b
    · rw [leave_stop (hn rfl)] at hl
      subst hl
      simp only
      (repeat' (first | refine awp_seq ?_ | refine awp_block ?_ | refine awp_skip ?_ | refine awp_exit ?_ | ((first | refine rR (fun K kp hK hkp => ?_) | refine rD (id := 11) mixed 8 [0,1,2,3,4,5,6,7] (fun K kp hK hkp => ?_) | refine rD (id := 16) mixed 8 [0,1,2,3,4,5,6,7] (fun K kp hK hkp => ?_) | refine iG ?_ | refine iD ?_); simp (implicitDefEqProofs := false) (maxSteps := 2000000) (disch := omega) only [go_sem, eK]; (repeat' (first | (refine hK _ ?_; clear hK hkp kp K) | (with_reducible refine And.intro ?_ ?_) | omega))) | ((first | refine aG (fun h => ?_) (fun h => ?_) | refine aD (fun h => ?_) (fun h => ?_) | refine aX (fun h => ?_) (fun h => ?_)) <;> simp only [h]) | refine awp_cond_t rfl ?_ | refine awp_cond_f rfl ?_ | ((refine awp_cond rfl (fun h => ?_) (fun h => ?_) <;> try simp only [ifs] at h) <;> (try (exfalso; omega))) | refine awp_ret ?_))
      (refine retA_is (by (simp (implicitDefEqProofs := false) (maxSteps := 2000000) (disch := omega) only [go_sem, Go.Proofs.Tryd.results21]); rfl) ?_; refine embS_frz (by simp only [oneA]; simp (implicitDefEqProofs := false) (maxSteps := 2000000) (disch := omega) only [go_sem]; rfl) ?_; refine (embV_nil hE (by simp) ?_).s; simp [oneA, ren, renL])
    (repeat' (first | refine awp_seq ?_ | refine awp_block ?_ | refine awp_skip ?_ | refine awp_exit ?_ | ((first | refine rR (fun K kp hK hkp => ?_) | refine rD (id := 11) mixed 8 [0,1,2,3,4,5,6,7] (fun K kp hK hkp => ?_) | refine rD (id := 16) mixed 8 [0,1,2,3,4,5,6,7] (fun K kp hK hkp => ?_) | refine iG ?_ | refine iD ?_); simp (implicitDefEqProofs := false) (maxSteps := 2000000) (disch := omega) only [go_sem, eK]; (repeat' (first | (refine hK _ ?_; clear hK hkp kp K) | (with_reducible refine And.intro ?_ ?_) | omega))) | ((first | refine aG (fun h => ?_) (fun h => ?_) | refine aD (fun h => ?_) (fun h => ?_) | refine aX (fun h => ?_) (fun h => ?_)) <;> simp only [h]) | refine awp_cond_t rfl ?_ | refine awp_cond_f rfl ?_ | ((refine awp_cond rfl (fun h => ?_) (fun h => ?_) <;> try simp only [ifs] at h) <;> (try (exfalso; omega))) | refine awp_ret ?_))
    refine awp_loop (fun d : Nat × Bool × List LK × List LK × List Int => ⟨[(13, .r (.int .i64 d.1)), (12, .r (.bool d.2.1)), (11, .s 5 0 d.2.2.2.2.length), (8, .p 2 0 0), (4, .p 1 0 0), (2, .p 0 0 0)], [(0, .box 41 [.ro t1 3 (l1.map eK), .ro t2 3 (l2.map eK)]), (1, .box 41 [.r (.slice none 0 0), .r (.slice none 0 0)]), (2, .box 41 [.s 3 0 d.2.2.1.length, .s 4 0 d.2.2.2.1.length]), (3, .lst 82 3 (d.2.2.1.map eK)), (4, .lst 82 3 (d.2.2.2.1.map eK)), (5, .lst 3 1 (d.2.2.2.2.map eI))], 6⟩)
      (fun d => (d.2.1 = false ∧ d.2.2 = (hh, q, wk) ∧ d.1 ≤ q.length ∧ nxtF hh q (q.length - d.1) d.1 = nxtF hh q q.length 0) ∨ (d.2.1 = true ∧ LeaveOk d.2.2.1 d.2.2.2.1 d.2.2.2.2 ∧ leaveF d.2.2.2.1.length d.2.2.1 d.2.2.2.1 d.2.2.2.2 = R ∧ d.2.2.2.1.length < q.length ∧ d.1 ≤ q.length)) (fun d => if d.2.1 = true then 0 else 1 + (q.length - d.1)) (0, false, hh, q, wk) ?_ ?_ ?_
    · exact .inl ⟨rfl, rfl, Nat.zero_le _, rfl⟩
    · (refine emb [0, 1, 2, 3, 4, 5] ?_ ?_ rfl ?_ ?_ ?_ ?_ <;> simp [okM, okO, lk, ren, renL, renNd, by_, hE, keptT] <;> (try omega) <;> (try (intro i hi; first | (rcases (by omega : i = 0 ∨ i = 1 ∨ i = 2) with rfl | rfl | rfl <;> rfl) | (rcases (by omega : i = 0 ∨ i = 1) with rfl | rfl <;> rfl))))
    rintro ⟨i, b, hh2, q2, wk2⟩ hD
    simp only at hD ⊢
    rcases hD with ⟨rfl, hD, hi, hN⟩ | ⟨rfl, ok2, hl2, hq2, hi⟩
    · simp only [Prod.mk.injEq] at hD
      obtain ⟨rfl, rfl, rfl⟩ := hD
      by_cases hlt : i < q2.length
      · obtain ⟨x, hx⟩ : ∃ x, q2[i]? = some x := ⟨q2[i], by simp [hlt]⟩
        have z1 : ((i : Int) < (q2.length : Int)) = True := eq_true (by omega)
        have wc := waitsFor_con E.G false false hh2 q2 (by omega) (by omega) i x hx
        have wn := Go.Proofs.YteebiklebedneaaDoor.wfM_nil (l1 := hh2) (l2 := q2) (i := i) (ok.qm x (List.mem_of_getElem? hx)) ok.hm
        cases hf : firstM hh2 q2 i x
        · have wp : 0 < (wfM hh2 q2 i x).length := List.length_pos_iff.2 (fun h => by rw [wn.1 h] at hf; simp at hf)
          have z2 : decide (((wfM hh2 q2 i x).length : Int) > 0) = true := decide_eq_true (by omega)
          (repeat' (first | refine awp_seq ?_ | refine awp_block ?_ | refine awp_skip ?_ | refine awp_exit ?_ | ((first | refine rR (fun K kp hK hkp => ?_) | refine rD (id := 11) mixed 8 [0,1,2,3,4,5,6,7] (fun K kp hK hkp => ?_) | refine rD (id := 16) mixed 8 [0,1,2,3,4,5,6,7] (fun K kp hK hkp => ?_) | refine cR wc ?_ | refine cD wc ?_ | refine iG ?_ | refine iD ?_); simp (implicitDefEqProofs := false) (maxSteps := 2000000) (disch := omega) only [go_sem, eK, hx, z1, z2]; (repeat' (first | (refine hK _ ?_; clear hK hkp kp K) | (with_reducible refine And.intro ?_ ?_) | omega))) | ((first | refine aG (fun h => ?_) (fun h => ?_) | refine aD (fun h => ?_) (fun h => ?_) | refine aX (fun h => ?_) (fun h => ?_)) <;> simp only [h]) | refine awp_cond_t rfl ?_ | refine awp_cond_f rfl ?_ | ((refine awp_cond rfl (fun h => ?_) (fun h => ?_) <;> try simp only [ifs] at h) <;> (try (exfalso; omega))) | refine awp_ret ?_))
          ((first | (refine nextB ((i + 1, false, hh2, q2, wk2)) ?_ ?_ ?_) | (refine nextA ((i + 1, false, hh2, q2, wk2)) ?_ ?_ ?_) | (refine nextE ((i + 1, false, hh2, q2, wk2)) ?_ ?_ ?_)); rotate_left; (· (try dsimp only); (first | omega | (simp only [List.length_drop, List.length_cons, List.length_append]; omega) | (simp; done) | (simp; omega))); (· (refine emb [0, 1, 2, 3, 4, 5] ?_ ?_ rfl ?_ ?_ ?_ ?_ <;> simp [okM, okO, lk, ren, renL, renNd, by_, hE, eI] <;> (try omega) <;> (try (intro i hi; first | (rcases (by omega : i = 0 ∨ i = 1 ∨ i = 2) with rfl | rfl | rfl <;> rfl) | (rcases (by omega : i = 0 ∨ i = 1) with rfl | rfl <;> rfl))))))
          exact .inl ⟨rfl, rfl, Nat.succ_le_of_lt hlt, by rw [← hN, nxt_on hx hf]⟩
        · rw [wn.2 hf] at wc
          have dl := delM_len hlt
          have os := ok.step hx
          have os1 := os.many
          have os2 := os.wmany
          rw [leave_go hx (by rw [← hN, nxt_go hx hf])] at hl
          (repeat' (first | refine awp_seq ?_ | refine awp_block ?_ | refine awp_skip ?_ | refine awp_exit ?_ | ((first | refine rR (fun K kp hK hkp => ?_) | refine rD (id := 11) mixed 8 [0,1,2,3,4,5,6,7] (fun K kp hK hkp => ?_) | refine rD (id := 16) mixed 8 [0,1,2,3,4,5,6,7] (fun K kp hK hkp => ?_) | refine cR wc ?_ | refine cD wc ?_ | refine iG ?_ | refine iD ?_); simp (implicitDefEqProofs := false) (maxSteps := 2000000) (disch := omega) only [go_sem, eK, hx, z1]; (repeat' (first | (refine hK _ ?_; clear hK hkp kp K) | (with_reducible refine And.intro ?_ ?_) | omega))) | ((first | refine aG (fun h => ?_) (fun h => ?_) | refine aD (fun h => ?_) (fun h => ?_) | refine aX (fun h => ?_) (fun h => ?_)) <;> simp only [h]) | refine awp_cond_t rfl ?_ | refine awp_cond_f rfl ?_ | ((refine awp_cond rfl (fun h => ?_) (fun h => ?_) <;> try simp only [ifs] at h) <;> (try (exfalso; omega))) | refine awp_ret ?_))
          (refine AWP.emb (emb_nil 15 82 3 ?_) ?_; (· rfl); dsimp only)
          refine awp_loop (fun k : Nat => ⟨[(16, .r (.int .i64 k)), (15, .s 7 0 (restM q2 i k).length), (14, .p 6 0 0), (13, .r (.int .i64 i)), (12, .r (.bool false)), (11, .s 5 0 wk2.length), (8, .p 2 0 0), (4, .p 1 0 0), (2, .p 0 0 0)], [(0, .box 41 [.ro t1 3 (l1.map eK), .ro t2 3 (l2.map eK)]), (1, .box 41 [.r (.slice none 0 0), .r (.slice none 0 0)]), (2, .box 41 [.s 3 0 hh2.length, .s 4 0 q2.length]), (3, .lst 82 3 (hh2.map eK)), (4, .lst 82 3 (q2.map eK)), (5, .lst 3 1 (wk2.map eI)), (6, .box 82 (eK x)), (7, .lst 82 3 ((restM q2 i k).map eK))], 8⟩) (fun k => k ≤ q2.length) (fun k => q2.length - k) 0 ?_ ?_ ?_
          · simp
          · simp only [restM_zero]
            (refine emb [0, 1, 2, 3, 4, 5, 7, 8] ?_ ?_ rfl ?_ ?_ ?_ ?_ <;> simp [okM, okO, lk, ren, renL, renNd, by_, hE, eK] <;> (try omega) <;> (try (intro i hi; first | (rcases (by omega : i = 0 ∨ i = 1 ∨ i = 2) with rfl | rfl | rfl <;> rfl) | (rcases (by omega : i = 0 ∨ i = 1) with rfl | rfl <;> rfl))))
          intro k hk
          have hle3 := restM_len q2 i k
          by_cases hkl : k < q2.length
          · obtain ⟨y, hy⟩ : ∃ y, q2[k]? = some y := ⟨q2[k], by simp [hkl]⟩
            by_cases hki : k = i
            · subst hki
              have z3 : ((k : Int) != (k : Int)) = false := by simp
              (repeat' (first | refine awp_seq ?_ | refine awp_block ?_ | refine awp_skip ?_ | refine awp_exit ?_ | ((first | refine rR (fun K kp hK hkp => ?_) | refine rD (id := 11) mixed 8 [0,1,2,3,4,5,6,7] (fun K kp hK hkp => ?_) | refine rD (id := 16) mixed 8 [0,1,2,3,4,5,6,7] (fun K kp hK hkp => ?_) | refine iG ?_ | refine iD ?_); simp (implicitDefEqProofs := false) (maxSteps := 2000000) (disch := omega) only [go_sem, eK, z3]; (repeat' (first | (refine hK _ ?_; clear hK hkp kp K) | (with_reducible refine And.intro ?_ ?_) | omega))) | ((first | refine aG (fun h => ?_) (fun h => ?_) | refine aD (fun h => ?_) (fun h => ?_) | refine aX (fun h => ?_) (fun h => ?_)) <;> simp only [h]) | refine awp_cond_t rfl ?_ | refine awp_cond_f rfl ?_ | ((refine awp_cond rfl (fun h => ?_) (fun h => ?_) <;> try simp only [ifs] at h) <;> (try (exfalso; omega))) | refine awp_ret ?_))
              ((first | (refine nextB (k + 1) ?_ ?_ ?_) | (refine nextA (k + 1) ?_ ?_ ?_) | (refine nextE (k + 1) ?_ ?_ ?_)); rotate_left; (· (try dsimp only); (first | omega | (simp only [List.length_drop, List.length_cons, List.length_append]; omega) | (simp; done) | (simp; omega))); (· (refine emb [0, 1, 2, 3, 4, 5, 6, 7] ?_ ?_ rfl ?_ ?_ ?_ ?_ <;> simp [okM, okO, lk, ren, renL, renNd, by_, hE, restM_same, eK] <;> (try omega) <;> (try (intro i hi; first | (rcases (by omega : i = 0 ∨ i = 1 ∨ i = 2) with rfl | rfl | rfl <;> rfl) | (rcases (by omega : i = 0 ∨ i = 1) with rfl | rfl <;> rfl))))))
              omega
            · have z3 : ((k : Int) != (i : Int)) = true := by simp; omega
              have hs := restM_succ hy hki
              (repeat' (first | refine awp_seq ?_ | refine awp_block ?_ | refine awp_skip ?_ | refine awp_exit ?_ | ((first | refine rR (fun K kp hK hkp => ?_) | refine rD (id := 11) mixed 8 [0,1,2,3,4,5,6,7] (fun K kp hK hkp => ?_) | refine rD (id := 16) mixed 8 [0,1,2,3,4,5,6,7] (fun K kp hK hkp => ?_) | refine iG ?_ | refine iD ?_); simp (implicitDefEqProofs := false) (maxSteps := 2000000) (disch := omega) only [go_sem, eK, hy, z3]; (repeat' (first | (refine hK _ ?_; clear hK hkp kp K) | (with_reducible refine And.intro ?_ ?_) | omega))) | ((first | refine aG (fun h => ?_) (fun h => ?_) | refine aD (fun h => ?_) (fun h => ?_) | refine aX (fun h => ?_) (fun h => ?_)) <;> simp only [h]) | refine awp_cond_t rfl ?_ | refine awp_cond_f rfl ?_ | ((refine awp_cond rfl (fun h => ?_) (fun h => ?_) <;> try simp only [ifs] at h) <;> (try (exfalso; omega))) | refine awp_ret ?_))
              have z4 : ((k : Int) < (q2.length : Int)) = True := eq_true (by omega)
              (simp (implicitDefEqProofs := false) (maxSteps := 2000000) (disch := omega) only [go_sem, eK, hy, z4]; (repeat' (first | (refine hK _ ?_; clear hK hkp kp K) | (with_reducible refine And.intro ?_ ?_) | omega)))
              (repeat' (first | refine awp_seq ?_ | refine awp_block ?_ | refine awp_skip ?_ | refine awp_exit ?_ | ((first | refine rR (fun K kp hK hkp => ?_) | refine rD (id := 11) mixed 8 [0,1,2,3,4,5,6,7] (fun K kp hK hkp => ?_) | refine rD (id := 16) mixed 8 [0,1,2,3,4,5,6,7] (fun K kp hK hkp => ?_) | refine iG ?_ | refine iD ?_); simp (implicitDefEqProofs := false) (maxSteps := 2000000) (disch := omega) only [go_sem, eK, hy]; (repeat' (first | (refine hK _ ?_; clear hK hkp kp K) | (with_reducible refine And.intro ?_ ?_) | omega))) | ((first | refine aG (fun h => ?_) (fun h => ?_) | refine aD (fun h => ?_) (fun h => ?_) | refine aX (fun h => ?_) (fun h => ?_)) <;> simp only [h]) | refine awp_cond_t rfl ?_ | refine awp_cond_f rfl ?_ | ((refine awp_cond rfl (fun h => ?_) (fun h => ?_) <;> try simp only [ifs] at h) <;> (try (exfalso; omega))) | refine awp_ret ?_))
              ((first | (refine nextB (k + 1) ?_ ?_ ?_) | (refine nextA (k + 1) ?_ ?_ ?_) | (refine nextE (k + 1) ?_ ?_ ?_)); rotate_left; (· (try dsimp only); (first | omega | (simp only [List.length_drop, List.length_cons, List.length_append]; omega) | (simp; done) | (simp; omega))); (· (refine emb [0, 1, 2, 3, 4, 5, 6, 9] ?_ ?_ rfl ?_ ?_ ?_ ?_ <;> simp [okM, okO, lk, ren, renL, renNd, by_, hE, eK, hs] <;> (try omega) <;> (try (intro i hi; first | (rcases (by omega : i = 0 ∨ i = 1 ∨ i = 2) with rfl | rfl | rfl <;> rfl) | (rcases (by omega : i = 0 ∨ i = 1) with rfl | rfl <;> rfl))))))
              omega
          obtain rfl : k = q2.length := by omega
          rw [restM_all hlt] at hle3 ⊢
          have b3 : wk2.length + q2.length ≤ 400 := b2
          (repeat' (first | refine awp_seq ?_ | refine awp_block ?_ | refine awp_skip ?_ | refine awp_exit ?_ | ((first | refine rR (fun K kp hK hkp => ?_) | refine rD (id := 11) mixed 8 [0,1,2,3,4,5,6,7] (fun K kp hK hkp => ?_) | refine rD (id := 16) mixed 8 [0,1,2,3,4,5,6,7] (fun K kp hK hkp => ?_) | refine iG ?_ | refine iD ?_); simp (implicitDefEqProofs := false) (maxSteps := 2000000) (disch := omega) only [go_sem, eK]; (repeat' (first | (refine hK _ ?_; clear hK hkp kp K) | (with_reducible refine And.intro ?_ ?_) | omega))) | ((first | refine aG (fun h => ?_) (fun h => ?_) | refine aD (fun h => ?_) (fun h => ?_) | refine aX (fun h => ?_) (fun h => ?_)) <;> simp only [h]) | refine awp_cond_t rfl ?_ | refine awp_cond_f rfl ?_ | ((refine awp_cond rfl (fun h => ?_) (fun h => ?_) <;> try simp only [ifs] at h) <;> (try (exfalso; omega))) | refine awp_ret ?_))
          rcases (by omega : 0 ≤ findM x.t x.s hh2 ∨ findM x.t x.s hh2 < 0) with hF | hF
          · have hc := given_in E.G hh2 (delM q2 i) (by omega) x hF
            simp only [eK] at hc
            (refine callR_own [3, 7] (hc) ?_ ?_ ?_ ?_ ?_ ?_ ?_ ?_ rfl rfl ?_; (· simp [pasL, pas, idx, bor, borL, borC, lk, eK]); (· simp [okO, lk, renNd, renL, ren, by_, eK]); (· (intro i hi; simp only [List.length_cons, List.length_nil] at hi; repeat' (first | omega | exact ⟨_, rfl⟩ | (rcases i with _ | i)))); (· simp); (· simp); (· simp); (· simp [eK]); (· simp [eK]); simp only [mapO, fw, rmL, rm, List.map_cons, List.map_nil, List.foldl_cons, List.foldl_nil, List.getElem?_cons_zero, List.getElem?_cons_succ, List.getElem?_nil, List.length_cons, List.length_nil, Nat.zero_add, Nat.sub_self, Nat.add_zero, ↓reduceIte, Nat.reduceEqDiff, reduceCtorEq, Nat.reduceAdd, Nat.reduceSub, List.cons_append, List.nil_append, ren, renL, renNd, eK]; simp (implicitDefEqProofs := false) (maxSteps := 2000000) (disch := omega) only [go_sem, eK]; (repeat' (first | (refine hK _ ?_; clear hK hkp kp K) | (with_reducible refine And.intro ?_ ?_) | omega)))
            (repeat' (first | refine awp_seq ?_ | refine awp_block ?_ | refine awp_skip ?_ | refine awp_exit ?_ | ((first | refine rR (fun K kp hK hkp => ?_) | refine rD (id := 11) mixed 8 [0,1,2,3,4,5,6,7] (fun K kp hK hkp => ?_) | refine rD (id := 16) mixed 8 [0,1,2,3,4,5,6,7] (fun K kp hK hkp => ?_) | refine iG ?_ | refine iD ?_); simp (implicitDefEqProofs := false) (maxSteps := 2000000) (disch := omega) only [go_sem, eK]; (repeat' (first | (refine hK _ ?_; clear hK hkp kp K) | (with_reducible refine And.intro ?_ ?_) | omega))) | ((first | refine aG (fun h => ?_) (fun h => ?_) | refine aD (fun h => ?_) (fun h => ?_) | refine aX (fun h => ?_) (fun h => ?_)) <;> simp only [h]) | refine awp_cond_t rfl ?_ | refine awp_cond_f rfl ?_ | ((refine awp_cond rfl (fun h => ?_) (fun h => ?_) <;> try simp only [ifs] at h) <;> (try (exfalso; omega))) | refine awp_ret ?_))
            ((first | (refine nextB ((i + 1, true, haveM x hh2, delM q2 i, wk2 ++ [x.t])) ?_ ?_ ?_) | (refine nextA ((i + 1, true, haveM x hh2, delM q2 i, wk2 ++ [x.t])) ?_ ?_ ?_) | (refine nextE ((i + 1, true, haveM x hh2, delM q2 i, wk2 ++ [x.t])) ?_ ?_ ?_)); rotate_left; (· (try dsimp only); (first | omega | (simp only [List.length_drop, List.length_cons, List.length_append]; omega) | (simp; done) | (simp; omega))); (· (refine emb [0, 1, 2, 3, 7, 9] ?_ ?_ rfl ?_ ?_ ?_ ?_ <;> simp [okM, okO, lk, ren, renL, renNd, by_, hE, eI] <;> (try omega) <;> (try (intro i hi; first | (rcases (by omega : i = 0 ∨ i = 1 ∨ i = 2) with rfl | rfl | rfl <;> rfl) | (rcases (by omega : i = 0 ∨ i = 1) with rfl | rfl <;> rfl))))))
            exact .inr ⟨rfl, os, hl, by show (delM q2 i).length < q2.length; omega, Nat.succ_le_of_lt hlt⟩
          · have hc := given_app E.G hh2 (delM q2 i) (by omega) x hF
            simp only [eK] at hc
            (refine callR_own [3, 7] (hc) ?_ ?_ ?_ ?_ ?_ ?_ ?_ ?_ rfl rfl ?_; (· simp [pasL, pas, idx, bor, borL, borC, lk, eK]); (· simp [okO, lk, renNd, renL, ren, by_, eK]); (· (intro i hi; simp only [List.length_cons, List.length_nil] at hi; repeat' (first | omega | exact ⟨_, rfl⟩ | (rcases i with _ | i)))); (· simp); (· simp); (· simp); (· simp [eK]); (· simp [eK]); simp only [mapO, fw, rmL, rm, List.map_cons, List.map_nil, List.foldl_cons, List.foldl_nil, List.getElem?_cons_zero, List.getElem?_cons_succ, List.getElem?_nil, List.length_cons, List.length_nil, Nat.zero_add, Nat.sub_self, Nat.add_zero, ↓reduceIte, Nat.reduceEqDiff, reduceCtorEq, Nat.reduceAdd, Nat.reduceSub, List.cons_append, List.nil_append, ren, renL, renNd, eK]; simp (implicitDefEqProofs := false) (maxSteps := 2000000) (disch := omega) only [go_sem, eK]; (repeat' (first | (refine hK _ ?_; clear hK hkp kp K) | (with_reducible refine And.intro ?_ ?_) | omega)))
            (repeat' (first | refine awp_seq ?_ | refine awp_block ?_ | refine awp_skip ?_ | refine awp_exit ?_ | ((first | refine rR (fun K kp hK hkp => ?_) | refine rD (id := 11) mixed 8 [0,1,2,3,4,5,6,7] (fun K kp hK hkp => ?_) | refine rD (id := 16) mixed 8 [0,1,2,3,4,5,6,7] (fun K kp hK hkp => ?_) | refine iG ?_ | refine iD ?_); simp (implicitDefEqProofs := false) (maxSteps := 2000000) (disch := omega) only [go_sem, eK]; (repeat' (first | (refine hK _ ?_; clear hK hkp kp K) | (with_reducible refine And.intro ?_ ?_) | omega))) | ((first | refine aG (fun h => ?_) (fun h => ?_) | refine aD (fun h => ?_) (fun h => ?_) | refine aX (fun h => ?_) (fun h => ?_)) <;> simp only [h]) | refine awp_cond_t rfl ?_ | refine awp_cond_f rfl ?_ | ((refine awp_cond rfl (fun h => ?_) (fun h => ?_) <;> try simp only [ifs] at h) <;> (try (exfalso; omega))) | refine awp_ret ?_))
            ((first | (refine nextB ((i + 1, true, haveM x hh2, delM q2 i, wk2 ++ [x.t])) ?_ ?_ ?_) | (refine nextA ((i + 1, true, haveM x hh2, delM q2 i, wk2 ++ [x.t])) ?_ ?_ ?_) | (refine nextE ((i + 1, true, haveM x hh2, delM q2 i, wk2 ++ [x.t])) ?_ ?_ ?_)); rotate_left; (· (try dsimp only); (first | omega | (simp only [List.length_drop, List.length_cons, List.length_append]; omega) | (simp; done) | (simp; omega))); (· (refine emb [0, 1, 2, 8, 7, 10] ?_ ?_ rfl ?_ ?_ ?_ ?_ <;> simp [okM, okO, lk, ren, renL, renNd, by_, hE, eI] <;> (try omega) <;> (try (intro i hi; first | (rcases (by omega : i = 0 ∨ i = 1 ∨ i = 2) with rfl | rfl | rfl <;> rfl) | (rcases (by omega : i = 0 ∨ i = 1) with rfl | rfl <;> rfl))))))
            exact .inr ⟨rfl, os, hl, by show (delM q2 i).length < q2.length; omega, Nat.succ_le_of_lt hlt⟩
      · obtain rfl : i = q2.length := by omega
        rw [Nat.sub_self] at hN
        have z1 : ((q2.length : Int) < (q2.length : Int)) = False := eq_false (by omega)
        (repeat' (first | refine awp_seq ?_ | refine awp_block ?_ | refine awp_skip ?_ | refine awp_exit ?_ | ((first | refine rR (fun K kp hK hkp => ?_) | refine rD (id := 11) mixed 8 [0,1,2,3,4,5,6,7] (fun K kp hK hkp => ?_) | refine rD (id := 16) mixed 8 [0,1,2,3,4,5,6,7] (fun K kp hK hkp => ?_) | refine iG ?_ | refine iD ?_); simp (implicitDefEqProofs := false) (maxSteps := 2000000) (disch := omega) only [go_sem, eK, z1]; (repeat' (first | (refine hK _ ?_; clear hK hkp kp K) | (with_reducible refine And.intro ?_ ?_) | omega))) | ((first | refine aG (fun h => ?_) (fun h => ?_) | refine aD (fun h => ?_) (fun h => ?_) | refine aX (fun h => ?_) (fun h => ?_)) <;> simp only [h]) | refine awp_cond_t rfl ?_ | refine awp_cond_f rfl ?_ | ((refine awp_cond rfl (fun h => ?_) (fun h => ?_) <;> try simp only [ifs] at h) <;> (try (exfalso; omega))) | refine awp_ret ?_))
        refine nextF (false, hh2, q2, wk2) ?_ ?_ ?_
        rotate_left
        · simp
        · (refine emb [0, 1, 2, 3, 4, 5] ?_ ?_ rfl ?_ ?_ ?_ ?_ <;> simp [okM, okO, lk, ren, renL, renNd, by_, hE] <;> (try omega) <;> (try (intro i hi; first | (rcases (by omega : i = 0 ∨ i = 1 ∨ i = 2) with rfl | rfl | rfl <;> rfl) | (rcases (by omega : i = 0 ∨ i = 1) with rfl | rfl <;> rfl))))
        · exact ⟨ok, hl, fun _ => hN.symm⟩
    · have os1 := ok2.many
      have os2 := ok2.wmany
      by_cases hlt : i < q2.length
      · have z1 : ((i : Int) < (q2.length : Int)) = True := eq_true (by omega)
        (repeat' (first | refine awp_seq ?_ | refine awp_block ?_ | refine awp_skip ?_ | refine awp_exit ?_ | ((first | refine rR (fun K kp hK hkp => ?_) | refine rD (id := 11) mixed 8 [0,1,2,3,4,5,6,7] (fun K kp hK hkp => ?_) | refine rD (id := 16) mixed 8 [0,1,2,3,4,5,6,7] (fun K kp hK hkp => ?_) | refine iG ?_ | refine iD ?_); simp (implicitDefEqProofs := false) (maxSteps := 2000000) (disch := omega) only [go_sem, eK, z1]; (repeat' (first | (refine hK _ ?_; clear hK hkp kp K) | (with_reducible refine And.intro ?_ ?_) | omega))) | ((first | refine aG (fun h => ?_) (fun h => ?_) | refine aD (fun h => ?_) (fun h => ?_) | refine aX (fun h => ?_) (fun h => ?_)) <;> simp only [h]) | refine awp_cond_t rfl ?_ | refine awp_cond_f rfl ?_ | ((refine awp_cond rfl (fun h => ?_) (fun h => ?_) <;> try simp only [ifs] at h) <;> (try (exfalso; omega))) | refine awp_ret ?_))
        refine nextF (true, hh2, q2, wk2) ?_ ?_ ?_
        rotate_left
        · simp; omega
        · (refine emb [0, 1, 2, 3, 4, 5] ?_ ?_ rfl ?_ ?_ ?_ ?_ <;> simp [okM, okO, lk, ren, renL, renNd, by_, hE] <;> (try omega) <;> (try (intro i hi; first | (rcases (by omega : i = 0 ∨ i = 1 ∨ i = 2) with rfl | rfl | rfl <;> rfl) | (rcases (by omega : i = 0 ∨ i = 1) with rfl | rfl <;> rfl))))
        exact ⟨ok2, hl2, fun h => by simp at h⟩
      · have z1 : ((i : Int) < (q2.length : Int)) = False := eq_false (by omega)
        (repeat' (first | refine awp_seq ?_ | refine awp_block ?_ | refine awp_skip ?_ | refine awp_exit ?_ | ((first | refine rR (fun K kp hK hkp => ?_) | refine rD (id := 11) mixed 8 [0,1,2,3,4,5,6,7] (fun K kp hK hkp => ?_) | refine rD (id := 16) mixed 8 [0,1,2,3,4,5,6,7] (fun K kp hK hkp => ?_) | refine iG ?_ | refine iD ?_); simp (implicitDefEqProofs := false) (maxSteps := 2000000) (disch := omega) only [go_sem, eK, z1]; (repeat' (first | (refine hK _ ?_; clear hK hkp kp K) | (with_reducible refine And.intro ?_ ?_) | omega))) | ((first | refine aG (fun h => ?_) (fun h => ?_) | refine aD (fun h => ?_) (fun h => ?_) | refine aX (fun h => ?_) (fun h => ?_)) <;> simp only [h]) | refine awp_cond_t rfl ?_ | refine awp_cond_f rfl ?_ | ((refine awp_cond rfl (fun h => ?_) (fun h => ?_) <;> try simp only [ifs] at h) <;> (try (exfalso; omega))) | refine awp_ret ?_))
        refine nextF (true, hh2, q2, wk2) ?_ ?_ ?_
        rotate_left
        · simp; omega
        · (refine emb [0, 1, 2, 3, 4, 5] ?_ ?_ rfl ?_ ?_ ?_ ?_ <;> simp [okM, okO, lk, ren, renL, renNd, by_, hE] <;> (try omega) <;> (try (intro i hi; first | (rcases (by omega : i = 0 ∨ i = 1 ∨ i = 2) with rfl | rfl | rfl <;> rfl) | (rcases (by omega : i = 0 ∨ i = 1) with rfl | rfl <;> rfl))))
        exact ⟨ok2, hl2, fun h => by simp at h⟩
end Go.AM
