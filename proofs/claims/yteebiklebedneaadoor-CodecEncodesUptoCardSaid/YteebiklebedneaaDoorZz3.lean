/- Texts of the law CodecEncodes, part 3: lemmas; what is proved stands in the last text. -/
import Derived.Test.YteebiklebedneaaDoorProg
import Derived.Test.YteebiklebedneaaDoorZz2
import Derived.Test.YteebiklebedneaaDoorZz1
import Derived.Below
import Derived.OpenShut
import Derived.WalkKit
import Derived.ProofKit
import Derived.ChangeOld
import Derived.Deep.Strs
import Derived.Lib.ReplaceLaws
import Derived.Lib.Bytealg
import Derived.Shelf.Strings.Replace
import Derived.Ground.NamesProg
import Derived.Test.YteebiklebedneaaDoorRows
import Derived.ShutString
import Derived.Lib.SmallJoins
import Derived.JoinedCond
import Derived.SizedLaws
import Derived.Test.YteebiklebedneaaDoorCards
import Derived.Test.YteebiklebedneaaDoorTie
import Derived.Deep.DeepHandedRow
import Derived.Lib.LaidTab
import Derived.Shelf.Vars
set_option linter.unusedSimpArgs false
set_option linter.unusedVariables false
/- The program's types, as a table. -/
namespace Go.AM
open Go
theorem mixed : Go.Proofs.Tryd.prog.follows .mixedOrders = true := by kernel_rfl
@[go_sem] theorem ty_2 : tyOf Go.Proofs.Tryd.prog 2 = some ⟨.int .i64, 1, 8, some [.int .i64 0]⟩ := by kernel_rfl
@[go_sem] theorem ty_3 : tyOf Go.Proofs.Tryd.prog 3 = some ⟨.int .i64, 1, 8, some [.int .i64 0]⟩ := by kernel_rfl
@[go_sem] theorem ty_4 : tyOf Go.Proofs.Tryd.prog 4 = some ⟨.bool, 1, 1, some [.bool false]⟩ := by kernel_rfl
@[go_sem] theorem ty_5 : tyOf Go.Proofs.Tryd.prog 5 = some ⟨.int .u8, 1, 1, some [.int .u8 0]⟩ := by kernel_rfl
@[go_sem] theorem ty_6 : tyOf Go.Proofs.Tryd.prog 6 = some ⟨.int .u8, 1, 1, some [.int .u8 0]⟩ := by kernel_rfl
@[go_sem] theorem ty_7 : tyOf Go.Proofs.Tryd.prog 7 = some ⟨.struct [(0, 1), (1, 1), (2, 1), (3, 1)], 4, 24, some [.int .i64 0, .int .i64 0, .bool false, .int .u8 0]⟩ := by kernel_rfl
@[go_sem] theorem ty_8 : tyOf Go.Proofs.Tryd.prog 8 = some ⟨.struct [(0, 1), (1, 1), (2, 1), (3, 1)], 4, 24, some [.int .i64 0, .int .i64 0, .bool false, .int .u8 0]⟩ := by kernel_rfl
@[go_sem] theorem ty_9 : tyOf Go.Proofs.Tryd.prog 9 = some ⟨.str, 1, 16, some [.string ⟨#[]⟩]⟩ := by kernel_rfl
@[go_sem] theorem ty_10 : tyOf Go.Proofs.Tryd.prog 10 = some ⟨.str, 1, 16, some [.string ⟨#[]⟩]⟩ := by kernel_rfl
@[go_sem] theorem ty_11 : tyOf Go.Proofs.Tryd.prog 11 = some ⟨.str, 1, 16, some [.string ⟨#[]⟩]⟩ := by kernel_rfl
@[go_sem] theorem ty_12 : tyOf Go.Proofs.Tryd.prog 12 = some ⟨.int .u64, 1, 8, some [.int .u64 0]⟩ := by kernel_rfl
@[go_sem] theorem ty_13 : tyOf Go.Proofs.Tryd.prog 13 = some ⟨.struct [(0, 1), (1, 1)], 2, 24, some [.string ⟨#[]⟩, .int .u64 0]⟩ := by kernel_rfl
@[go_sem] theorem ty_14 : tyOf Go.Proofs.Tryd.prog 14 = some ⟨.struct [(0, 1), (1, 1)], 2, 24, some [.string ⟨#[]⟩, .int .u64 0]⟩ := by kernel_rfl
@[go_sem] theorem ty_15 : tyOf Go.Proofs.Tryd.prog 15 = some ⟨.ptr 187, 1, 8, some [.pointer none]⟩ := by kernel_rfl
@[go_sem] theorem ty_16 : tyOf Go.Proofs.Tryd.prog 16 = some ⟨.ptr 190, 1, 8, some [.pointer none]⟩ := by kernel_rfl
@[go_sem] theorem ty_17 : tyOf Go.Proofs.Tryd.prog 17 = some ⟨.ptr 197, 1, 8, some [.pointer none]⟩ := by kernel_rfl
@[go_sem] theorem ty_18 : tyOf Go.Proofs.Tryd.prog 18 = some ⟨.struct [(0, 1)], 1, 8, some [.pointer none]⟩ := by kernel_rfl
@[go_sem] theorem ty_19 : tyOf Go.Proofs.Tryd.prog 19 = some ⟨.struct [(0, 1)], 1, 8, some [.pointer none]⟩ := by kernel_rfl
@[go_sem] theorem ty_20 : tyOf Go.Proofs.Tryd.prog 20 = some ⟨.ifc, 1, 16, some [.nilIface]⟩ := by kernel_rfl
@[go_sem] theorem ty_21 : tyOf Go.Proofs.Tryd.prog 21 = some ⟨.int .i32, 1, 4, some [.int .i32 0]⟩ := by kernel_rfl
@[go_sem] theorem ty_22 : tyOf Go.Proofs.Tryd.prog 22 = some ⟨.slice 57, 1, 24, some [.slice none 0 0]⟩ := by kernel_rfl
@[go_sem] theorem ty_24 : tyOf Go.Proofs.Tryd.prog 24 = some ⟨.slice 5, 1, 24, some [.slice none 0 0]⟩ := by kernel_rfl
@[go_sem] theorem ty_25 : tyOf Go.Proofs.Tryd.prog 25 = some ⟨.int .i64, 1, 8, some [.int .i64 0]⟩ := by kernel_rfl
@[go_sem] theorem ty_30 : tyOf Go.Proofs.Tryd.prog 30 = some ⟨.slice 66, 1, 24, some [.slice none 0 0]⟩ := by kernel_rfl
@[go_sem] theorem ty_39 : tyOf Go.Proofs.Tryd.prog 39 = some ⟨.slice 82, 1, 24, some [.slice none 0 0]⟩ := by kernel_rfl
@[go_sem] theorem ty_40 : tyOf Go.Proofs.Tryd.prog 40 = some ⟨.struct [(0, 1), (1, 1)], 2, 48, some [.slice none 0 0, .slice none 0 0]⟩ := by kernel_rfl
@[go_sem] theorem ty_41 : tyOf Go.Proofs.Tryd.prog 41 = some ⟨.struct [(0, 1), (1, 1)], 2, 48, some [.slice none 0 0, .slice none 0 0]⟩ := by kernel_rfl
@[go_sem] theorem ty_43 : tyOf Go.Proofs.Tryd.prog 43 = some ⟨.slice 3, 1, 24, some [.slice none 0 0]⟩ := by kernel_rfl
@[go_sem] theorem ty_49 : tyOf Go.Proofs.Tryd.prog 49 = some ⟨.slice 43, 1, 24, some [.slice none 0 0]⟩ := by kernel_rfl
@[go_sem] theorem ty_56 : tyOf Go.Proofs.Tryd.prog 56 = some ⟨.struct [(0, 1), (1, 1), (2, 1)], 3, 32, some [.int .i64 0, .int .i64 0, .string ⟨#[]⟩]⟩ := by kernel_rfl
@[go_sem] theorem ty_57 : tyOf Go.Proofs.Tryd.prog 57 = some ⟨.struct [(0, 1), (1, 1), (2, 1)], 3, 32, some [.int .i64 0, .int .i64 0, .string ⟨#[]⟩]⟩ := by kernel_rfl
@[go_sem] theorem ty_59 : tyOf Go.Proofs.Tryd.prog 59 = some ⟨.int .u64, 1, 8, some [.int .u64 0]⟩ := by kernel_rfl
@[go_sem] theorem ty_62 : tyOf Go.Proofs.Tryd.prog 62 = some ⟨.ptr 64, 1, 8, some [.pointer none]⟩ := by kernel_rfl
@[go_sem] theorem ty_63 : tyOf Go.Proofs.Tryd.prog 63 = some ⟨.struct [(0, 1), (1, 1)], 2, 32, some [.pointer none, .slice none 0 0]⟩ := by kernel_rfl
@[go_sem] theorem ty_64 : tyOf Go.Proofs.Tryd.prog 64 = some ⟨.struct [(0, 1), (1, 1)], 2, 32, some [.pointer none, .slice none 0 0]⟩ := by kernel_rfl
@[go_sem] theorem ty_65 : tyOf Go.Proofs.Tryd.prog 65 = some ⟨.struct [(0, 1), (1, 1), (2, 1)], 3, 32, some [.int .i64 0, .string ⟨#[]⟩, .int .i64 0]⟩ := by kernel_rfl
@[go_sem] theorem ty_66 : tyOf Go.Proofs.Tryd.prog 66 = some ⟨.struct [(0, 1), (1, 1), (2, 1)], 3, 32, some [.int .i64 0, .string ⟨#[]⟩, .int .i64 0]⟩ := by kernel_rfl
@[go_sem] theorem ty_68 : tyOf Go.Proofs.Tryd.prog 68 = some ⟨.ifc, 1, 16, some [.nilIface]⟩ := by kernel_rfl
@[go_sem] theorem ty_69 : tyOf Go.Proofs.Tryd.prog 69 = some ⟨.ifc, 1, 16, some [.nilIface]⟩ := by kernel_rfl
@[go_sem] theorem ty_81 : tyOf Go.Proofs.Tryd.prog 81 = some ⟨.struct [(0, 1), (1, 1), (2, 1)], 3, 32, some [.int .i64 0, .string ⟨#[]⟩, .int .i64 0]⟩ := by kernel_rfl
@[go_sem] theorem ty_82 : tyOf Go.Proofs.Tryd.prog 82 = some ⟨.struct [(0, 1), (1, 1), (2, 1)], 3, 32, some [.int .i64 0, .string ⟨#[]⟩, .int .i64 0]⟩ := by kernel_rfl
@[go_sem] theorem ty_88 : tyOf Go.Proofs.Tryd.prog 88 = some ⟨.ptr 41, 1, 8, some [.pointer none]⟩ := by kernel_rfl
@[go_sem] theorem ty_94 : tyOf Go.Proofs.Tryd.prog 94 = some ⟨.map 3 95, 1, 8, some [.map none]⟩ := by kernel_rfl
@[go_sem] theorem ty_95 : tyOf Go.Proofs.Tryd.prog 95 = some ⟨.struct [], 0, 0, some []⟩ := by kernel_rfl
@[go_sem] theorem ty_98 : tyOf Go.Proofs.Tryd.prog 98 = some ⟨.slice 99, 1, 24, some [.slice none 0 0]⟩ := by kernel_rfl
@[go_sem] theorem ty_99 : tyOf Go.Proofs.Tryd.prog 99 = some ⟨.slice 4, 1, 24, some [.slice none 0 0]⟩ := by kernel_rfl
@[go_sem] theorem ty_102 : tyOf Go.Proofs.Tryd.prog 102 = some ⟨.slice 9, 1, 24, some [.slice none 0 0]⟩ := by kernel_rfl
@[go_sem] theorem ty_103 : tyOf Go.Proofs.Tryd.prog 103 = some ⟨.arr 12 9, 12, 192, some [.string ⟨#[]⟩, .string ⟨#[]⟩, .string ⟨#[]⟩, .string ⟨#[]⟩, .string ⟨#[]⟩, .string ⟨#[]⟩, .string ⟨#[]⟩, .string ⟨#[]⟩, .string ⟨#[]⟩, .string ⟨#[]⟩, .string ⟨#[]⟩, .string ⟨#[]⟩]⟩ := by kernel_rfl
@[go_sem] theorem ty_104 : tyOf Go.Proofs.Tryd.prog 104 = some ⟨.ptr 5, 1, 8, some [.pointer none]⟩ := by kernel_rfl
@[go_sem] theorem ty_111 : tyOf Go.Proofs.Tryd.prog 111 = some ⟨.arr 6 3, 6, 48, some [.int .i64 0, .int .i64 0, .int .i64 0, .int .i64 0, .int .i64 0, .int .i64 0]⟩ := by kernel_rfl
@[go_sem] theorem ty_112 : tyOf Go.Proofs.Tryd.prog 112 = some ⟨.arr 6 111, 36, 288, some [.int .i64 0, .int .i64 0, .int .i64 0, .int .i64 0, .int .i64 0, .int .i64 0, .int .i64 0, .int .i64 0, .int .i64 0, .int .i64 0, .int .i64 0, .int .i64 0, .int .i64 0, .int .i64 0, .int .i64 0, .int .i64 0, .int .i64 0, .int .i64 0, .int .i64 0, .int .i64 0, .int .i64 0, .int .i64 0, .int .i64 0, .int .i64 0, .int .i64 0, .int .i64 0, .int .i64 0, .int .i64 0, .int .i64 0, .int .i64 0, .int .i64 0, .int .i64 0, .int .i64 0, .int .i64 0, .int .i64 0, .int .i64 0]⟩ := by kernel_rfl
@[go_sem] theorem ty_116 : tyOf Go.Proofs.Tryd.prog 116 = some ⟨.arr 6 4, 6, 6, some [.bool false, .bool false, .bool false, .bool false, .bool false, .bool false]⟩ := by kernel_rfl
@[go_sem] theorem ty_117 : tyOf Go.Proofs.Tryd.prog 117 = some ⟨.arr 6 116, 36, 36, some [.bool false, .bool false, .bool false, .bool false, .bool false, .bool false, .bool false, .bool false, .bool false, .bool false, .bool false, .bool false, .bool false, .bool false, .bool false, .bool false, .bool false, .bool false, .bool false, .bool false, .bool false, .bool false, .bool false, .bool false, .bool false, .bool false, .bool false, .bool false, .bool false, .bool false, .bool false, .bool false, .bool false, .bool false, .bool false, .bool false]⟩ := by kernel_rfl
@[go_sem] theorem ty_120 : tyOf Go.Proofs.Tryd.prog 120 = some ⟨.int .u64, 1, 8, some [.int .u64 0]⟩ := by kernel_rfl
@[go_sem] theorem ty_133 : tyOf Go.Proofs.Tryd.prog 133 = some ⟨.int .i64, 1, 8, some [.int .i64 0]⟩ := by kernel_rfl
@[go_sem] theorem ty_141 : tyOf Go.Proofs.Tryd.prog 141 = some ⟨.int .u32, 1, 4, some [.int .u32 0]⟩ := by kernel_rfl
@[go_sem] theorem ty_145 : tyOf Go.Proofs.Tryd.prog 145 = some ⟨.arr 24 5, 24, 24, some [.int .u8 0, .int .u8 0, .int .u8 0, .int .u8 0, .int .u8 0, .int .u8 0, .int .u8 0, .int .u8 0, .int .u8 0, .int .u8 0, .int .u8 0, .int .u8 0, .int .u8 0, .int .u8 0, .int .u8 0, .int .u8 0, .int .u8 0, .int .u8 0, .int .u8 0, .int .u8 0, .int .u8 0, .int .u8 0, .int .u8 0, .int .u8 0]⟩ := by kernel_rfl
@[go_sem] theorem ty_149 : tyOf Go.Proofs.Tryd.prog 149 = some ⟨.int .i64, 1, 8, some [.int .i64 0]⟩ := by kernel_rfl
@[go_sem] theorem ty_152 : tyOf Go.Proofs.Tryd.prog 152 = some ⟨.ptr 173, 1, 8, some [.pointer none]⟩ := by kernel_rfl
@[go_sem] theorem ty_156 : tyOf Go.Proofs.Tryd.prog 156 = some ⟨.int .u64, 1, 8, some [.int .u64 0]⟩ := by kernel_rfl
@[go_sem] theorem ty_160 : tyOf Go.Proofs.Tryd.prog 160 = some ⟨.ptr 3, 1, 8, some [.pointer none]⟩ := by kernel_rfl
@[go_sem] theorem ty_163 : tyOf Go.Proofs.Tryd.prog 163 = some ⟨.struct [(0, 1), (1, 1)], 2, 2, some [.int .u8 0, .int .u8 0]⟩ := by kernel_rfl
@[go_sem] theorem ty_164 : tyOf Go.Proofs.Tryd.prog 164 = some ⟨.struct [(0, 1), (1, 1)], 2, 2, some [.int .u8 0, .int .u8 0]⟩ := by kernel_rfl
@[go_sem] theorem ty_165 : tyOf Go.Proofs.Tryd.prog 165 = some ⟨.arr 16 164, 32, 32, some [.int .u8 0, .int .u8 0, .int .u8 0, .int .u8 0, .int .u8 0, .int .u8 0, .int .u8 0, .int .u8 0, .int .u8 0, .int .u8 0, .int .u8 0, .int .u8 0, .int .u8 0, .int .u8 0, .int .u8 0, .int .u8 0, .int .u8 0, .int .u8 0, .int .u8 0, .int .u8 0, .int .u8 0, .int .u8 0, .int .u8 0, .int .u8 0, .int .u8 0, .int .u8 0, .int .u8 0, .int .u8 0, .int .u8 0, .int .u8 0, .int .u8 0, .int .u8 0]⟩ := by kernel_rfl
@[go_sem] theorem ty_167 : tyOf Go.Proofs.Tryd.prog 167 = some ⟨.arr 20 59, 20, 160, some [.int .u64 0, .int .u64 0, .int .u64 0, .int .u64 0, .int .u64 0, .int .u64 0, .int .u64 0, .int .u64 0, .int .u64 0, .int .u64 0, .int .u64 0, .int .u64 0, .int .u64 0, .int .u64 0, .int .u64 0, .int .u64 0, .int .u64 0, .int .u64 0, .int .u64 0, .int .u64 0]⟩ := by kernel_rfl
@[go_sem] theorem ty_172 : tyOf Go.Proofs.Tryd.prog 172 = some ⟨.struct [(0, 1), (1, 1), (2, 1)], 3, 48, some [.string ⟨#[]⟩, .string ⟨#[]⟩, .nilIface]⟩ := by kernel_rfl
@[go_sem] theorem ty_173 : tyOf Go.Proofs.Tryd.prog 173 = some ⟨.struct [(0, 1), (1, 1), (2, 1)], 3, 48, some [.string ⟨#[]⟩, .string ⟨#[]⟩, .nilIface]⟩ := by kernel_rfl
@[go_sem] theorem ty_175 : tyOf Go.Proofs.Tryd.prog 175 = some ⟨.ptr 156, 1, 8, some [.pointer none]⟩ := by kernel_rfl
@[go_sem] theorem ty_181 : tyOf Go.Proofs.Tryd.prog 181 = some ⟨.ptr 183, 1, 8, some [.pointer none]⟩ := by kernel_rfl
@[go_sem] theorem ty_182 : tyOf Go.Proofs.Tryd.prog 182 = some ⟨.struct [(0, 1)], 1, 16, some [.string ⟨#[]⟩]⟩ := by kernel_rfl
@[go_sem] theorem ty_183 : tyOf Go.Proofs.Tryd.prog 183 = some ⟨.struct [(0, 1)], 1, 16, some [.string ⟨#[]⟩]⟩ := by kernel_rfl
@[go_sem] theorem ty_184 : tyOf Go.Proofs.Tryd.prog 184 = some ⟨.arr 32 5, 32, 32, some [.int .u8 0, .int .u8 0, .int .u8 0, .int .u8 0, .int .u8 0, .int .u8 0, .int .u8 0, .int .u8 0, .int .u8 0, .int .u8 0, .int .u8 0, .int .u8 0, .int .u8 0, .int .u8 0, .int .u8 0, .int .u8 0, .int .u8 0, .int .u8 0, .int .u8 0, .int .u8 0, .int .u8 0, .int .u8 0, .int .u8 0, .int .u8 0, .int .u8 0, .int .u8 0, .int .u8 0, .int .u8 0, .int .u8 0, .int .u8 0, .int .u8 0, .int .u8 0]⟩ := by kernel_rfl
@[go_sem] theorem ty_186 : tyOf Go.Proofs.Tryd.prog 186 = some ⟨.struct [(0, 1), (1, 1), (2, 1), (3, 1)], 4, 40, some [.pointer none, .pointer none, .pointer none, .string ⟨#[]⟩]⟩ := by kernel_rfl
@[go_sem] theorem ty_187 : tyOf Go.Proofs.Tryd.prog 187 = some ⟨.struct [(0, 1), (1, 1), (2, 1), (3, 1)], 4, 40, some [.pointer none, .pointer none, .pointer none, .string ⟨#[]⟩]⟩ := by kernel_rfl
@[go_sem] theorem ty_188 : tyOf Go.Proofs.Tryd.prog 188 = some ⟨.arr 0 16, 0, 0, some []⟩ := by kernel_rfl
@[go_sem] theorem ty_189 : tyOf Go.Proofs.Tryd.prog 189 = some ⟨.struct [(0, 0)], 0, 0, some []⟩ := by kernel_rfl
@[go_sem] theorem ty_190 : tyOf Go.Proofs.Tryd.prog 190 = some ⟨.struct [(0, 0)], 0, 0, some []⟩ := by kernel_rfl
@[go_sem] theorem ty_191 : tyOf Go.Proofs.Tryd.prog 191 = some ⟨.int .u8, 1, 1, some [.int .u8 0]⟩ := by kernel_rfl
@[go_sem] theorem ty_192 : tyOf Go.Proofs.Tryd.prog 192 = some ⟨.int .u8, 1, 1, some [.int .u8 0]⟩ := by kernel_rfl
@[go_sem] theorem ty_194 : tyOf Go.Proofs.Tryd.prog 194 = some ⟨.int .i32, 1, 4, some [.int .i32 0]⟩ := by kernel_rfl
@[go_sem] theorem ty_195 : tyOf Go.Proofs.Tryd.prog 195 = some ⟨.int .i32, 1, 4, some [.int .i32 0]⟩ := by kernel_rfl
@[go_sem] theorem ty_196 : tyOf Go.Proofs.Tryd.prog 196 = some ⟨.struct [(0, 1), (1, 1), (2, 1), (3, 1), (4, 1), (5, 1), (6, 1), (7, 1), (8, 1), (9, 1), (10, 1)], 11, 48, some [.int .u64 0, .int .u64 0, .int .u32 0, .int .u8 0, .int .u8 0, .int .u8 0, .int .u8 0, .nilFunc, .pointer none, .int .i32 0, .int .i32 0]⟩ := by kernel_rfl
@[go_sem] theorem ty_197 : tyOf Go.Proofs.Tryd.prog 197 = some ⟨.struct [(0, 1), (1, 1), (2, 1), (3, 1), (4, 1), (5, 1), (6, 1), (7, 1), (8, 1), (9, 1), (10, 1)], 11, 48, some [.int .u64 0, .int .u64 0, .int .u32 0, .int .u8 0, .int .u8 0, .int .u8 0, .int .u8 0, .nilFunc, .pointer none, .int .i32 0, .int .i32 0]⟩ := by kernel_rfl
@[go_sem] theorem et_7 : etTop Go.Proofs.Tryd.prog 7 = some (.str [(0, 1, .prim (.int .i64)), (1, 1, .prim (.int .i64)), (2, 1, .prim .bool), (3, 1, .prim (.int .u8))]) := by kernel_rfl
@[go_sem] theorem et_8 : etTop Go.Proofs.Tryd.prog 8 = some (.str [(0, 1, .prim (.int .i64)), (1, 1, .prim (.int .i64)), (2, 1, .prim .bool), (3, 1, .prim (.int .u8))]) := by kernel_rfl
@[go_sem] theorem et_56 : etTop Go.Proofs.Tryd.prog 56 = some (.str [(0, 1, .prim (.int .i64)), (1, 1, .prim (.int .i64)), (2, 1, .prim .str)]) := by kernel_rfl
@[go_sem] theorem et_57 : etTop Go.Proofs.Tryd.prog 57 = some (.str [(0, 1, .prim (.int .i64)), (1, 1, .prim (.int .i64)), (2, 1, .prim .str)]) := by kernel_rfl
@[go_sem] theorem et_65 : etTop Go.Proofs.Tryd.prog 65 = some (.str [(0, 1, .prim (.int .i64)), (1, 1, .prim .str), (2, 1, .prim (.int .i64))]) := by kernel_rfl
@[go_sem] theorem et_66 : etTop Go.Proofs.Tryd.prog 66 = some (.str [(0, 1, .prim (.int .i64)), (1, 1, .prim .str), (2, 1, .prim (.int .i64))]) := by kernel_rfl
@[go_sem] theorem et_81 : etTop Go.Proofs.Tryd.prog 81 = some (.str [(0, 1, .prim (.int .i64)), (1, 1, .prim .str), (2, 1, .prim (.int .i64))]) := by kernel_rfl
@[go_sem] theorem et_82 : etTop Go.Proofs.Tryd.prog 82 = some (.str [(0, 1, .prim (.int .i64)), (1, 1, .prim .str), (2, 1, .prim (.int .i64))]) := by kernel_rfl
@[go_sem] theorem et_95 : etTop Go.Proofs.Tryd.prog 95 = some (.str []) := by kernel_rfl
@[go_sem] theorem et_163 : etTop Go.Proofs.Tryd.prog 163 = some (.str [(0, 1, .prim (.int .u8)), (1, 1, .prim (.int .u8))]) := by kernel_rfl
@[go_sem] theorem et_164 : etTop Go.Proofs.Tryd.prog 164 = some (.str [(0, 1, .prim (.int .u8)), (1, 1, .prim (.int .u8))]) := by kernel_rfl
@[go_sem] theorem et_182 : etTop Go.Proofs.Tryd.prog 182 = some (.str [(0, 1, .prim .str)]) := by kernel_rfl
@[go_sem] theorem et_183 : etTop Go.Proofs.Tryd.prog 183 = some (.str [(0, 1, .prim .str)]) := by kernel_rfl
end Go.AM
/- The abstract machine, 19: slices that came in, as what is read. -/
namespace Go.AM
open Go Go.ChangeShapes Go.WideShapes Go.ChangeAt Go.RowKit
theorem add_none_ (a : Addr) (n : Nat) (h : a.spot = none) : a.add n = ⟨a.block, a.off + n, none⟩ := by
  unfold Addr.add
  split
  · rename_i h0; subst h0; cases a; simp_all
  · rfl
/-- All that lies. -/
def zAll (w : World) : Zone := fun _ b => b < w.heap.size
theorem open_ro {H α : Type} {E : TypeId × Value → H} {P : Program} {w : World} {base : Nat} {spare : Nat → Bool} {held : Bool} {k fuel : Nat} {t e : TypeId} {cs : List Value} {x : DataW H × List MemPlace}
    (enc : α → List AV) (R : α → DataW H → Prop) (tt : Bool) (ht : P.underlying t = some (.slice e)) (hk : P.cellsOf e = k) (hk0 : 0 < k)
    (leaf : ∀ fuel cs x, DataW.trod E P w base spare held fuel e cs = some x → ∃ y, Reps w (zAll w) [] (enc y) cs ∧ (∀ v ∈ cs, v.oneCell' = true) ∧ R y x.1)
    (h : DataW.trod E P w base spare held fuel t cs = some x) :
    ∃ (v : Value) (l : List α), cs = [v] ∧ Rep w (zAll w) [] (.ro tt k (l.map enc)) v ∧ v.oneCell' = true ∧
      ((l = [] ∧ x.1 = .nil) ∨ ∃ ds rest, x.1 = .slice ds rest ∧ ds.length = l.length ∧ ∀ (i : Nat) y, l[i]? = some y → ∃ d, ds[i]? = some d ∧ R y d) := by
  rcases DataW.trod_slice ht h with ⟨rfl, rfl⟩ | ⟨a, len, cap, elems, rest, n, _, rfl, rfl, hb, hl, hm, hlen, hel, -, -⟩
  · exact ⟨_, [], rfl, .nil _ _ _ _ _, rfl, .inl ⟨rfl, rfl⟩⟩
  have hy : ∀ i : Fin len, ∃ y cs', w.cells? base (a.add (i.1 * k)) k = some cs' ∧ Reps w (zAll w) [] (enc y) cs' ∧ (∀ v ∈ cs', v.oneCell' = true) ∧ ∃ d, (elems.map (·.1))[i.1]? = some d ∧ R y d := fun ⟨i, hi⟩ => by
    have h1 := hel i hi
    rw [List.getElem?_eq_getElem (by omega), hk] at h1
    obtain ⟨cs', h2, h3⟩ := Option.bind_eq_some_iff.1 h1
    obtain ⟨y, h4, h5, hR⟩ := leaf _ _ _ h3
    exact ⟨y, cs', h2, h4, h5, _, by simp [show i < elems.length by omega], hR⟩
  obtain ⟨f, hf⟩ := Classical.axiomOfChoice hy
  obtain ⟨g, hg⟩ := Classical.axiomOfChoice hf
  refine ⟨_, List.ofFn f, rfl, ?_, rfl, .inr ⟨_, _, rfl, by simp [hlen], fun i y hi => ?_⟩⟩
  · by_cases h0 : len = 0
    · subst h0; simp only [List.ofFn_zero, List.map_nil]; exact .nil _ _ _ _ _
    have c0 := hg ⟨0, by omega⟩
    obtain ⟨_, l0, g0⟩ := World.cells?_some c0.1
    have g1 := g0 0 hk0
    rw [List.getElem?_eq_getElem (by omega)] at g1
    have hs : a.spot = none := by
      simp only [Nat.zero_mul] at g1
      have e0 : (a.add 0).add 0 = a := by simp [Addr.add]
      rw [e0] at g1
      unfold World.cell? at g1
      split at g1
      · split at g1
        · cases g1
        · rename_i h5; simpa using h5
      · cases g1
    have hlt : a.block < w.heap.size := by
      have := World.block_lt_of_cell? _ _ g1
      simpa [Addr.add] using this
    have ha : a = ⟨a.block, a.off, none⟩ := by cases a; simp_all
    have hlk : ∀ i : Fin len, (g i).length = k := fun i => (World.cells?_some (hg i).1).2.1
    have hmem : ∀ (i : Nat) (e : List AV), ((List.ofFn f).map enc)[i]? = some e → ∃ h : i < len, e = enc (f ⟨i, h⟩) := by
      intro i e hi
      rw [List.getElem?_map, List.getElem?_ofFn] at hi
      split at hi
      · rename_i h; exact ⟨h, by simpa using hi.symm⟩
      · simp at hi
    have key : ∀ (i : Nat) (e : List AV) (j : Nat) (x : AV), ((List.ofFn f).map enc)[i]? = some e → e[j]? = some x → ∃ (h : i < len) (y : Value), (g ⟨i, h⟩)[j]? = some y ∧ Rep w (zAll w) [] x y ∧ w.cell? ⟨a.block, a.off + i * k + j, none⟩ = some y := by
      intro i e j x hi hj
      obtain ⟨h, rfl⟩ := hmem i e hi
      obtain ⟨y, h1, h2⟩ := (hg ⟨i, h⟩).2.1.get hj
      refine ⟨h, y, h1, h2, ?_⟩
      obtain ⟨_, l1, g2⟩ := World.cells?_some (hg ⟨i, h⟩).1
      have hj' : j < k := by rw [← hlk ⟨i, h⟩]; exact (List.getElem?_eq_some_iff.1 h1).1
      have g3 := g2 j hj'
      rw [add_none_ a _ hs, add_none_ _ _ rfl] at g3
      rw [← h1, ← g3]
    have hlen2 : ((List.ofFn f).map enc).length = len := by simp
    let ys : Nat → Nat → Value := fun i j => if h : i < len then ((g ⟨i, h⟩)[j]?).getD undef else undef
    have hys : ∀ {i j : Nat} (h : i < len) {y : Value}, (g ⟨i, h⟩)[j]? = some y → ys i j = y := by
      intro i j h y hy; simp only [ys]; rw [dif_pos h, hy]; rfl
    have hro := Rep.ro (w := w) (z := zAll w) [] tt k ((List.ofFn f).map enc) a.block a.off cap ys hlt (by rw [hlen2]; exact hl) (fun i e hi => by obtain ⟨h, rfl⟩ := hmem i e hi; rw [← (hg ⟨i, h⟩).2.1.1]; exact hlk _)
      (fun i e j x hi hj => by obtain ⟨h, y, h1, _, h3⟩ := key i e j x hi hj; rw [hys h h1]; exact h3)
      (fun i e j x hi hj => by obtain ⟨h, y, h1, _, _⟩ := key i e j x hi hj; rw [hys h h1]; exact (hg ⟨i, h⟩).2.2.1 y (List.mem_of_getElem? h1))
      (fun i e j x hi hj => by obtain ⟨h, y, h1, h2, _⟩ := key i e j x hi hj; rw [hys h h1]; exact h2)
    rw [hlen2, ← ha] at hro
    exact hro
  · obtain ⟨hi', rfl⟩ : ∃ h : i < len, f ⟨i, h⟩ = y := by
      rw [List.getElem?_ofFn] at hi
      split at hi
      · rename_i h; exact ⟨h, by simpa using hi⟩
      · cases hi
    exact (hg ⟨i, hi'⟩).2.2.2
theorem rep1 {w : World} {z : Zone} {th : List NLoc} {x : AV} {v : Value} (h : Rep w z th x v) : Reps w z th [x] [v] := .cons h .nil
end Go.AM
/- The abstract machine, 20: contracts of the old form; arguments that say less. -/
namespace Go.AM
open Go
section
variable {P : Program}
/-- What lies in the tables. -/
def Globs (G : List (Nat × List Value)) (w : World) : Prop := ∀ g cs, (g, cs) ∈ G → g < w.heap.size ∧ ∀ (j : Nat) u, cs[j]? = some u → w.cell? ⟨g, j, none⟩ = some u
/-- A contract of the old form: a plain value; what was there is as it was. -/
theorem con_of_calls {f : Nat} {G : List (Nat × List Value)} {xs : List AV} {v : Value} (hok : okFn P f = true)
    (h : ∀ (w : World) (z : Zone) (vs : List Value), (∀ t b, z t b → b < w.heap.size) → Reps w z [] xs vs → Globs G w → Calls P f vs.toArray w (fun e w' => e = .returned v ∧ Go.RowKit.Below w.heap.size w w')) : Con P G f xs [] 0 (Is (.r v) [] 0) No := by
  refine ⟨hok, fun w th z own vs ho hm hr => ?_⟩
  have hth : th = [] := List.length_eq_zero_iff.1 hm.len
  subst hth
  refine (h w z vs hm.zlt hr (fun g cs hg => ⟨hm.zlt _ _ (hm.globs g cs hg).1, (hm.globs g cs hg).2⟩)).mono ?_
  rintro e w' ⟨rfl, hb⟩
  refine ⟨v, .r v, [], 0, [], z, .inl ⟨rfl, rfl, rfl, rfl⟩, ?_, .r _ _⟩
  refine ⟨rfl, fun i nd hi => by simp [lk] at hi, fun i j x y L M hi => by simp [lk] at hi, fun t b hz => Nat.lt_of_lt_of_le (hm.zlt t b hz) hb.size, hb.size, fun b hlt _ => hb.block b hlt, fun t b h => h, fun b h => .inl h, fun b h => h, ?_, fun i L hi => by simp at hi, ⟨hb.os, hb.tape, hb.output⟩⟩
  intro g cs hg
  obtain ⟨h1, h2⟩ := hm.globs g cs hg
  exact ⟨h1, fun j u hu => (cell_heap (hb.block g (hm.zlt _ _ h1)) j).trans (h2 j u hu)⟩
mutual
/-- The second says no more than the first: a nil slice is a slice without elements; what is read for good is read. -/
def wk : AV → AV → Prop
  | .r (.slice none 0 0), .ro _ _ [] => True
  | .agg a, .agg b => wkL a b
  | x, y => x = y
def wkL : List AV → List AV → Prop
  | [], [] => True
  | x :: a, y :: b => wk x y ∧ wkL a b
  | _, _ => False
end
variable {w : World} {z : Zone} {th : List NLoc}
mutual
theorem wk_rep : ∀ {x y : AV} {v : Value}, wk x y → Rep w z th x v → Rep w z th y v
  | .r u, y, v, h, hr => by
    unfold wk at h
    split at h
    · rename_i t k e; cases e; exact nil_ro _ _ hr
    · rename_i a b e; cases e
    · subst h; exact hr
  | .agg a, y, v, h, hr => by
    unfold wk at h
    split at h
    · rename_i e; cases e
    · rename_i a' b e; cases e
      obtain ⟨ys, rfl, hc⟩ := hr.agg_inv
      have := wkL_rep h hc
      exact .agg _ _ _ this.1 this.2
    · subst h; exact hr
  | .ro t k e, y, v, h, hr => by simp [wk] at h; subst h; exact hr
  | .re t c o, y, v, h, hr => by simp [wk] at h; subst h; exact hr
  | .s n l k, y, v, h, hr => by simp [wk] at h; subst h; exact hr
  | .p n i o, y, v, h, hr => by simp [wk] at h; subst h; exact hr
  | .tup c, y, v, h, hr => by simp [wk] at h; subst h; exact hr
  | .fn f c, y, v, h, hr => by simp [wk] at h; subst h; exact hr
  | .ifc t c, y, v, h, hr => by simp [wk] at h; subst h; exact hr
theorem wkL_rep : ∀ {x y : List AV} {vs : List Value}, wkL x y → Reps w z th x vs → Reps w z th y vs
  | [], [], vs, _, hr => hr
  | x :: a, y :: b, vs, h, hr => by
    unfold wkL at h
    obtain ⟨v, r, rfl, h1, h2⟩ := hr.head
    exact .cons (wk_rep h.1 h1) (wkL_rep h.2 h2)
  | [], _ :: _, _, h, _ => by simp [wkL] at h
  | _ :: _, [], _, h, _ => by simp [wkL] at h
end
theorem Con.weak {G : List (Nat × List Value)} {f : Nat} {xs xs' : List AV} {o : List (Nat × Nd)} {n : Nat} {Q R : AV → List (Nat × Nd) → Nat → Prop} (hc : Con P G f xs' o n Q R) (h : wkL xs xs') : Con P G f xs o n Q R :=
  hc.args (fun _ _ _ _ hr => wkL_rep h hr)
end
end Go.AM
/- Plain data of the program, as cells. -/
namespace Go.AM
open Go
structure V where
  k : Int
  n : Int
  s : ByteArray
def eV (x : V) : List AV := [.r (.int .i64 x.k), .r (.int .i64 x.n), .r (.string x.s)]
def sameV (x y : V) : Bool := x.k == y.k && (x.n == y.n && x.s.toList == y.s.toList)
def sameVs : List V → List V → Bool
  | [], [] => true
  | x :: r, y :: q => sameV x y && sameVs r q
  | _, _ => false
theorem drop_at {α : Type} {l : List α} {k : Nat} {x : α} (h : l[k]? = some x) : l.drop k = x :: l.drop (k + 1) := by
  obtain ⟨hk, rfl⟩ := List.getElem?_eq_some_iff.1 h
  exact List.drop_eq_getElem_cons hk
theorem sameVs_len : ∀ {a b : List V}, sameVs a b = true → a.length = b.length
  | [], [], _ => rfl
  | x :: r, y :: q, h => by simp [sameVs] at h; simp [sameVs_len h.2]
  | [], _ :: _, h => by simp [sameVs] at h
  | _ :: _, [], h => by simp [sameVs] at h
def eI (n : Int) : List AV := [.r (.int .i64 n)]
def eStr (s : ByteArray) : List AV := [.r (.string s)]
/-- A column. -/
structure CO where
  nm : ByteArray
  k : Int
def eC (c : CO) : List AV := [.r (.string c.nm), .r (.int .i64 c.k)]
/-- A token. -/
structure TK0 where
  k : Int
  s : ByteArray
  n : Int
def eT (t : TK0) : List AV := [.r (.int .i64 t.k), .r (.string t.s), .r (.int .i64 t.n)]
@[simp] theorem ptA_eV (a : V) : (∀ x, x ∈ eV a → PT x) = True := eq_true (by intro x hx; simp [eV] at hx; rcases hx with rfl | rfl | rfl <;> exact .r _)
@[simp] theorem ptA_eT (a : TK0) : (∀ x, x ∈ eT a → PT x) = True := eq_true (by intro x hx; simp [eT] at hx; rcases hx with rfl | rfl | rfl <;> exact .r _)
@[simp] theorem ptA_eI (a : Int) : (∀ x, x ∈ eI a → PT x) = True := eq_true (by intro x hx; simp [eI] at hx; subst hx; exact .r _)
@[simp] theorem ptA_eC (a : CO) : (∀ x, x ∈ eC a → PT x) = True := eq_true (by intro x hx; simp [eC] at hx; rcases hx with rfl | rfl <;> exact .r _)
@[simp] theorem ptA_eStr (a : ByteArray) : (∀ x, x ∈ eStr a → PT x) = True := eq_true (by intro x hx; simp [eStr] at hx; subst hx; exact .r _)
instance : PTf eV := ⟨fun a => of_eq_true (ptA_eV a)⟩
instance : PTf eT := ⟨fun a => of_eq_true (ptA_eT a)⟩
instance : PTf eI := ⟨fun a => of_eq_true (ptA_eI a)⟩
instance : PTf eC := ⟨fun a => of_eq_true (ptA_eC a)⟩
instance : PTf eStr := ⟨fun a => of_eq_true (ptA_eStr a)⟩
theorem pt_eV : ∀ {l : List V}, ∀ e ∈ l.map eV, ∀ x ∈ e, PT x := by
  intro l e he x hx
  obtain ⟨a, _, rfl⟩ := List.mem_map.1 he
  simp [eV] at hx; rcases hx with rfl | rfl | rfl <;> exact .r _
theorem pt_eT {l : List TK0} : ∀ e ∈ l.map eT, ∀ x ∈ e, PT x := by
  intro e he x hx
  obtain ⟨a, _, rfl⟩ := List.mem_map.1 he
  simp [eT] at hx; rcases hx with rfl | rfl | rfl <;> exact .r _
theorem pt_eByte {l : List UInt8} : ∀ e ∈ l.map eByte, ∀ x ∈ e, PT x := by
  intro e he x hx
  obtain ⟨a, _, rfl⟩ := List.mem_map.1 he
  simp [eByte] at hx; subst hx; exact .r _
theorem pt_eI {l : List Int} : ∀ e ∈ l.map eI, ∀ x ∈ e, PT x := by
  intro e he x hx
  obtain ⟨a, _, rfl⟩ := List.mem_map.1 he
  simp [eI] at hx; subst hx; exact .r _
end Go.AM
/- A value whose parts fit. -/
namespace Go.AM
open Go Go.RowKit
def gV (v : V) : Prop := v.s.size ≤ maxLen ∧ inI v.n
end Go.AM
/- The codec: values as bytes: models and plain laws. -/
namespace Go.AM
open Go Go.RowKit
open Go.Proofs.YteebiklebedneaaDoor (vcheck)
/-- The eight bytes of a number below 2^64, the highest one first. -/
def be8 (u : Nat) : List UInt8 := [56, 48, 40, 32, 24, 16, 8, 0].map fun s => UInt8.ofNat (u / 2 ^ s % 256)
/-- A number of 64 bits, moved up so that it is not below nought. -/
def up63 (n : Int) : Nat := (n + 9223372036854775808).toNat
/-- A text in which a byte gives way to bytes. -/
def repM (c : UInt8) (new : List UInt8) : List UInt8 → List UInt8
  | [] => []
  | x :: r => if x = c then new ++ repM c new r else x :: repM c new r
def escM (l : List UInt8) : List UInt8 := repM 0 [0, 255] l
def encV (v : V) : List UInt8 := UInt8.ofNat v.k.toNat :: (if v.k = 1 then [UInt8.ofNat v.n.toNat] else if v.k = 2 then be8 (up63 v.n) else if v.k = 3 then escM v.s.data.toList ++ [0, 0] else [])
/-- Behind what stands already. -/
def encFrom : List UInt8 → List V → Except Int (List UInt8)
  | b, [] => .ok b
  | b, v :: r => if vcheck v.k v.n v.s ≠ 0 then .error (vcheck v.k v.n v.s) else encFrom (b ++ encV v) r
def encM (l : List V) : Except Int (List UInt8) := if 6 < l.length then .error 1 else match encFrom [] l with
  | .error e => .error e
  | .ok b => if 100 < b.length then .error 5 else .ok b
theorem be8_len (u : Nat) : (be8 u).length = 8 := rfl
theorem rep_len (c : UInt8) (new : List UInt8) (hn : 1 ≤ new.length) : ∀ l : List UInt8, (repM c new l).length ≤ new.length * l.length
  | [] => by simp [repM]
  | x :: r => by
    have := rep_len c new hn r
    rw [repM, List.length_cons, Nat.mul_add]; split
    · rw [List.length_append]; omega
    · rw [List.length_cons]; omega
theorem esc_len (l : List UInt8) : (escM l).length ≤ 2 * l.length := rep_len 0 [0, 255] (by simp) l
theorem up63_lt {n : Int} (h : inI n) : up63 n < 18446744073709551616 := by
  obtain ⟨h1, h2⟩ := h; unfold up63; omega
theorem encV_len {v : V} (h : vcheck v.k v.n v.s = 0) : (encV v).length ≤ 43 := by
  unfold vcheck at h
  have hs := esc_len v.s.data.toList
  unfold encV
  simp only [List.length_cons]
  split
  · rw [List.length_singleton]; omega
  split
  · rw [be8_len]; omega
  split
  · rename_i h3
    have : v.s.size ≤ 20 := by
      rw [h3, if_neg (by decide), if_neg (by decide), if_neg (by decide), if_pos rfl] at h
      split at h
      · cases h
      split at h
      · cases h
      · omega
    have e : v.s.data.toList.length = v.s.size := by rw [Array.length_toList]; rfl
    simp only [List.length_append, List.length_cons, List.length_nil]; omega
  · simp
theorem encFrom_len : ∀ {b : List UInt8} {l : List V} {x : List UInt8}, encFrom b l = .ok x → b.length ≤ x.length ∧ x.length ≤ b.length + 43 * l.length
  | b, [], x, h => by cases h; simp
  | b, v :: r, x, h => by
    rw [encFrom] at h
    split at h
    · cases h
    rename_i hv
    have hv : vcheck v.k v.n v.s = 0 := by simpa using hv
    have := encFrom_len h
    have h3 := encV_len hv
    simp only [List.length_append, List.length_cons] at this ⊢
    omega
theorem encFrom_err : ∀ {b : List UInt8} {l : List V} {e : Int}, encFrom b l = .error e → e ≠ 0
  | b, [], e, h => by cases h
  | b, v :: r, e, h => by
    rw [encFrom] at h
    split at h
    · cases h; assumption
    · exact encFrom_err h
theorem encM_err {l : List V} {e : Int} (h : encM l = .error e) : e ≠ 0 := by
  unfold encM at h
  split at h
  · cases h; decide
  split at h
  · cases h; exact encFrom_err (by assumption)
  split at h
  · cases h; decide
  · cases h
theorem encM_len {l : List V} {b : List UInt8} (h : encM l = .ok b) : b.length ≤ 100 := by
  unfold encM at h
  split at h
  · cases h
  split at h
  · cases h
  split at h
  · cases h
  · cases h; omega
theorem xor63u (n : Nat) (hn : n < 18446744073709551616) : (BitVec.ofInt 64 (n : Int) ^^^ BitVec.ofInt 64 9223372036854775808).toNat = if n < 9223372036854775808 then n + 9223372036854775808 else n - 9223372036854775808 := by
  have e : (9223372036854775808 : Int) = ((9223372036854775808 : Nat) : Int) := rfl
  rw [e, BitVec.ofInt_natCast, BitVec.ofInt_natCast, BitVec.toNat_xor, BitVec.toNat_ofNat, BitVec.toNat_ofNat, Nat.mod_eq_of_lt (by omega), Nat.mod_eq_of_lt (by omega)]
  have key : ∀ m : Nat, m < 9223372036854775808 → m ^^^ 9223372036854775808 = m + 9223372036854775808 := by
    intro m hm
    apply Nat.eq_of_testBit_eq
    intro i
    have e2 : (9223372036854775808 : Nat) = 2 ^ 63 := rfl
    rw [Nat.testBit_xor, e2, Nat.add_comm, Nat.testBit_two_pow]
    by_cases hi : i = 63
    · subst hi
      rw [Nat.testBit_two_pow_add_eq, Nat.testBit_lt_two_pow (by omega)]; rfl
    · by_cases hi2 : i < 63
      · rw [Nat.testBit_two_pow_add_gt (by omega)]; have : ¬ 63 = i := by omega
        simp [this]
      · have h1 : m.testBit i = false := Nat.testBit_lt_two_pow (Nat.lt_of_lt_of_le hm (by rw [e2]; exact Nat.pow_le_pow_right (by omega) (by omega)))
        have h2 : (2 ^ 63 + m).testBit i = false := Nat.testBit_lt_two_pow (Nat.lt_of_lt_of_le (by omega : 2 ^ 63 + m < 2 ^ 64) (Nat.pow_le_pow_right (by omega) (by omega)))
        have : ¬ 63 = i := by omega
        rw [h1, h2]; simp [this]
  split
  · rename_i h; exact key n h
  · rename_i h
    have := key (n - 9223372036854775808) (by omega)
    rw [Nat.sub_add_cancel (by omega)] at this
    have h2 := congrArg (· ^^^ 9223372036854775808) this
    simp only [Nat.xor_assoc, Nat.xor_self, Nat.xor_zero] at h2
    exact h2.symm
theorem u64_neg (n : Int) (h : -9223372036854775808 ≤ n) (h' : n < 0) : IntKind.u64.wrap n = n + 18446744073709551616 := by
  have : IntKind.u64.wrap n = n % 18446744073709551616 := rfl
  omega
theorem xorU {n : Int} (h : inI n) : bXor .u64 (IntKind.u64.wrap n) 9223372036854775808 = ((up63 n : Nat) : Int) := by
  obtain ⟨h1, h2⟩ := h
  have e : ∃ m : Nat, m < 18446744073709551616 ∧ IntKind.u64.wrap n = (m : Int) ∧ (up63 n : Int) = if m < 9223372036854775808 then (m : Int) + 9223372036854775808 else (m : Int) - 9223372036854775808 := by
    by_cases hn : n < 0
    · rw [u64_neg n h1 hn]
      refine ⟨(n + 18446744073709551616).toNat, by omega, by omega, ?_⟩
      unfold up63; rw [if_neg (by omega)]; omega
    · rw [Go.IntWalk.u64_in n (by omega)]
      refine ⟨n.toNat, by omega, by omega, ?_⟩
      unfold up63; rw [if_pos (by omega)]; omega
  obtain ⟨m, hm, e1, e2⟩ := e
  rw [e1]
  show IntKind.u64.wrap (((BitVec.ofInt 64 (m : Int) ^^^ BitVec.ofInt 64 9223372036854775808).toNat : Nat) : Int) = _
  rw [xor63u m hm, e2]
  split
  · rw [Go.IntWalk.u64_in _ (by omega)]; omega
  · rw [Go.IntWalk.u64_in _ (by omega)]; omega
/-- One of the eight bytes. -/
theorem be8_get (u : Nat) (j : Nat) (hj : j < 8) : (be8 u)[j]? = some (UInt8.ofNat (u / 2 ^ (56 - 8 * j) % 256)) := by
  match j, hj with
  | 0, _ => rfl
  | 1, _ => rfl
  | 2, _ => rfl
  | 3, _ => rfl
  | 4, _ => rfl
  | 5, _ => rfl
  | 6, _ => rfl
  | 7, _ => rfl
theorem u8_cast (m : Nat) : ((UInt8.ofNat (m % 256)).toNat : Int) = ((m % 256 : Nat) : Int) := by
  simp
theorem u8_wrap (n : Int) : IntKind.u8.wrap n = n % 256 := by
  simp only [IntKind.wrap, IntKind.signed, IntKind.bits]; rfl
theorem shr_byte (u : Nat) (j : Nat) (hj : j < 8) : IntKind.u8.wrap (shrI .u64 (u : Int) (56 - 8 * (j : Int))) = ((UInt8.ofNat (u / 2 ^ (56 - 8 * j) % 256)).toNat : Int) := by
  rw [u8_cast, u8_wrap]
  have e : (56 - 8 * (j : Int)).toNat = 56 - 8 * j := by omega
  have hm : min (56 - 8 * j) 64 = 56 - 8 * j := by omega
  have : shrI .u64 (u : Int) (56 - 8 * (j : Int)) = ((u / 2 ^ (56 - 8 * j) : Nat) : Int) := by
    unfold shrI
    rw [e]
    show (u : Int).fdiv (2 ^ (min (56 - 8 * j) 64)) = _
    rw [hm, Int.natCast_ediv, Int.fdiv_eq_ediv_of_nonneg _ (by exact Int.le_of_lt (Int.pow_pos (by decide))), Int.natCast_pow]
    rfl
  rw [this]; omega
theorem index_one (c x : UInt8) (l : List UInt8) : Lib.index (x :: l) [c] = if x = c then 0 else if Lib.index l [c] = -1 then -1 else Lib.index l [c] + 1 := by
  rw [Lib.index]
  by_cases h : x = c
  · simp [h]
  · have h' : ¬ c = x := fun e => h e.symm
    simp [h, h']
/-- strings.ReplaceAll of one byte. -/
theorem replaceK_one (c : UInt8) (new : List UInt8) : ∀ l : List UInt8, Lib.replaceK [c] new (Lib.count l [c]) l = repM c new l
  | [] => by rw [Lib.count_miss (by rfl)]; rfl
  | x :: l => by
    have ih := replaceK_one c new l
    have hi := index_one c x l
    by_cases h : x = c
    · rw [if_pos h] at hi
      rw [Lib.count_hit (i := 0) (by simp) hi, Nat.add_comm 1, Lib.replaceK_hit _ _ _ _ 0 hi, repM, if_pos h]
      simpa using ih
    · rw [if_neg h] at hi
      rw [repM, if_neg h, ← ih]
      by_cases h1 : Lib.index l [c] = -1
      · rw [if_pos h1] at hi
        rw [Lib.count_miss hi, Lib.count_miss h1]; rfl
      · rw [if_neg h1] at hi
        have hg := Lib.index_ge l [c]
        obtain ⟨i, e⟩ : ∃ i : Nat, Lib.index l [c] = i := ⟨(Lib.index l [c]).toNat, by omega⟩
        rw [e] at hi
        have hi : Lib.index (x :: l) [c] = ((i + 1 : Nat) : Int) := by omega
        rw [Lib.count_hit (by simp) hi, Lib.count_hit (by simp) e, Nat.add_comm 1, Nat.add_comm 1, Lib.replaceK_hit _ _ _ _ _ hi, Lib.replaceK_hit _ _ _ _ _ e]
        simp [Nat.add_right_comm i 1 1]
theorem replaceAll_one (c : UInt8) (new l : List UInt8) (h : ([c] == new) = false) : Lib.replaceAll l [c] new = repM c new l := by
  rw [Lib.replaceAll, Lib.replace, if_neg (by rw [h]; simp)]
  have : Lib.replaceNum l [c] (-1) = Lib.count l [c] := by rw [Lib.replaceNum, if_pos (.inl (by omega))]
  rw [this, replaceK_one]
end Go.AM
/- The codec: the reference's highFirst. -/
namespace Go.AM
open Go Go.RowKit
attribute [local irreducible] AWP retA
/-- The bytes of a number, the lowest one first. -/
def lowM : Nat → Int → List UInt8
  | 0, _ => []
  | k + 1, n => UInt8.ofNat (n % 256).toNat :: lowM k (n / 256)
theorem lowM_len : ∀ (k : Nat) (n : Int), (lowM k n).length = k
  | 0, _ => rfl
  | k + 1, n => by rw [lowM, List.length_cons, lowM_len]
theorem and255 {n : Int} (h : inI n) : bAnd .i64 n 255 = n % 256 := by
  obtain ⟨h1, h2⟩ := h
  have e : (255 : Int) = ((255 : Nat) : Int) := rfl
  have k : (BitVec.ofInt 64 n &&& BitVec.ofInt 64 255).toNat = (n % 256).toNat := by
    rw [e, BitVec.toNat_and, BitVec.ofInt_natCast, BitVec.toNat_ofNat, BitVec.toNat_ofInt]
    have : (255 : Nat) % 2 ^ 64 = 2 ^ 8 - 1 := rfl
    rw [this, Nat.and_two_pow_sub_one_eq_mod]
    have : ((2 ^ 64 : Nat) : Int) = 18446744073709551616 := rfl
    rw [this]; omega
  show IntKind.i64.wrap (((BitVec.ofInt 64 n &&& BitVec.ofInt 64 255).toNat : Nat) : Int) = n % 256
  rw [k, Go.IntWalk.i64_in _ (by omega)]; omega
theorem u8_mod (n : Int) : ((UInt8.ofNat (n % 256).toNat).toNat : Int) = n % 256 := by
  rw [UInt8.toNat_ofNat']
  have : (2 : Nat) ^ 8 = 256 := rfl
  omega
theorem quo256 (n : Int) : (n - n % 256).tdiv 256 = n / 256 := by
  rw [show n - n % 256 = 256 * (n / 256) by omega, Int.mul_tdiv_cancel_left _ (by decide)]
/-- The bytes of a number, the highest one first, are those of the number moved up; but the highest one itself. -/
theorem low_be {n : Int} (h : inI n) : ∀ j : Nat, 0 < j → j < 8 → (be8 (up63 n))[j]? = (lowM 8 n)[7 - j]? := by
  obtain ⟨h1, h2⟩ := h
  have hu : (up63 n : Int) = n + 9223372036854775808 := by unfold up63; omega
  intro j h0 h8
  rw [be8_get _ _ h8]
  match j, h0, h8 with
  | 1, _, _ => exact congrArg (fun x => some (UInt8.ofNat x)) (show up63 n / 281474976710656 % 256 = (n / 256 / 256 / 256 / 256 / 256 / 256 % 256).toNat by omega)
  | 2, _, _ => exact congrArg (fun x => some (UInt8.ofNat x)) (show up63 n / 1099511627776 % 256 = (n / 256 / 256 / 256 / 256 / 256 % 256).toNat by omega)
  | 3, _, _ => exact congrArg (fun x => some (UInt8.ofNat x)) (show up63 n / 4294967296 % 256 = (n / 256 / 256 / 256 / 256 % 256).toNat by omega)
  | 4, _, _ => exact congrArg (fun x => some (UInt8.ofNat x)) (show up63 n / 16777216 % 256 = (n / 256 / 256 / 256 % 256).toNat by omega)
  | 5, _, _ => exact congrArg (fun x => some (UInt8.ofNat x)) (show up63 n / 65536 % 256 = (n / 256 / 256 % 256).toNat by omega)
  | 6, _, _ => exact congrArg (fun x => some (UInt8.ofNat x)) (show up63 n / 256 % 256 = (n / 256 % 256).toNat by omega)
  | 7, _, _ => exact congrArg (fun x => some (UInt8.ofNat x)) (show up63 n / 1 % 256 = (n % 256).toNat by omega)
theorem low_top {n : Int} (h : inI n) : ∃ x y : UInt8, (lowM 8 n)[7]? = some x ∧ (be8 (up63 n))[0]? = some y ∧ (y.toNat : Int) = ((x.toNat : Int) + 128) % 256 := by
  obtain ⟨h1, h2⟩ := h
  have hu : (up63 n : Int) = n + 9223372036854775808 := by unfold up63; omega
  refine ⟨_, _, rfl, rfl, ?_⟩
  rw [u8_mod, u8_cast]
  omega
end Go.AM
/- The codec: the reference's highFirst, walked. -/
namespace Go.AM
open Go Go.RowKit
attribute [local irreducible] AWP retA
theorem u8w (x : UInt8) : IntKind.u8.wrap (x.toNat : Int) = (x.toNat : Int) := by
  have := x.toNat_lt
  rw [u8_wrap]; omega
theorem be8_all (u : Nat) : List.take 8 ((be8 u).map eByte) = (be8 u).map eByte := rfl
set_option maxRecDepth 100000 in
set_option maxHeartbeats 4000000 in
theorem highFirst_con (G : List (Nat × List Value)) (n : Int) (hn : inI n) : Con Go.Proofs.Tryd.prog G 32 [.r (.int .i64 n)] [] 0 (Is (.s 0 0 8) [(0, .lst 5 1 ((be8 (up63 n)).map eByte))] 1) No := by
  refine con_of_awp Go.Proofs.Tryd.func32 rfl (by kernel_rfl) (of_decide_eq_true (by kernel_rfl)) ?_; intro E hG hE; subst hG; simp only [ent]
  (repeat' (first | refine awp_seq ?_ | refine awp_block ?_ | refine awp_skip ?_ | refine awp_exit ?_ | ((first | refine rR (fun K kp hK hkp => ?_) | refine iG ?_); simp (implicitDefEqProofs := false) (maxSteps := 2000000) (disch := omega) only [go_sem]; (repeat' (first | (refine hK _ ?_; clear hK hkp kp K) | (with_reducible refine And.intro ?_ ?_) | omega))) | ((first | refine aG (fun h => ?_) (fun h => ?_) | refine aD (fun h => ?_) (fun h => ?_) | refine aX (fun h => ?_) (fun h => ?_)) <;> simp only [h]) | refine awp_cond_t rfl ?_ | refine awp_cond_f rfl ?_ | ((refine awp_cond rfl (fun h => ?_) (fun h => ?_) <;> try simp only [ifs] at h) <;> (try (exfalso; omega))) | refine awp_ret ?_))
  (refine AWP.emb (emb_nil 3 5 1 ?_) ?_; (· rfl); dsimp only)
  refine awp_loop (fun q : Nat × Int × List UInt8 => ⟨[(4, .r (.int .i64 q.1)), (0, .r (.int .i64 q.2.1)), (3, .s 0 0 q.2.2.length)], [(0, .lst 5 1 (q.2.2.map eByte))], 1⟩) (fun q => q.1 ≤ 8 ∧ inI q.2.1 ∧ q.2.2.length = q.1 ∧ q.2.2 ++ lowM (8 - q.1) q.2.1 = lowM 8 n) (fun q => 8 - q.1) (0, n, []) ?_ ?_ ?_
  · exact ⟨by simp, hn, rfl, rfl⟩
  · (refine emb [0] ?_ ?_ rfl ?_ ?_ ?_ ?_ <;> simp [okM, okO, lk, ren, renL, renNd, by_, hE] <;> (try omega))
  rintro ⟨k, m, low⟩ ⟨hk, hm, hl, hno⟩
  simp only at hk hm hl hno ⊢
  by_cases h8 : k < 8
  · have hm' := hm
    obtain ⟨m1, m2⟩ := hm'
    have ha := and255 hm
    obtain ⟨x, hx⟩ : ∃ x, x = UInt8.ofNat (m % 256).toNat := ⟨_, rfl⟩
    have hxm : (x.toNat : Int) = m % 256 := by rw [hx, u8_mod]
    have hq := quo256 m
    have hx8 := x.toNat_lt
    rw [← hxm] at hq ha
    (repeat' (first | refine awp_seq ?_ | refine awp_block ?_ | refine awp_skip ?_ | refine awp_exit ?_ | ((first | refine rR (fun K kp hK hkp => ?_) | refine iG ?_); simp (implicitDefEqProofs := false) (maxSteps := 2000000) (disch := omega) only [go_sem, ha, hq]; (repeat' (first | (refine hK _ ?_; clear hK hkp kp K) | (with_reducible refine And.intro ?_ ?_) | omega))) | ((first | refine aG (fun h => ?_) (fun h => ?_) | refine aD (fun h => ?_) (fun h => ?_) | refine aX (fun h => ?_) (fun h => ?_)) <;> simp only [h]) | refine awp_cond_t rfl ?_ | refine awp_cond_f rfl ?_ | ((refine awp_cond rfl (fun h => ?_) (fun h => ?_) <;> try simp only [ifs] at h) <;> (try (exfalso; omega))) | refine awp_ret ?_))
    ((first | (refine nextB ((k + 1, m / 256, low ++ [x])) ?_ ?_ ?_) | (refine nextA ((k + 1, m / 256, low ++ [x])) ?_ ?_ ?_)); rotate_left; (· (try dsimp only); (first | omega | (simp only [List.length_drop, List.length_cons, List.length_append]; omega) | (simp; done) | (simp; omega))); (· (refine emb [2] ?_ ?_ rfl ?_ ?_ ?_ ?_ <;> simp [okM, okO, lk, ren, renL, renNd, by_, hE, eByte, u8w] <;> (try omega))))
    refine ⟨by omega, ⟨by simp only; omega, by simp only; omega⟩, by simp [hl], ?_⟩
    rw [← hno, show 8 - k = (8 - (k + 1)) + 1 by omega, lowM, ← hx]; simp
  obtain rfl : k = 8 := by omega
  have hno : low = lowM 8 n := by rw [← hno]; simp [lowM]
  clear hk h8 hm
  subst hno
  (repeat' (first | refine awp_seq ?_ | refine awp_block ?_ | refine awp_skip ?_ | refine awp_exit ?_ | ((first | refine rR (fun K kp hK hkp => ?_) | refine iG ?_); simp (implicitDefEqProofs := false) (maxSteps := 2000000) (disch := omega) only [go_sem, lowM_len]; (repeat' (first | (refine hK _ ?_; clear hK hkp kp K) | (with_reducible refine And.intro ?_ ?_) | omega))) | ((first | refine aG (fun h => ?_) (fun h => ?_) | refine aD (fun h => ?_) (fun h => ?_) | refine aX (fun h => ?_) (fun h => ?_)) <;> simp only [h]) | refine awp_cond_t rfl ?_ | refine awp_cond_f rfl ?_ | ((refine awp_cond rfl (fun h => ?_) (fun h => ?_) <;> try simp only [ifs] at h) <;> (try (exfalso; omega))) | refine awp_ret ?_))
  (refine AWP.emb (emb_nil 6 5 1 ?_) ?_; (· rfl); dsimp only)
  refine awp_loop (fun j : Nat => ⟨[(7, .r (.int .i64 (7 - (j : Int)))), (3, .s 0 0 8), (6, .s 1 0 j)], [(0, .lst 5 1 ((lowM 8 n).map eByte)), (1, .lst 5 1 (((be8 (up63 n)).take j).map eByte))], 2⟩) (fun j => j ≤ 8) (fun j => 8 - j) 0 ?_ ?_ ?_
  · simp
  · (refine emb [0, 1] ?_ ?_ rfl ?_ ?_ ?_ ?_ <;> simp [okM, okO, lk, ren, renL, renNd, by_, hE] <;> (try omega))
  intro j hj
  have hll := lowM_len 8 n
  have hz : ((be8 (up63 n)).take j).length = j := by rw [List.length_take, be8_len]; omega
  by_cases h8 : j < 8
  · by_cases h0 : j = 0
    · subst h0
      obtain ⟨x, y, hx, hy, hxy⟩ := low_top hn
      have hx8 := x.toNat_lt
      have hy8 := y.toNat_lt
      have hrem : ((x.toNat : Int) + 128).tmod 256 = (y.toNat : Int) := by rw [Int.tmod_eq_emod_of_nonneg (by omega), hxy]
      have htk : (be8 (up63 n)).take 1 = [y] := by rw [List.take_add_one, hy]; rfl
      (repeat' (first | refine awp_seq ?_ | refine awp_block ?_ | refine awp_skip ?_ | refine awp_exit ?_ | ((first | refine rR (fun K kp hK hkp => ?_) | refine iG ?_); simp (implicitDefEqProofs := false) (maxSteps := 2000000) (disch := omega) only [go_sem, hx, hrem, eByte]; (repeat' (first | (refine hK _ ?_; clear hK hkp kp K) | (with_reducible refine And.intro ?_ ?_) | omega))) | ((first | refine aG (fun h => ?_) (fun h => ?_) | refine aD (fun h => ?_) (fun h => ?_) | refine aX (fun h => ?_) (fun h => ?_)) <;> simp only [h]) | refine awp_cond_t rfl ?_ | refine awp_cond_f rfl ?_ | ((refine awp_cond rfl (fun h => ?_) (fun h => ?_) <;> try simp only [ifs] at h) <;> (try (exfalso; omega))) | refine awp_ret ?_))
      ((first | (refine nextB (1) ?_ ?_ ?_) | (refine nextA (1) ?_ ?_ ?_)); rotate_left; (· (try dsimp only); (first | omega | (simp only [List.length_drop, List.length_cons, List.length_append]; omega) | (simp; done) | (simp; omega))); (· (refine emb [0, 3] ?_ ?_ rfl ?_ ?_ ?_ ?_ <;> simp [okM, okO, lk, ren, renL, renNd, by_, hE, eByte, htk, u8w, List.take_take, Nat.min_self] <;> (try omega))))
      omega
    · have hg := low_be hn j (by omega) h8
      obtain ⟨x, hx⟩ : ∃ x, (be8 (up63 n))[j]? = some x := ⟨_, be8_get _ _ h8⟩
      rw [hx] at hg
      have hx8 := x.toNat_lt
      have e1 : (7 - (j : Int)).toNat = 7 - j := by omega
      have e2 : (7 - (j : Int) == 7) = false := by simp; omega
      have c1 : (0 ≤ 7 - (j : Int)) = True := eq_true (by omega)
      have c2 : (7 - (j : Int) < ((8 : Nat) : Int)) = True := eq_true (by omega)
      have c3 : (7 - (j : Int) < 8) = True := eq_true (by omega)
      have htk : (be8 (up63 n)).take (j + 1) = (be8 (up63 n)).take j ++ [x] := by rw [List.take_add_one, hx]; rfl
      (repeat' (first | refine awp_seq ?_ | refine awp_block ?_ | refine awp_skip ?_ | refine awp_exit ?_ | ((first | refine rR (fun K kp hK hkp => ?_) | refine iG ?_); simp (implicitDefEqProofs := false) (maxSteps := 2000000) (disch := omega) only [go_sem, hg.symm, e1, e2, c1, c2, c3, eByte]; (repeat' (first | (refine hK _ ?_; clear hK hkp kp K) | (with_reducible refine And.intro ?_ ?_) | omega))) | ((first | refine aG (fun h => ?_) (fun h => ?_) | refine aD (fun h => ?_) (fun h => ?_) | refine aX (fun h => ?_) (fun h => ?_)) <;> simp only [h]) | refine awp_cond_t rfl ?_ | refine awp_cond_f rfl ?_ | ((refine awp_cond rfl (fun h => ?_) (fun h => ?_) <;> try simp only [ifs] at h) <;> (try (exfalso; omega))) | refine awp_ret ?_))
      ((first | (refine nextB (j + 1) ?_ ?_ ?_) | (refine nextA (j + 1) ?_ ?_ ?_)); rotate_left; (· (try dsimp only); (first | omega | (simp only [List.length_drop, List.length_cons, List.length_append]; omega) | (simp; done) | (simp; omega))); (· (refine emb [0, 3] ?_ ?_ rfl ?_ ?_ ?_ ?_ <;> simp [okM, okO, lk, ren, renL, renNd, by_, hE, eByte, htk, u8w, List.take_take, Nat.min_self] <;> (try omega))))
      omega
  · obtain rfl : j = 8 := by omega
    (repeat' (first | refine awp_seq ?_ | refine awp_block ?_ | refine awp_skip ?_ | refine awp_exit ?_ | ((first | refine rR (fun K kp hK hkp => ?_) | refine iG ?_); simp (implicitDefEqProofs := false) (maxSteps := 2000000) (disch := omega) only [go_sem]; (repeat' (first | (refine hK _ ?_; clear hK hkp kp K) | (with_reducible refine And.intro ?_ ?_) | omega))) | ((first | refine aG (fun h => ?_) (fun h => ?_) | refine aD (fun h => ?_) (fun h => ?_) | refine aX (fun h => ?_) (fun h => ?_)) <;> simp only [h]) | refine awp_cond_t rfl ?_ | refine awp_cond_f rfl ?_ | ((refine awp_cond rfl (fun h => ?_) (fun h => ?_) <;> try simp only [ifs] at h) <;> (try (exfalso; omega))) | refine awp_ret ?_))
    (refine retA_is (by (simp (implicitDefEqProofs := false) (maxSteps := 2000000) (disch := omega) only [go_sem, Go.Proofs.Tryd.results32, be8_all]); rfl) ?_; refine (embV [1] ?_ ?_ ?_ ?_ ?_ ?_).s <;> simp [oneA, okO, lk, ren, renL, renNd, by_, hE, be8_all])
end Go.AM
/- Values: Check and ValueFault as contracts (for a seat of few functions). -/
namespace Go.AM
open Go Go.RowKit
open Go.Proofs.YteebiklebedneaaDoor (vcheck)
attribute [local irreducible] AWP retA
theorem aggC_r {w : World} {z : Zone} {th : List NLoc} {us : List Value} {v : Value} (h : Rep w z th (.agg (us.map .r)) v) : v = .agg us.toArray := by
  obtain ⟨ys, rfl, hc⟩ := h.agg_inv
  have : ys = us := by
    apply List.ext_getElem?
    intro i
    cases hi : us[i]? with
    | none => rw [List.getElem?_eq_none_iff] at hi ⊢; rw [hc.1]; simpa using hi
    | some u =>
      obtain ⟨y, h1, h2⟩ := hc.get (show (us.map AV.r)[i]? = some (.r u) by rw [List.getElem?_map, hi]; rfl)
      rw [h1, h2.r_inv]
  rw [this]
theorem valC_con (G : List (Nat × List Value)) (v : V) (hs : v.s.size ≤ maxLen) : Con Go.Proofs.Tryd.prog G 29 [.agg (eV v)] [] 0 (Is (.r (.int .i64 (vcheck v.k v.n v.s))) [] 0) No :=
  con_of_calls (by kernel_rfl) (fun w z vs hz hr hG => by
    obtain ⟨u, r, rfl, h1, h2⟩ := hr.head
    obtain rfl := aggC_r (us := [.int .i64 v.k, .int .i64 v.n, .string v.s]) h1
    obtain rfl := h2.of_nil
    exact Go.Proofs.YteebiklebedneaaDoor.val_any v.k v.n v.s w hs)
theorem vfaultC_con (G : List (Nat × List Value)) (v : V) (hs : v.s.size ≤ maxLen) : Con Go.Proofs.Tryd.prog G 31 [.agg (eV v)] [] 0 (Is (.r (.int .i64 (vcheck v.k v.n v.s))) [] 0) No :=
  con_of_calls (by kernel_rfl) (fun w z vs hz hr hG => by
    obtain ⟨u, r, rfl, h1, h2⟩ := hr.head
    obtain rfl := aggC_r (us := [.int .i64 v.k, .int .i64 v.n, .string v.s]) h1
    obtain rfl := h2.of_nil
    exact Go.Proofs.YteebiklebedneaaDoor.vfault_any v.k v.n v.s w hs)
end Go.AM
/- Plain facts on 64-bit arithmetic: does a product fit? No program in sight. -/
namespace Go.Proofs.YteebiklebedneaaDoor
open Go.RowKit
/-- Does it fit into 64 bits? -/
def fitsI (x : Int) : Bool := decide (-9223372036854775808 ≤ x ∧ x ≤ 9223372036854775807)
theorem fitsI_iff (x : Int) : fitsI x = true ↔ (-9223372036854775808 ≤ x ∧ x ≤ 9223372036854775807) := by simp [fitsI]
theorem q_pos (a b : Int) (ha : 0 < a) (hb : 0 < b) : decide (wrap64 (Int.tdiv 9223372036854775807 b) < a) = !fitsI (a * b) := by
  have e : Int.tdiv 9223372036854775807 b = 9223372036854775807 / b := Int.tdiv_eq_ediv_of_nonneg (by decide)
  have h0 : 0 ≤ (9223372036854775807 : Int) / b := Int.ediv_nonneg (by decide) (by omega)
  have h1 : (9223372036854775807 : Int) / b ≤ 9223372036854775807 := Int.ediv_le_self _ (by decide)
  rw [e, IntWalk.wrap64_in _ ⟨by omega, by omega⟩]
  have h2 := @Int.ediv_lt_iff_lt_mul 9223372036854775807 a b hb
  have h3 : 0 < a * b := Int.mul_pos ha hb
  rw [Bool.eq_iff_iff]
  simp only [decide_eq_true_eq, Bool.not_eq_true', ← Bool.not_eq_true, fitsI_iff]
  rw [h2]
  omega
theorem tdiv_neg_pos (m b : Int) (hm : 0 ≤ m) : Int.tdiv m b = -(m / (-b)) := by
  have := Int.tdiv_neg m (-b)
  rw [Int.neg_neg] at this
  rw [this, Int.tdiv_eq_ediv_of_nonneg hm]
theorem q_neg (a b : Int) (ha : a < 0) (hb : b < 0) : decide (a < wrap64 (Int.tdiv 9223372036854775807 b)) = !fitsI (a * b) := by
  rw [tdiv_neg_pos _ _ (by decide)]
  have h0 : 0 ≤ (9223372036854775807 : Int) / (-b) := Int.ediv_nonneg (by decide) (by omega)
  have h1 : (9223372036854775807 : Int) / (-b) ≤ 9223372036854775807 := Int.ediv_le_self _ (by decide)
  rw [IntWalk.wrap64_in _ ⟨by omega, by omega⟩]
  have h2 := @Int.ediv_lt_iff_lt_mul 9223372036854775807 (-a) (-b) (by omega)
  have h3 : 0 < (-a) * (-b) := Int.mul_pos (by omega) (by omega)
  have h4 : (-a) * (-b) = a * b := by rw [Int.neg_mul_neg]
  rw [h4] at h2 h3
  rw [Bool.eq_iff_iff]
  simp only [decide_eq_true_eq, Bool.not_eq_true', ← Bool.not_eq_true, fitsI_iff]
  constructor
  · intro h
    have := h2.1 (by omega)
    omega
  · intro h
    have := h2.2 (by omega)
    omega
theorem q_mix (a b : Int) (ha : 0 < a) (hb : b < 0) : decide (b < wrap64 (-Int.tdiv 9223372036854775808 a)) = !fitsI (a * b) := by
  have e : Int.tdiv 9223372036854775808 a = 9223372036854775808 / a := Int.tdiv_eq_ediv_of_nonneg (by decide)
  have h0 : 0 ≤ (9223372036854775808 : Int) / a := Int.ediv_nonneg (by decide) (by omega)
  have h1 : (9223372036854775808 : Int) / a ≤ 9223372036854775808 := Int.ediv_le_self _ (by decide)
  rw [e, IntWalk.wrap64_in _ ⟨by omega, by omega⟩]
  have h2 := @Int.ediv_lt_iff_lt_mul 9223372036854775808 (-b) a ha
  have h3 : 0 < (-b) * a := Int.mul_pos (by omega) ha
  have h4 : (-b) * a = -(a * b) := by rw [Int.neg_mul, Int.mul_comm]
  rw [h4] at h2 h3
  rw [Bool.eq_iff_iff]
  simp only [decide_eq_true_eq, Bool.not_eq_true', ← Bool.not_eq_true, fitsI_iff]
  constructor
  · intro h
    have := h2.1 (by omega)
    omega
  · intro h
    have := h2.2 (by omega)
    omega
theorem q_mix' (a b : Int) (ha : a < 0) (hb : 0 < b) : decide (a < wrap64 (-Int.tdiv 9223372036854775808 b)) = !fitsI (a * b) := by
  rw [Int.mul_comm a b]
  exact q_mix b a hb ha
theorem q_one (b : Int) (h : -9223372036854775808 ≤ b) (h' : b ≤ 9223372036854775807) : (b == -9223372036854775808) = !fitsI (-1 * b) := by
  rw [Bool.eq_iff_iff]
  simp only [beq_iff_eq, Bool.not_eq_true', ← Bool.not_eq_true, fitsI_iff]
  omega
theorem q_one' (a : Int) (h : -9223372036854775808 ≤ a) (h' : a ≤ 9223372036854775807) : (a == -9223372036854775808) = !fitsI (a * -1) := by
  rw [Int.mul_comm]
  exact q_one a h h'
/-- The product's own test: by dividing back. -/
theorem mul_ok (a b : Int) (h0 : a ≠ 0) (ha : -9223372036854775808 ≤ a) (ha' : a ≤ 9223372036854775807) (hb : -9223372036854775808 ≤ b) (hb' : b ≤ 9223372036854775807) :
    (wrap64 ((wrap64 (a * b)).tdiv a) = b ∧ ¬ (a = -1 ∧ b = -9223372036854775808)) ↔ fitsI (a * b) = true := by
  rw [fitsI_iff]
  constructor
  · rintro ⟨h1, h2⟩
    by_cases hf : -9223372036854775808 ≤ a * b ∧ a * b ≤ 9223372036854775807
    · exact hf
    exfalso
    have hn : wrap64 (a * b) ≠ a * b := by
      unfold wrap64; omega
    have hr : -9223372036854775808 ≤ wrap64 (a * b) ∧ wrap64 (a * b) ≤ 9223372036854775807 := by unfold wrap64; omega
    have hd : wrap64 (a * b) = (a * b + 9223372036854775808) % 18446744073709551616 - 9223372036854775808 := by unfold wrap64; omega
    generalize wrap64 (a * b) = n at *
    by_cases hm : a = -1
    · subst hm
      rw [Int.tdiv_neg, Int.tdiv_one] at h1
      by_cases hmin : n = -9223372036854775808
      · subst hmin
        have : b = -9223372036854775808 := by rw [← h1]; unfold wrap64; omega
        exact h2 ⟨rfl, this⟩
      · rw [IntWalk.wrap64_in _ ⟨by omega, by omega⟩] at h1
        omega
    by_cases hp : a = 1
    · subst hp
      rw [Int.tdiv_one, IntWalk.wrap64_in _ ⟨by omega, by omega⟩] at h1
      omega
    have hmt := Int.mul_tdiv_add_tmod n a
    have hlt : (n.tmod a).natAbs < a.natAbs := by rw [Int.natAbs_tmod]; exact Nat.mod_lt _ (by omega)
    have hq : (n.tdiv a).natAbs ≤ 4611686018427387904 := by
      rw [Int.natAbs_tdiv]
      have : 2 ≤ a.natAbs := by omega
      calc n.natAbs / a.natAbs ≤ n.natAbs / 2 := Nat.div_le_div_left this (by decide)
        _ ≤ 4611686018427387904 := by omega
    rw [IntWalk.wrap64_in _ ⟨by omega, by omega⟩] at h1
    rw [h1] at hmt
    omega
  · intro h
    have e : wrap64 (a * b) = a * b := IntWalk.wrap64_in _ h
    rw [e, Int.mul_tdiv_cancel_left _ h0, IntWalk.wrap64_in _ ⟨hb, hb'⟩]
    refine ⟨rfl, ?_⟩
    rintro ⟨rfl, rfl⟩
    omega
end Go.Proofs.YteebiklebedneaaDoor
/- Values: what the ops make of them, as plain functions (models and laws without a program). -/
namespace Go.Proofs.YteebiklebedneaaDoor
open Go.RowKit
def vboth (k n : Int) (s : ByteArray) (k' n' : Int) (s' : ByteArray) : Int := if vcheck k n s = 0 then vcheck k' n' s' else vcheck k n s
def oneM (kind k n : Int) (s : ByteArray) : (Int × Int × ByteArray) × Int :=
  if vcheck k n s = 0 then
    if kind = 11 then ((1, if k == 0 then 1 else 0, ⟨#[]⟩), 0)
    else if kind = 5 then
      if k = 0 then ((k, n, s), 0) else if k = 1 then ((1, if n == 0 then 1 else 0, ⟨#[]⟩), 0) else ((0, 0, ⟨#[]⟩), 4)
    else ((0, 0, ⟨#[]⟩), 2)
  else ((0, 0, ⟨#[]⟩), vcheck k n s)
def cmpI (a b : Int) : Int := if a < b then -1 else if b < a then 1 else 0
def or3 (x y z : Int) : Int := if x = 0 then (if y = 0 then z else y) else x
def vcmp (k n : Int) (s : ByteArray) (k' n' : Int) (s' : ByteArray) : Int := or3 (cmpI k k') (cmpI n n') (Lib.compareBytes s.data.toList s'.data.toList)
def vahead (k n : Int) (s : ByteArray) (k' n' : Int) (s' : ByteArray) : Bool :=
  if k ≠ k' then decide (k < k') else if k = 3 then Op.bytesLess s.toList s'.toList else decide (n < n')
theorem compareBytes_less : ∀ (a b : List UInt8), Lib.compareBytes a b = if Op.bytesLess a b = true then -1 else if Op.bytesLess b a = true then 1 else 0
  | [], [] => by simp [Lib.compareBytes, Op.bytesLess]
  | [], _ :: _ => by simp [Lib.compareBytes, Op.bytesLess]
  | _ :: _, [] => by simp [Lib.compareBytes, Op.bytesLess]
  | a :: x, b :: y => by
    have ih := compareBytes_less x y
    simp only [Lib.compareBytes, Op.bytesLess, ih]
    by_cases h1 : a < b
    · simp [h1]
    · by_cases h2 : b < a
      · have : ¬ (a == b) = true := by intro h; simp at h; subst h; exact h1 h2
        simp [h1, h2, this]
      · have e : a = b := by
          have : a.toNat = b.toNat := by simp [UInt8.lt_iff_toNat_lt] at h1 h2; omega
          exact UInt8.toNat.inj this
        subst e
        simp [h1]
theorem bytesLess_irrefl : ∀ (a : List UInt8), Op.bytesLess a a = false
  | [] => rfl
  | a :: x => by simp [Op.bytesLess, bytesLess_irrefl x]
theorem bytesLess_asymm : ∀ (a b : List UInt8), Op.bytesLess a b = true → Op.bytesLess b a = false
  | [], [] => by simp [Op.bytesLess]
  | [], _ :: _ => by simp [Op.bytesLess]
  | _ :: _, [] => by simp [Op.bytesLess]
  | a :: x, b :: y => by
    have ih := bytesLess_asymm x y
    simp only [Op.bytesLess, Bool.or_eq_true, Bool.and_eq_true, decide_eq_true_eq, beq_iff_eq, Bool.or_eq_false_iff, Bool.and_eq_false_iff, decide_eq_false_iff_not]
    rintro (h | ⟨rfl, h⟩)
    · refine ⟨?_, ?_⟩
      · simp [UInt8.lt_iff_toNat_lt] at h ⊢; omega
      · left; rw [beq_eq_false_iff_ne]; intro e; subst e; simp [UInt8.lt_iff_toNat_lt] at h
    · refine ⟨by simp [UInt8.lt_iff_toNat_lt], .inr (ih h)⟩
theorem bytesLess_total : ∀ (a b : List UInt8), Op.bytesLess a b = false → Op.bytesLess b a = false → a = b
  | [], [] => by simp
  | [], _ :: _ => by simp [Op.bytesLess]
  | _ :: _, [] => by simp [Op.bytesLess]
  | a :: x, b :: y => by
    have ih := bytesLess_total x y
    simp only [Op.bytesLess, Bool.or_eq_false_iff, Bool.and_eq_false_iff, decide_eq_false_iff_not, beq_eq_false_iff_ne]
    rintro ⟨h1, h2⟩ ⟨h3, h4⟩
    have e : a = b := by
      have : a.toNat = b.toNat := by simp [UInt8.lt_iff_toNat_lt] at h1 h3; omega
      exact UInt8.toNat.inj this
    subst e
    rw [ih (by simpa using h2) (by simpa using h4)]
theorem compareBytes_nil : Lib.compareBytes [] [] = 0 := rfl
theorem vcheck_ok {k n : Int} {s : ByteArray} (h : vcheck k n s = 0) : (k = 0 ∧ n = 0 ∧ s.toList = []) ∨ (k = 1 ∧ 0 ≤ n ∧ n ≤ 1 ∧ s.toList = []) ∨ (k = 2 ∧ s.toList = []) ∨ (k = 3 ∧ n = 0 ∧ s.size ≤ 20) := by
  unfold vcheck at h
  split at h
  · split at h <;> simp_all
  · split at h
    · split at h
      · simp at h
      · rename_i h'; simp only [not_or, Classical.not_not] at h'; right; left; refine ⟨by assumption, by omega, by omega, h'.2.2⟩
    · split at h
      · split at h <;> simp_all
      · split at h
        · split at h
          · simp at h
          · split at h
            · simp at h
            · right; right; right; refine ⟨by assumption, by simp_all, by omega⟩
        · simp at h
def cmpM (k n : Int) (s : ByteArray) (k' n' : Int) (s' : ByteArray) : Int × Int :=
  if vboth k n s k' n' s' = 0 then (vcmp k n s k' n' s', 0) else (0, vboth k n s k' n' s')
def cmpR (k n : Int) (s : ByteArray) (k' n' : Int) (s' : ByteArray) : Int × Int :=
  if vboth k n s k' n' s' = 0 then (if vahead k n s k' n' s' = true then -1 else if vahead k' n' s' k n s = true then 1 else 0, 0) else (0, vboth k n s k' n' s')
theorem cmp_same (k n : Int) (s : ByteArray) (k' n' : Int) (s' : ByteArray) : cmpM k n s k' n' s' = cmpR k n s k' n' s' := by
  unfold cmpM cmpR
  by_cases hv : vboth k n s k' n' s' = 0
  · rw [if_pos hv, if_pos hv]
    unfold vboth at hv
    split at hv
    · rename_i h1
      have a := vcheck_ok h1
      have b := vcheck_ok hv
      congr 1
      unfold vcmp vahead
      have cl := compareBytes_less s.toList s'.toList
      rw [ByteArray.toList_eq, ByteArray.toList_eq] at cl
      rw [cl]
      simp only [← ByteArray.toList_eq]
      by_cases hk : k = k'
      · subst hk
        by_cases h3 : k = 3
        · subst h3
          have e1 : n = 0 := by omega
          have e2 : n' = 0 := by omega
          subst e1 e2
          simp [or3, cmpI]
        · have s1 : s.toList = [] := by rcases a with a | a | a | a <;> simp_all
          have s2 : s'.toList = [] := by rcases b with b | b | b | b <;> simp_all
          rw [s1, s2]
          simp [or3, cmpI, h3, Op.bytesLess]
          by_cases h : n < n'
          · simp [h]
          · simp [h]
      · have hk' : k' ≠ k := fun h => hk h.symm
        simp [hk, hk', or3, cmpI]
        by_cases h : k < k'
        · simp [h]
        · have : k' < k := by omega
          simp [h, this]
    · omega
  · rw [if_neg hv, if_neg hv]
def opV (kind a b : Int) : Int := if kind = 8 then a + b else if kind = 9 then a - b else a * b
theorem bool_of_iff {a b : Bool} (h : a = true ↔ b = true) : a = b := Bool.eq_iff_iff.2 h
def logicM (k n : Int) (s : ByteArray) (k' n' : Int) (s' : ByteArray) (d : Int) : (Int × Int × ByteArray) × Int :=
  if (k ≠ 1 ∧ k ≠ 0) ∨ (k' ≠ 1 ∧ k' ≠ 0) then ((0, 0, ⟨#[]⟩), 4)
  else if k = 1 ∧ n = d then ((k, n, s), 0) else if k' = 1 ∧ n' = d then ((k', n', s'), 0)
  else if k = 0 ∨ k' = 0 then ((0, 0, ⟨#[]⟩), 0) else ((k, n, s), 0)
def nov : Int × Int × ByteArray := (0, 0, ⟨#[]⟩)
def eqlM (kind k n : Int) (s : ByteArray) (k' n' : Int) (s' : ByteArray) : (Int × Int × ByteArray) × Int :=
  if k = 0 ∨ k' = 0 then (nov, 0) else if k = k' then ((1, if (vcmp k n s k' n' s' = 0 ∧ kind = 6) ∨ (vcmp k n s k' n' s' < 0 ∧ kind = 7) then 1 else 0, ⟨#[]⟩), 0) else (nov, 4)
def ariM (kind k n : Int) (k' n' : Int) : (Int × Int × ByteArray) × Int :=
  if (k ≠ 2 ∧ k ≠ 0) ∨ (k' ≠ 2 ∧ k' ≠ 0) then (nov, 4) else if k = 0 ∨ k' = 0 then (nov, 0)
  else if fitsI (opV kind n n') = true then ((2, wrap64 (opV kind n n'), ⟨#[]⟩), 0) else (nov, 5)
def twoM (kind k n : Int) (s : ByteArray) (k' n' : Int) (s' : ByteArray) : (Int × Int × ByteArray) × Int :=
  if vboth k n s k' n' s' = 0 then
    if kind = 3 then logicM k n s k' n' s' 0 else if kind = 4 then logicM k n s k' n' s' 1
    else if kind = 6 ∨ kind = 7 then eqlM kind k n s k' n' s'
    else if kind = 8 ∨ kind = 9 ∨ kind = 10 then ariM kind k n k' n'
    else (nov, 2)
  else (nov, vboth k n s k' n' s')
def isYes (d k n : Int) (s : ByteArray) : Bool := k == 1 && (n == d && s.toList == [])
def logicR (k n : Int) (s : ByteArray) (k' n' : Int) (s' : ByteArray) (d : Int) : (Int × Int × ByteArray) × Int :=
  if (k ≠ 0 ∧ k ≠ 1) ∨ (k' ≠ 0 ∧ k' ≠ 1) then (nov, 4)
  else if isYes d k n s = true ∨ isYes d k' n' s' = true then ((1, d, ⟨#[]⟩), 0)
  else if k = 0 ∨ k' = 0 then (nov, 0) else ((1, 1 - d, ⟨#[]⟩), 0)
def eqlR (kind k n : Int) (s : ByteArray) (k' n' : Int) (s' : ByteArray) : (Int × Int × ByteArray) × Int :=
  if k = 0 ∨ k' = 0 then (nov, 0) else if k = k' then
    (if kind = 7 then ((1, if vahead k n s k' n' s' = true then 1 else 0, ⟨#[]⟩), 0) else ((1, if k = k' ∧ n = n' ∧ s.toList = s'.toList then 1 else 0, ⟨#[]⟩), 0)) else (nov, 4)
def twoR (kind k n : Int) (s : ByteArray) (k' n' : Int) (s' : ByteArray) : (Int × Int × ByteArray) × Int :=
  if vboth k n s k' n' s' = 0 then
    if kind = 3 then logicR k n s k' n' s' 0 else if kind = 4 then logicR k n s k' n' s' 1
    else if kind = 6 ∨ kind = 7 then eqlR kind k n s k' n' s'
    else if kind = 8 ∨ kind = 9 ∨ kind = 10 then ariM kind k n k' n'
    else (nov, 2)
  else (nov, vboth k n s k' n' s')
theorem bytes_nil {s : ByteArray} (h : s.toList = []) : s = ⟨#[]⟩ := by
  rw [ByteArray.toList_eq] at h
  cases s with
  | mk d => simp at h; subst h; rfl
theorem truth_cases {k n : Int} {s : ByteArray} (h : vcheck k n s = 0) (hk : k = 0 ∨ k = 1) : s = ⟨#[]⟩ ∧ ((k = 0 ∧ n = 0) ∨ (k = 1 ∧ n = 0) ∨ (k = 1 ∧ n = 1)) := by
  rcases vcheck_ok h with ⟨h1, h2, h3⟩ | ⟨h1, h2, h3, h4⟩ | ⟨h1, h2⟩ | ⟨h1, h2, h3⟩
  · exact ⟨bytes_nil h3, .inl ⟨h1, h2⟩⟩
  · exact ⟨bytes_nil h4, .inr (by omega)⟩
  · omega
  · omega
theorem vboth_ok {k n : Int} {s : ByteArray} {k' n' : Int} {s' : ByteArray} (h : vboth k n s k' n' s' = 0) : vcheck k n s = 0 ∧ vcheck k' n' s' = 0 := by
  unfold vboth at h
  split at h
  · exact ⟨by assumption, h⟩
  · exact absurd h (by assumption)
theorem compareBytes_zero (a b : List UInt8) : Lib.compareBytes a b = 0 ↔ a = b := by
  rw [compareBytes_less]
  constructor
  · intro h
    split at h
    · simp at h
    · split at h
      · simp at h
      · exact bytesLess_total a b (by simpa using ‹¬ Op.bytesLess a b = true›) (by simpa using ‹¬ Op.bytesLess b a = true›)
  · rintro rfl
    simp [bytesLess_irrefl]
theorem cmpI_zero (a b : Int) : cmpI a b = 0 ↔ a = b := by
  unfold cmpI
  repeat' split <;> omega
theorem vcmp_zero (k n : Int) (s : ByteArray) (n' : Int) (s' : ByteArray) : vcmp k n s k n' s' = 0 ↔ n = n' ∧ s.toList = s'.toList := by
  unfold vcmp or3
  rw [if_pos ((cmpI_zero k k).2 rfl)]
  by_cases h : cmpI n n' = 0
  · rw [if_pos h, compareBytes_zero, ← ByteArray.toList_eq, ← ByteArray.toList_eq]
    have := (cmpI_zero n n').1 h
    simp [this]
  · rw [if_neg h]
    have : ¬ n = n' := fun e => h ((cmpI_zero n n').2 e)
    simp [this, h]
theorem vcmp_neg {k n : Int} {s : ByteArray} {k' n' : Int} {s' : ByteArray} (hv : vboth k n s k' n' s' = 0) : vcmp k n s k' n' s' < 0 ↔ vahead k n s k' n' s' = true := by
  have h := congrArg (·.1) (cmp_same k n s k' n' s')
  simp only [cmpM, cmpR, if_pos hv] at h
  rw [h]
  split
  · rename_i h; simp [h]
  · rename_i h
    simp only [h]
    split <;> simp
theorem logic_same {k n : Int} {s : ByteArray} {k' n' : Int} {s' : ByteArray} (hv : vboth k n s k' n' s' = 0) (d : Int) (hd : d = 0 ∨ d = 1) : logicM k n s k' n' s' d = logicR k n s k' n' s' d := by
  obtain ⟨v1, v2⟩ := vboth_ok hv
  by_cases hk : k = 0 ∨ k = 1
  · obtain ⟨rfl, hc⟩ := truth_cases v1 hk
    by_cases hk' : k' = 0 ∨ k' = 1
    · obtain ⟨rfl, hc'⟩ := truth_cases v2 hk'
      clear hv v1 v2 hk hk'
      rcases hd with rfl | rfl <;> rcases hc with ⟨rfl, rfl⟩ | ⟨rfl, rfl⟩ | ⟨rfl, rfl⟩ <;> rcases hc' with ⟨rfl, rfl⟩ | ⟨rfl, rfl⟩ | ⟨rfl, rfl⟩ <;> simp [logicM, logicR, isYes, nov]
    · have h0 : k' ≠ 0 := fun h => hk' (.inl h)
      have h1 : k' ≠ 1 := fun h => hk' (.inr h)
      simp [logicM, logicR, h0, h1, nov]
  · have h0 : k ≠ 0 := fun h => hk (.inl h)
    have h1 : k ≠ 1 := fun h => hk (.inr h)
    simp [logicM, logicR, h0, h1, nov]
theorem two_same (kind k n : Int) (s : ByteArray) (k' n' : Int) (s' : ByteArray) : twoM kind k n s k' n' s' = twoR kind k n s k' n' s' := by
  unfold twoM twoR
  by_cases hv : vboth k n s k' n' s' = 0
  · rw [if_pos hv, if_pos hv]
    by_cases h3 : kind = 3
    · rw [if_pos h3, if_pos h3]; exact logic_same hv 0 (.inl rfl)
    rw [if_neg h3, if_neg h3]
    by_cases h4 : kind = 4
    · rw [if_pos h4, if_pos h4]; exact logic_same hv 1 (.inr rfl)
    rw [if_neg h4, if_neg h4]
    by_cases h67 : kind = 6 ∨ kind = 7
    · rw [if_pos h67, if_pos h67]
      unfold eqlM eqlR
      split
      · rfl
      split
      · rename_i hk
        have e1 := vcmp_neg hv
        subst hk
        have e2 := vcmp_zero k n s n' s'
        rcases h67 with rfl | rfl
        · simp [e2]
        · simp [e1]
      · rfl
    · rw [if_neg h67, if_neg h67]
  · rw [if_neg hv, if_neg hv]
end Go.Proofs.YteebiklebedneaaDoor
/- The codec: the reference's KeyBytes. -/
namespace Go.AM
open Go Go.RowKit
open Go.Proofs.YteebiklebedneaaDoor (vcheck)
attribute [local irreducible] AWP retA
theorem ba_get (s : ByteArray) (i : Nat) : s[i]? = s.data.toList[i]? := by
  by_cases h : i < s.size
  · rw [getElem?_def, dif_pos h, List.getElem?_eq_getElem (by simpa using h)]; rfl
  · rw [getElem?_def, dif_neg h, List.getElem?_eq_none (by simp only [Array.length_toList]; exact Nat.le_of_not_lt h)]
theorem ba_len (s : ByteArray) : s.size = s.data.toList.length := by rw [Array.length_toList]; rfl
theorem encFrom_step {l : List V} {i : Nat} {v : V} (b : List UInt8) (h : l[i]? = some v) (hv : vcheck v.k v.n v.s = 0) : encFrom b (l.drop i) = encFrom (b ++ encV v) (l.drop (i + 1)) := by
  rw [drop_at h, encFrom, if_neg (by simpa using hv)]
/-- What is given back. -/
def encA : Except Int (List UInt8) → AV
  | .error e => .tup [.r (.slice none 0 0), .r (.int .i64 e)]
  | .ok b => .tup [.ro true 1 (b.map eByte), .r (.int .i64 0)]
theorem kind_of_check {v : V} (h : vcheck v.k v.n v.s = 0) : v.k = 0 ∨ (v.k = 1 ∧ (v.n = 0 ∨ v.n = 1)) ∨ v.k = 2 ∨ (v.k = 3 ∧ v.s.size ≤ 20) := by
  rcases Go.Proofs.YteebiklebedneaaDoor.vcheck_ok h with h | h | h | h
  · exact .inl h.1
  · exact .inr (.inl ⟨h.1, by omega⟩)
  · exact .inr (.inr (.inl h.1))
  · exact .inr (.inr (.inr ⟨h.1, h.2.2⟩))
end Go.AM
/- The codec: the reference's KeyBytes, walked. -/
namespace Go.AM
open Go Go.RowKit
open Go.Proofs.YteebiklebedneaaDoor (vcheck)
attribute [local irreducible] AWP retA
theorem u8_0 : (0 : UInt8).toNat = 0 := rfl
theorem u8_255n : (255 : UInt8).toNat = 255 := rfl
set_option maxRecDepth 100000 in
set_option maxHeartbeats 8000000 in
theorem keyBytes_con (G : List (Nat × List Value)) (t : Bool) (l : List V) (hl : l.length ≤ 1048576) (hg : ∀ v ∈ l, gV v) : Con Go.Proofs.Tryd.prog G 11 [.ro t 3 (l.map eV)] [] 0 (Is (encA (encM l)) [] 0) No := by
  refine con_of_awp Go.Proofs.Tryd.func11 rfl (by kernel_rfl) (of_decide_eq_true (by kernel_rfl)) ?_; intro E hG hE; subst hG; simp only [ent]
  by_cases h6 : 6 < l.length
  · have d1 : decide ((l.length : Int) > 6) = true := decide_eq_true (by omega)
    have hM : encM l = .error 1 := by rw [encM, if_pos h6]
    rw [hM]; simp only [encA]
    (repeat' (first | refine awp_seq ?_ | refine awp_block ?_ | refine awp_skip ?_ | refine awp_exit ?_ | ((first | refine rR (fun K kp hK hkp => ?_) | refine iG ?_); simp (implicitDefEqProofs := false) (maxSteps := 2000000) (disch := omega) only [go_sem, d1]; (repeat' (first | (refine hK _ ?_; clear hK hkp kp K) | (with_reducible refine And.intro ?_ ?_) | omega))) | ((first | refine aG (fun h => ?_) (fun h => ?_) | refine aD (fun h => ?_) (fun h => ?_) | refine aX (fun h => ?_) (fun h => ?_)) <;> simp only [h]) | refine awp_cond_t rfl ?_ | refine awp_cond_f rfl ?_ | ((refine awp_cond rfl (fun h => ?_) (fun h => ?_) <;> try simp only [ifs] at h) <;> (try (exfalso; omega))) | refine awp_ret ?_))
    (refine retA_is (by (simp (implicitDefEqProofs := false) (maxSteps := 2000000) (disch := omega) only [go_sem, Go.Proofs.Tryd.results11]); rfl) ?_; refine eN hE ?_; simp [oneA, ren, renL])
  have d1 : decide ((l.length : Int) > 6) = false := decide_eq_false (by omega)
  (repeat' (first | refine awp_seq ?_ | refine awp_block ?_ | refine awp_skip ?_ | refine awp_exit ?_ | ((first | refine rR (fun K kp hK hkp => ?_) | refine iG ?_); simp (implicitDefEqProofs := false) (maxSteps := 2000000) (disch := omega) only [go_sem, d1]; (repeat' (first | (refine hK _ ?_; clear hK hkp kp K) | (with_reducible refine And.intro ?_ ?_) | omega))) | ((first | refine aG (fun h => ?_) (fun h => ?_) | refine aD (fun h => ?_) (fun h => ?_) | refine aX (fun h => ?_) (fun h => ?_)) <;> simp only [h]) | refine awp_cond_t rfl ?_ | refine awp_cond_f rfl ?_ | ((refine awp_cond rfl (fun h => ?_) (fun h => ?_) <;> try simp only [ifs] at h) <;> (try (exfalso; omega))) | refine awp_ret ?_))
  (refine AWP.emb (emb_nil 4 5 1 ?_) ?_; (· rfl); dsimp only)
  refine awp_loop (fun q : Nat × List UInt8 => ⟨[(5, .r (.int .i64 q.1)), (4, .s 0 0 q.2.length), (0, .ro t 3 (l.map eV))], [(0, .lst 5 1 (q.2.map eByte))], 1⟩) (fun q => q.1 ≤ l.length ∧ q.2.length ≤ 43 * q.1 ∧ encFrom q.2 (l.drop q.1) = encFrom [] l) (fun q => l.length - q.1) (0, []) ?_ ?_ ?_
  · exact ⟨by simp, by simp, rfl⟩
  · (refine emb [0] ?_ ?_ rfl ?_ ?_ ?_ ?_ <;> simp [okM, okO, lk, ren, renL, renNd, by_, hE] <;> (try omega))
  rintro ⟨i, b⟩ ⟨hi, hb, hno⟩
  simp only at hi hb hno ⊢
  by_cases hlt : i < l.length
  · obtain ⟨v, hx⟩ : ∃ x, l[i]? = some x := ⟨l[i], by simp [hlt]⟩
    have hgv := hg v (List.mem_of_getElem? hx)
    have vc := vfaultC_con E.G v hgv.1
    simp only [eV] at vc
    by_cases hv : vcheck v.k v.n v.s = 0
    · rw [hv] at vc
      have hlen := encV_len hv
      rw [encFrom_step b hx hv] at hno
      obtain hk | ⟨hk, hn⟩ | hk | ⟨hk, hs⟩ := kind_of_check hv
      · have hW : encV v = [0] := by rw [encV, hk]; rfl
        rw [hW] at hno
        (repeat' (first | refine awp_seq ?_ | refine awp_block ?_ | refine awp_skip ?_ | refine awp_exit ?_ | ((first | refine rR (fun K kp hK hkp => ?_) | refine cR vc ?_ | refine iG ?_); simp (implicitDefEqProofs := false) (maxSteps := 2000000) (disch := omega) only [go_sem, hx, eV, hk]; (repeat' (first | (refine hK _ ?_; clear hK hkp kp K) | (with_reducible refine And.intro ?_ ?_) | omega))) | ((first | refine aG (fun h => ?_) (fun h => ?_) | refine aD (fun h => ?_) (fun h => ?_) | refine aX (fun h => ?_) (fun h => ?_)) <;> simp only [h]) | refine awp_cond_t rfl ?_ | refine awp_cond_f rfl ?_ | ((refine awp_cond rfl (fun h => ?_) (fun h => ?_) <;> try simp only [ifs] at h) <;> (try (exfalso; omega))) | refine awp_ret ?_))
        ((first | (refine nextB ((i + 1, b ++ [0])) ?_ ?_ ?_) | (refine nextA ((i + 1, b ++ [0])) ?_ ?_ ?_)); rotate_left; (· (try dsimp only); (first | omega | (simp only [List.length_drop, List.length_cons, List.length_append]; omega) | (simp; done) | (simp; omega))); (· (refine emb [2] ?_ ?_ rfl ?_ ?_ ?_ ?_ <;> simp [okM, okO, lk, ren, renL, renNd, by_, hE, eByte, u8_0, u8_wrap, be8_len] <;> (try omega))))
        exact ⟨by omega, by simp only [List.length_append, List.length_singleton]; omega, hno⟩
      · have hW : encV v = [1, UInt8.ofNat v.n.toNat] := by rw [encV, hk]; rfl
        rw [hW] at hno
        obtain hn | hn := hn
        · rw [hn] at hno
          (repeat' (first | refine awp_seq ?_ | refine awp_block ?_ | refine awp_skip ?_ | refine awp_exit ?_ | ((first | refine rR (fun K kp hK hkp => ?_) | refine cR vc ?_ | refine iG ?_); simp (implicitDefEqProofs := false) (maxSteps := 2000000) (disch := omega) only [go_sem, hx, eV, hk, hn]; (repeat' (first | (refine hK _ ?_; clear hK hkp kp K) | (with_reducible refine And.intro ?_ ?_) | omega))) | ((first | refine aG (fun h => ?_) (fun h => ?_) | refine aD (fun h => ?_) (fun h => ?_) | refine aX (fun h => ?_) (fun h => ?_)) <;> simp only [h]) | refine awp_cond_t rfl ?_ | refine awp_cond_f rfl ?_ | ((refine awp_cond rfl (fun h => ?_) (fun h => ?_) <;> try simp only [ifs] at h) <;> (try (exfalso; omega))) | refine awp_ret ?_))
          ((first | (refine nextB ((i + 1, b ++ [1, 0])) ?_ ?_ ?_) | (refine nextA ((i + 1, b ++ [1, 0])) ?_ ?_ ?_)); rotate_left; (· (try dsimp only); (first | omega | (simp only [List.length_drop, List.length_cons, List.length_append]; omega) | (simp; done) | (simp; omega))); (· (refine emb [4] ?_ ?_ rfl ?_ ?_ ?_ ?_ <;> simp [okM, okO, lk, ren, renL, renNd, by_, hE, eByte, u8_0, u8_wrap, be8_len] <;> (try omega))))
          exact ⟨by omega, by simp only [List.length_append, List.length_cons, List.length_nil]; omega, hno⟩
        · rw [hn] at hno
          (repeat' (first | refine awp_seq ?_ | refine awp_block ?_ | refine awp_skip ?_ | refine awp_exit ?_ | ((first | refine rR (fun K kp hK hkp => ?_) | refine cR vc ?_ | refine iG ?_); simp (implicitDefEqProofs := false) (maxSteps := 2000000) (disch := omega) only [go_sem, hx, eV, hk, hn]; (repeat' (first | (refine hK _ ?_; clear hK hkp kp K) | (with_reducible refine And.intro ?_ ?_) | omega))) | ((first | refine aG (fun h => ?_) (fun h => ?_) | refine aD (fun h => ?_) (fun h => ?_) | refine aX (fun h => ?_) (fun h => ?_)) <;> simp only [h]) | refine awp_cond_t rfl ?_ | refine awp_cond_f rfl ?_ | ((refine awp_cond rfl (fun h => ?_) (fun h => ?_) <;> try simp only [ifs] at h) <;> (try (exfalso; omega))) | refine awp_ret ?_))
          ((first | (refine nextB ((i + 1, b ++ [1, 1])) ?_ ?_ ?_) | (refine nextA ((i + 1, b ++ [1, 1])) ?_ ?_ ?_)); rotate_left; (· (try dsimp only); (first | omega | (simp only [List.length_drop, List.length_cons, List.length_append]; omega) | (simp; done) | (simp; omega))); (· (refine emb [4] ?_ ?_ rfl ?_ ?_ ?_ ?_ <;> simp [okM, okO, lk, ren, renL, renNd, by_, hE, eByte, u8_0, u8_wrap, be8_len] <;> (try omega))))
          exact ⟨by omega, by simp only [List.length_append, List.length_cons, List.length_nil]; omega, hno⟩
      · have hW : encV v = 2 :: be8 (up63 v.n) := by rw [encV, hk]; rfl
        rw [hW] at hno
        have hc := highFirst_con E.G v.n hgv.2
        (repeat' (first | refine awp_seq ?_ | refine awp_block ?_ | refine awp_skip ?_ | refine awp_exit ?_ | ((first | refine rR (fun K kp hK hkp => ?_) | refine cR vc ?_ | refine cR hc ?_ | refine iG ?_); simp (implicitDefEqProofs := false) (maxSteps := 2000000) (disch := omega) only [go_sem, hx, eV, hk, be8_len, be8_all]; (repeat' (first | (refine hK _ ?_; clear hK hkp kp K) | (with_reducible refine And.intro ?_ ?_) | omega))) | ((first | refine aG (fun h => ?_) (fun h => ?_) | refine aD (fun h => ?_) (fun h => ?_) | refine aX (fun h => ?_) (fun h => ?_)) <;> simp only [h]) | refine awp_cond_t rfl ?_ | refine awp_cond_f rfl ?_ | ((refine awp_cond rfl (fun h => ?_) (fun h => ?_) <;> try simp only [ifs] at h) <;> (try (exfalso; omega))) | refine awp_ret ?_))
        ((first | (refine nextB ((i + 1, b ++ 2 :: be8 (up63 v.n))) ?_ ?_ ?_) | (refine nextA ((i + 1, b ++ 2 :: be8 (up63 v.n))) ?_ ?_ ?_)); rotate_left; (· (try dsimp only); (first | omega | (simp only [List.length_drop, List.length_cons, List.length_append]; omega) | (simp; done) | (simp; omega))); (· (refine emb [4] ?_ ?_ rfl ?_ ?_ ?_ ?_ <;> simp [okM, okO, lk, ren, renL, renNd, by_, hE, eByte, u8_0, u8_wrap, be8_len] <;> (try omega))))
        exact ⟨by omega, by simp only [List.length_append, List.length_cons, be8_len]; omega, hno⟩
      · have hW : encV v = 3 :: (escM v.s.data.toList ++ [0, 0]) := by rw [encV, hk]; rfl
        rw [hW] at hno hlen
        have hsl := ba_len v.s
        (repeat' (first | refine awp_seq ?_ | refine awp_block ?_ | refine awp_skip ?_ | refine awp_exit ?_ | ((first | refine rR (fun K kp hK hkp => ?_) | refine cR vc ?_ | refine iG ?_); simp (implicitDefEqProofs := false) (maxSteps := 2000000) (disch := omega) only [go_sem, hx, eV, hk]; (repeat' (first | (refine hK _ ?_; clear hK hkp kp K) | (with_reducible refine And.intro ?_ ?_) | omega))) | ((first | refine aG (fun h => ?_) (fun h => ?_) | refine aD (fun h => ?_) (fun h => ?_) | refine aX (fun h => ?_) (fun h => ?_)) <;> simp only [h]) | refine awp_cond_t rfl ?_ | refine awp_cond_f rfl ?_ | ((refine awp_cond rfl (fun h => ?_) (fun h => ?_) <;> try simp only [ifs] at h) <;> (try (exfalso; omega))) | refine awp_ret ?_))
        refine awp_loop (fun q : Nat × List UInt8 => ⟨[(7, .r (.int .i64 q.1)), (4, .s 0 0 q.2.length), (5, .r (.int .i64 i)), (0, .ro t 3 (l.map eV))], [(0, .lst 5 1 (q.2.map eByte))], 1⟩) (fun q => q.1 ≤ v.s.size ∧ q.2.length ≤ b.length + 1 + 2 * q.1 ∧ q.2 ++ escM (v.s.data.toList.drop q.1) = b ++ 3 :: escM v.s.data.toList) (fun q => v.s.size - q.1) (0, b ++ [3]) ?_ ?_ ?_
        · exact ⟨by simp, by simp, by simp⟩
        · (refine emb [2] ?_ ?_ rfl ?_ ?_ ?_ ?_ <;> simp [okM, okO, lk, ren, renL, renNd, by_, hE, eByte, u8_wrap] <;> (try omega))
        rintro ⟨k, c⟩ ⟨hk', hcl, hco⟩
        simp only at hk' hcl hco ⊢
        by_cases hks : k < v.s.size
        · obtain ⟨x, hxs⟩ : ∃ x, v.s.data.toList[k]? = some x := ⟨v.s.data.toList[k]'(by omega), by simp⟩
          have hxg := ba_get v.s k
          rw [hxs] at hxg
          rw [drop_at hxs, escM, repM] at hco
          by_cases h0 : x = 0
          · rw [if_pos h0] at hco
            subst h0
            (repeat' (first | refine awp_seq ?_ | refine awp_block ?_ | refine awp_skip ?_ | refine awp_exit ?_ | ((first | refine rR (fun K kp hK hkp => ?_) | refine iG ?_); simp (implicitDefEqProofs := false) (maxSteps := 2000000) (disch := omega) only [go_sem, hx, eV, hxg]; (repeat' (first | (refine hK _ ?_; clear hK hkp kp K) | (with_reducible refine And.intro ?_ ?_) | omega))) | ((first | refine aG (fun h => ?_) (fun h => ?_) | refine aD (fun h => ?_) (fun h => ?_) | refine aX (fun h => ?_) (fun h => ?_)) <;> simp only [h]) | refine awp_cond_t rfl ?_ | refine awp_cond_f rfl ?_ | ((refine awp_cond rfl (fun h => ?_) (fun h => ?_) <;> try simp only [ifs] at h) <;> (try (exfalso; omega))) | refine awp_ret ?_))
            ((first | (refine nextB ((k + 1, c ++ [0, 255])) ?_ ?_ ?_) | (refine nextA ((k + 1, c ++ [0, 255])) ?_ ?_ ?_)); rotate_left; (· (try dsimp only); (first | omega | (simp only [List.length_drop, List.length_cons, List.length_append]; omega) | (simp; done) | (simp; omega))); (· (refine emb [4] ?_ ?_ rfl ?_ ?_ ?_ ?_ <;> simp [okM, okO, lk, ren, renL, renNd, by_, hE, eByte] <;> (try omega))))
            exact ⟨by omega, by simp only [List.length_append, List.length_cons, List.length_nil]; omega, by rw [← hco]; simp [escM]⟩
          · rw [if_neg h0] at hco
            have e0 : ((x.toNat : Int) == 0) = false := by
              rw [beq_eq_false_iff_ne]; intro h; exact h0 (UInt8.toNat.inj (by rw [u8_0]; omega))
            (repeat' (first | refine awp_seq ?_ | refine awp_block ?_ | refine awp_skip ?_ | refine awp_exit ?_ | ((first | refine rR (fun K kp hK hkp => ?_) | refine iG ?_); simp (implicitDefEqProofs := false) (maxSteps := 2000000) (disch := omega) only [go_sem, hx, eV, hxg, e0]; (repeat' (first | (refine hK _ ?_; clear hK hkp kp K) | (with_reducible refine And.intro ?_ ?_) | omega))) | ((first | refine aG (fun h => ?_) (fun h => ?_) | refine aD (fun h => ?_) (fun h => ?_) | refine aX (fun h => ?_) (fun h => ?_)) <;> simp only [h]) | refine awp_cond_t rfl ?_ | refine awp_cond_f rfl ?_ | ((refine awp_cond rfl (fun h => ?_) (fun h => ?_) <;> try simp only [ifs] at h) <;> (try (exfalso; omega))) | refine awp_ret ?_))
            ((first | (refine nextB ((k + 1, c ++ [x])) ?_ ?_ ?_) | (refine nextA ((k + 1, c ++ [x])) ?_ ?_ ?_)); rotate_left; (· (try dsimp only); (first | omega | (simp only [List.length_drop, List.length_cons, List.length_append]; omega) | (simp; done) | (simp; omega))); (· (refine emb [2] ?_ ?_ rfl ?_ ?_ ?_ ?_ <;> simp [okM, okO, lk, ren, renL, renNd, by_, hE, eByte] <;> (try omega))))
            exact ⟨by omega, by simp only [List.length_append, List.length_singleton]; omega, by rw [← hco]; simp [escM]⟩
        · rw [List.drop_of_length_le (by omega)] at hco
          have hco : c = b ++ 3 :: escM v.s.data.toList := by rw [← hco]; simp [escM, repM]
          (repeat' (first | refine awp_seq ?_ | refine awp_block ?_ | refine awp_skip ?_ | refine awp_exit ?_ | ((first | refine rR (fun K kp hK hkp => ?_) | refine iG ?_); simp (implicitDefEqProofs := false) (maxSteps := 2000000) (disch := omega) only [go_sem, hx, eV]; (repeat' (first | (refine hK _ ?_; clear hK hkp kp K) | (with_reducible refine And.intro ?_ ?_) | omega))) | ((first | refine aG (fun h => ?_) (fun h => ?_) | refine aD (fun h => ?_) (fun h => ?_) | refine aX (fun h => ?_) (fun h => ?_)) <;> simp only [h]) | refine awp_cond_t rfl ?_ | refine awp_cond_f rfl ?_ | ((refine awp_cond rfl (fun h => ?_) (fun h => ?_) <;> try simp only [ifs] at h) <;> (try (exfalso; omega))) | refine awp_ret ?_))
          ((first | (refine nextB ((i + 1, c ++ [0, 0])) ?_ ?_ ?_) | (refine nextA ((i + 1, c ++ [0, 0])) ?_ ?_ ?_)); rotate_left; (· (try dsimp only); (first | omega | (simp only [List.length_drop, List.length_cons, List.length_append]; omega) | (simp; done) | (simp; omega))); (· (refine emb [2] ?_ ?_ rfl ?_ ?_ ?_ ?_ <;> simp [okM, okO, lk, ren, renL, renNd, by_, hE, eByte] <;> (try omega))))
          have hcc : c ++ [0, 0] = b ++ 3 :: (escM v.s.data.toList ++ [0, 0]) := by rw [hco]; simp
          refine ⟨by omega, ?_, by simp only; rw [hcc]; exact hno⟩
          simp only; rw [hcc]; simp only [List.length_append, List.length_cons, List.length_nil] at hlen ⊢; omega
    · have hv0 : (vcheck v.k v.n v.s != 0) = true := by simpa using hv
      have hM : encM l = .error (vcheck v.k v.n v.s) := by
        rw [encM, if_neg h6, ← hno, drop_at hx, encFrom, if_pos hv]
      rw [hM]; simp only [encA]
      (repeat' (first | refine awp_seq ?_ | refine awp_block ?_ | refine awp_skip ?_ | refine awp_exit ?_ | ((first | refine rR (fun K kp hK hkp => ?_) | refine cR vc ?_ | refine iG ?_); simp (implicitDefEqProofs := false) (maxSteps := 2000000) (disch := omega) only [go_sem, hx, eV, hv0]; (repeat' (first | (refine hK _ ?_; clear hK hkp kp K) | (with_reducible refine And.intro ?_ ?_) | omega))) | ((first | refine aG (fun h => ?_) (fun h => ?_) | refine aD (fun h => ?_) (fun h => ?_) | refine aX (fun h => ?_) (fun h => ?_)) <;> simp only [h]) | refine awp_cond_t rfl ?_ | refine awp_cond_f rfl ?_ | ((refine awp_cond rfl (fun h => ?_) (fun h => ?_) <;> try simp only [ifs] at h) <;> (try (exfalso; omega))) | refine awp_ret ?_))
      (refine retA_is (by (simp (implicitDefEqProofs := false) (maxSteps := 2000000) (disch := omega) only [go_sem, Go.Proofs.Tryd.results11]); rfl) ?_; refine eN hE ?_; simp [oneA, ren, renL])
  · rw [List.drop_of_length_le (by omega), encFrom] at hno
    by_cases h100 : 100 < b.length
    · have d2 : decide ((b.length : Int) > 100) = true := decide_eq_true (by omega)
      have hM : encM l = .error 5 := by rw [encM, if_neg h6, ← hno]; simp only; rw [if_pos h100]
      rw [hM]; simp only [encA]
      (repeat' (first | refine awp_seq ?_ | refine awp_block ?_ | refine awp_skip ?_ | refine awp_exit ?_ | ((first | refine rR (fun K kp hK hkp => ?_) | refine iG ?_); simp (implicitDefEqProofs := false) (maxSteps := 2000000) (disch := omega) only [go_sem, d2]; (repeat' (first | (refine hK _ ?_; clear hK hkp kp K) | (with_reducible refine And.intro ?_ ?_) | omega))) | ((first | refine aG (fun h => ?_) (fun h => ?_) | refine aD (fun h => ?_) (fun h => ?_) | refine aX (fun h => ?_) (fun h => ?_)) <;> simp only [h]) | refine awp_cond_t rfl ?_ | refine awp_cond_f rfl ?_ | ((refine awp_cond rfl (fun h => ?_) (fun h => ?_) <;> try simp only [ifs] at h) <;> (try (exfalso; omega))) | refine awp_ret ?_))
      (refine retA_is (by (simp (implicitDefEqProofs := false) (maxSteps := 2000000) (disch := omega) only [go_sem, Go.Proofs.Tryd.results11]); rfl) ?_; refine eN hE ?_; simp [oneA, ren, renL])
    · have d2 : decide ((b.length : Int) > 100) = false := decide_eq_false (by omega)
      have hM : encM l = .ok b := by rw [encM, if_neg h6, ← hno]; simp only; rw [if_neg h100]
      rw [hM]; simp only [encA]
      (repeat' (first | refine awp_seq ?_ | refine awp_block ?_ | refine awp_skip ?_ | refine awp_exit ?_ | ((first | refine rR (fun K kp hK hkp => ?_) | refine iG ?_); simp (implicitDefEqProofs := false) (maxSteps := 2000000) (disch := omega) only [go_sem, d2]; (repeat' (first | (refine hK _ ?_; clear hK hkp kp K) | (with_reducible refine And.intro ?_ ?_) | omega))) | ((first | refine aG (fun h => ?_) (fun h => ?_) | refine aD (fun h => ?_) (fun h => ?_) | refine aX (fun h => ?_) (fun h => ?_)) <;> simp only [h]) | refine awp_cond_t rfl ?_ | refine awp_cond_f rfl ?_ | ((refine awp_cond rfl (fun h => ?_) (fun h => ?_) <;> try simp only [ifs] at h) <;> (try (exfalso; omega))) | refine awp_ret ?_))
      (refine retA_is (by (simp (implicitDefEqProofs := false) (maxSteps := 2000000) (disch := omega) only [go_sem, Go.Proofs.Tryd.results11]); rfl) ?_; refine embS_frz (by simp only [oneA]; simp (implicitDefEqProofs := false) (maxSteps := 2000000) (disch := omega) only [go_sem]; rfl) ?_; refine (embV_nil hE (by simp) ?_).s; simp [oneA, ren, renL])
end Go.AM
/- The codec: codec.Encode, walked. -/
namespace Go.AM
open Go Go.RowKit
open Go.Proofs.YteebiklebedneaaDoor (vcheck)
attribute [local irreducible] AWP retA
/-- strings.ReplaceAll of noughts. -/
def RepCon (G : List (Nat × List Value)) : Prop := ∀ s : ByteArray, s.size ≤ 400 → Con Go.Proofs.Tryd.prog G 30 [.r (.string s), .r (.string ⟨#[0]⟩), .r (.string ⟨#[0, 255]⟩)] [] 0 (Is (.r (.string ⟨(escM s.data.toList).toArray⟩)) [] 0) No
set_option maxRecDepth 100000 in
set_option maxHeartbeats 8000000 in
theorem encode_con {G : List (Nat × List Value)} (HR : RepCon G) (t : Bool) (l : List V) (hl : l.length ≤ 1048576) (hg : ∀ v ∈ l, gV v) : Con Go.Proofs.Tryd.prog G 10 [.ro t 3 (l.map eV)] [] 0 (Is (encA (encM l)) [] 0) No := by
  refine con_of_awp Go.Proofs.Tryd.func10 rfl (by kernel_rfl) (of_decide_eq_true (by kernel_rfl)) ?_; intro E hG hE; subst hG; simp only [ent]
  by_cases h6 : 6 < l.length
  · have d1 : decide ((l.length : Int) > 6) = true := decide_eq_true (by omega)
    have hM : encM l = .error 1 := by rw [encM, if_pos h6]
    rw [hM]; simp only [encA]
    (repeat' (first | refine awp_seq ?_ | refine awp_block ?_ | refine awp_skip ?_ | refine awp_exit ?_ | ((first | refine rR (fun K kp hK hkp => ?_) | refine iG ?_); simp (implicitDefEqProofs := false) (maxSteps := 2000000) (disch := omega) only [go_sem, d1]; (repeat' (first | (refine hK _ ?_; clear hK hkp kp K) | (with_reducible refine And.intro ?_ ?_) | omega))) | ((first | refine aG (fun h => ?_) (fun h => ?_) | refine aD (fun h => ?_) (fun h => ?_) | refine aX (fun h => ?_) (fun h => ?_)) <;> simp only [h]) | refine awp_cond_t rfl ?_ | refine awp_cond_f rfl ?_ | ((refine awp_cond rfl (fun h => ?_) (fun h => ?_) <;> try simp only [ifs] at h) <;> (try (exfalso; omega))) | refine awp_ret ?_))
    (refine retA_is (by (simp (implicitDefEqProofs := false) (maxSteps := 2000000) (disch := omega) only [go_sem, Go.Proofs.Tryd.results10]); rfl) ?_; refine eN hE ?_; simp [oneA, ren, renL])
  have d1 : decide ((l.length : Int) > 6) = false := decide_eq_false (by omega)
  (repeat' (first | refine awp_seq ?_ | refine awp_block ?_ | refine awp_skip ?_ | refine awp_exit ?_ | ((first | refine rR (fun K kp hK hkp => ?_) | refine iG ?_); simp (implicitDefEqProofs := false) (maxSteps := 2000000) (disch := omega) only [go_sem, d1]; (repeat' (first | (refine hK _ ?_; clear hK hkp kp K) | (with_reducible refine And.intro ?_ ?_) | omega))) | ((first | refine aG (fun h => ?_) (fun h => ?_) | refine aD (fun h => ?_) (fun h => ?_) | refine aX (fun h => ?_) (fun h => ?_)) <;> simp only [h]) | refine awp_cond_t rfl ?_ | refine awp_cond_f rfl ?_ | ((refine awp_cond rfl (fun h => ?_) (fun h => ?_) <;> try simp only [ifs] at h) <;> (try (exfalso; omega))) | refine awp_ret ?_))
  (refine AWP.emb (emb_nil 4 5 1 ?_) ?_; (· rfl); dsimp only)
  refine awp_loop (fun q : Nat × List UInt8 => ⟨[(15, .r (.int .i64 q.1)), (14, .r (.int .i64 l.length)), (13, .ro t 3 (l.map eV)), (4, .s 0 0 q.2.length)], [(0, .lst 5 1 (q.2.map eByte))], 1⟩) (fun q => q.1 ≤ l.length ∧ q.2.length ≤ 43 * q.1 ∧ encFrom q.2 (l.drop q.1) = encFrom [] l) (fun q => l.length - q.1) (0, []) ?_ ?_ ?_
  · exact ⟨by simp, by simp, rfl⟩
  · (refine emb [0] ?_ ?_ rfl ?_ ?_ ?_ ?_ <;> simp [okM, okO, lk, ren, renL, renNd, by_, hE] <;> (try omega))
  rintro ⟨i, b⟩ ⟨hi, hb, hno⟩
  simp only at hi hb hno ⊢
  by_cases hlt : i < l.length
  · obtain ⟨v, hx⟩ : ∃ x, l[i]? = some x := ⟨l[i], by simp [hlt]⟩
    have hgv := hg v (List.mem_of_getElem? hx)
    have vc := valC_con E.G v hgv.1
    simp only [eV] at vc
    by_cases hv : vcheck v.k v.n v.s = 0
    · rw [hv] at vc
      have hlen := encV_len hv
      rw [encFrom_step b hx hv] at hno
      obtain hk | ⟨hk, hn⟩ | hk | ⟨hk, hs⟩ := kind_of_check hv
      · have hW : encV v = [0] := by rw [encV, hk]; rfl
        rw [hW] at hno
        (repeat' (first | refine awp_seq ?_ | refine awp_block ?_ | refine awp_skip ?_ | refine awp_exit ?_ | ((first | refine rR (fun K kp hK hkp => ?_) | refine cR vc ?_ | refine iG ?_); simp (implicitDefEqProofs := false) (maxSteps := 2000000) (disch := omega) only [go_sem, hx, eV, hk]; (repeat' (first | (refine hK _ ?_; clear hK hkp kp K) | (with_reducible refine And.intro ?_ ?_) | omega))) | ((first | refine aG (fun h => ?_) (fun h => ?_) | refine aD (fun h => ?_) (fun h => ?_) | refine aX (fun h => ?_) (fun h => ?_)) <;> simp only [h]) | refine awp_cond_t rfl ?_ | refine awp_cond_f rfl ?_ | ((refine awp_cond rfl (fun h => ?_) (fun h => ?_) <;> try simp only [ifs] at h) <;> (try (exfalso; omega))) | refine awp_ret ?_))
        ((first | (refine nextB ((i + 1, b ++ [0])) ?_ ?_ ?_) | (refine nextA ((i + 1, b ++ [0])) ?_ ?_ ?_)); rotate_left; (· (try dsimp only); (first | omega | (simp only [List.length_drop, List.length_cons, List.length_append]; omega) | (simp; done) | (simp; omega))); (· (refine emb [3] ?_ ?_ rfl ?_ ?_ ?_ ?_ <;> simp [okM, okO, lk, ren, renL, renNd, by_, hE, eByte, u8_0, u8_wrap] <;> (try omega))))
        exact ⟨by omega, by simp only [List.length_append, List.length_singleton]; omega, hno⟩
      · have hW : encV v = [1, UInt8.ofNat v.n.toNat] := by rw [encV, hk]; rfl
        rw [hW] at hno
        obtain hn | hn := hn
        · rw [hn] at hno
          (repeat' (first | refine awp_seq ?_ | refine awp_block ?_ | refine awp_skip ?_ | refine awp_exit ?_ | ((first | refine rR (fun K kp hK hkp => ?_) | refine cR vc ?_ | refine iG ?_); simp (implicitDefEqProofs := false) (maxSteps := 2000000) (disch := omega) only [go_sem, hx, eV, hk, hn]; (repeat' (first | (refine hK _ ?_; clear hK hkp kp K) | (with_reducible refine And.intro ?_ ?_) | omega))) | ((first | refine aG (fun h => ?_) (fun h => ?_) | refine aD (fun h => ?_) (fun h => ?_) | refine aX (fun h => ?_) (fun h => ?_)) <;> simp only [h]) | refine awp_cond_t rfl ?_ | refine awp_cond_f rfl ?_ | ((refine awp_cond rfl (fun h => ?_) (fun h => ?_) <;> try simp only [ifs] at h) <;> (try (exfalso; omega))) | refine awp_ret ?_))
          ((first | (refine nextB ((i + 1, b ++ [1, 0])) ?_ ?_ ?_) | (refine nextA ((i + 1, b ++ [1, 0])) ?_ ?_ ?_)); rotate_left; (· (try dsimp only); (first | omega | (simp only [List.length_drop, List.length_cons, List.length_append]; omega) | (simp; done) | (simp; omega))); (· (refine emb [5] ?_ ?_ rfl ?_ ?_ ?_ ?_ <;> simp [okM, okO, lk, ren, renL, renNd, by_, hE, eByte, u8_0, u8_wrap] <;> (try omega))))
          exact ⟨by omega, by simp only [List.length_append, List.length_cons, List.length_nil]; omega, hno⟩
        · rw [hn] at hno
          (repeat' (first | refine awp_seq ?_ | refine awp_block ?_ | refine awp_skip ?_ | refine awp_exit ?_ | ((first | refine rR (fun K kp hK hkp => ?_) | refine cR vc ?_ | refine iG ?_); simp (implicitDefEqProofs := false) (maxSteps := 2000000) (disch := omega) only [go_sem, hx, eV, hk, hn]; (repeat' (first | (refine hK _ ?_; clear hK hkp kp K) | (with_reducible refine And.intro ?_ ?_) | omega))) | ((first | refine aG (fun h => ?_) (fun h => ?_) | refine aD (fun h => ?_) (fun h => ?_) | refine aX (fun h => ?_) (fun h => ?_)) <;> simp only [h]) | refine awp_cond_t rfl ?_ | refine awp_cond_f rfl ?_ | ((refine awp_cond rfl (fun h => ?_) (fun h => ?_) <;> try simp only [ifs] at h) <;> (try (exfalso; omega))) | refine awp_ret ?_))
          ((first | (refine nextB ((i + 1, b ++ [1, 1])) ?_ ?_ ?_) | (refine nextA ((i + 1, b ++ [1, 1])) ?_ ?_ ?_)); rotate_left; (· (try dsimp only); (first | omega | (simp only [List.length_drop, List.length_cons, List.length_append]; omega) | (simp; done) | (simp; omega))); (· (refine emb [5] ?_ ?_ rfl ?_ ?_ ?_ ?_ <;> simp [okM, okO, lk, ren, renL, renNd, by_, hE, eByte, u8_0, u8_wrap] <;> (try omega))))
          exact ⟨by omega, by simp only [List.length_append, List.length_cons, List.length_nil]; omega, hno⟩
      · have hW : encV v = 2 :: be8 (up63 v.n) := by rw [encV, hk]; rfl
        rw [hW] at hno
        have hxor := xorU hgv.2
        obtain ⟨u, hu⟩ : ∃ u, up63 v.n = u := ⟨_, rfl⟩
        rw [hu] at hxor hno
        (repeat' (first | refine awp_seq ?_ | refine awp_block ?_ | refine awp_skip ?_ | refine awp_exit ?_ | ((first | refine rR (fun K kp hK hkp => ?_) | refine cR vc ?_ | refine iG ?_); simp (implicitDefEqProofs := false) (maxSteps := 2000000) (disch := omega) only [go_sem, hx, eV, hk, hxor]; (repeat' (first | (refine hK _ ?_; clear hK hkp kp K) | (with_reducible refine And.intro ?_ ?_) | omega))) | ((first | refine aG (fun h => ?_) (fun h => ?_) | refine aD (fun h => ?_) (fun h => ?_) | refine aX (fun h => ?_) (fun h => ?_)) <;> simp only [h]) | refine awp_cond_t rfl ?_ | refine awp_cond_f rfl ?_ | ((refine awp_cond rfl (fun h => ?_) (fun h => ?_) <;> try simp only [ifs] at h) <;> (try (exfalso; omega))) | refine awp_ret ?_))
        refine awp_loop (fun j : Nat => ⟨[(9, .r (.int .i64 (56 - 8 * (j : Int)))), (8, .r (.int .u64 u)), (15, .r (.int .i64 i)), (14, .r (.int .i64 l.length)), (13, .ro t 3 (l.map eV)), (4, .s 0 0 (b.length + 1 + j))], [(0, .lst 5 1 ((b ++ 2 :: (be8 u).take j).map eByte))], 1⟩) (fun j => j ≤ 8) (fun j => 8 - j) 0 ?_ ?_ ?_
        · simp
        · (refine emb [3] ?_ ?_ rfl ?_ ?_ ?_ ?_ <;> simp [okM, okO, lk, ren, renL, renNd, by_, hE, eByte, u8_wrap] <;> (try omega))
        intro j hj
        have hz : ((be8 u).take j).length = j := by rw [List.length_take, be8_len]; omega
        by_cases h8 : j < 8
        · have d2 : decide ((56 - 8 * (j : Int)) ≥ 0) = true := decide_eq_true (by omega)
          have c1 : ((56 - 8 * (j : Int)) < 0) = False := eq_false (by omega)
          have hsb := shr_byte u j h8
          obtain ⟨x, hxj⟩ : ∃ x, x = UInt8.ofNat (u / 2 ^ (56 - 8 * j) % 256) := ⟨_, rfl⟩
          rw [← hxj] at hsb
          have htk : (be8 u).take (j + 1) = (be8 u).take j ++ [x] := by rw [List.take_add_one, be8_get u j h8, hxj]; rfl
          have htA : List.take (b.length + 1 + j) (List.map eByte b ++ [AV.r (.int .u8 2)] :: List.take j (List.map eByte (be8 u))) = List.map eByte b ++ [AV.r (.int .u8 2)] :: List.take j (List.map eByte (be8 u)) := List.take_of_length_le (by simp only [List.length_append, List.length_cons, List.length_map, List.length_take, be8_len]; omega)
          (repeat' (first | refine awp_seq ?_ | refine awp_block ?_ | refine awp_skip ?_ | refine awp_exit ?_ | ((first | refine rR (fun K kp hK hkp => ?_) | refine iG ?_); simp (implicitDefEqProofs := false) (maxSteps := 2000000) (disch := omega) only [go_sem, d2, c1, hsb]; (repeat' (first | (refine hK _ ?_; clear hK hkp kp K) | (with_reducible refine And.intro ?_ ?_) | omega))) | ((first | refine aG (fun h => ?_) (fun h => ?_) | refine aD (fun h => ?_) (fun h => ?_) | refine aX (fun h => ?_) (fun h => ?_)) <;> simp only [h]) | refine awp_cond_t rfl ?_ | refine awp_cond_f rfl ?_ | ((refine awp_cond rfl (fun h => ?_) (fun h => ?_) <;> try simp only [ifs] at h) <;> (try (exfalso; omega))) | refine awp_ret ?_))
          ((first | (refine nextB (j + 1) ?_ ?_ ?_) | (refine nextA (j + 1) ?_ ?_ ?_)); rotate_left; (· (try dsimp only); (first | omega | (simp only [List.length_drop, List.length_cons, List.length_append]; omega) | (simp; done) | (simp; omega))); (· (refine emb [2] ?_ ?_ rfl ?_ ?_ ?_ ?_ <;> simp [okM, okO, lk, ren, renL, renNd, by_, hE, eByte, htk, htA] <;> (try omega))))
          omega
        · obtain rfl : j = 8 := by omega
          (repeat' (first | refine awp_seq ?_ | refine awp_block ?_ | refine awp_skip ?_ | refine awp_exit ?_ | ((first | refine rR (fun K kp hK hkp => ?_) | refine iG ?_); simp (implicitDefEqProofs := false) (maxSteps := 2000000) (disch := omega) only [go_sem]; (repeat' (first | (refine hK _ ?_; clear hK hkp kp K) | (with_reducible refine And.intro ?_ ?_) | omega))) | ((first | refine aG (fun h => ?_) (fun h => ?_) | refine aD (fun h => ?_) (fun h => ?_) | refine aX (fun h => ?_) (fun h => ?_)) <;> simp only [h]) | refine awp_cond_t rfl ?_ | refine awp_cond_f rfl ?_ | ((refine awp_cond rfl (fun h => ?_) (fun h => ?_) <;> try simp only [ifs] at h) <;> (try (exfalso; omega))) | refine awp_ret ?_))
          ((first | (refine nextB ((i + 1, b ++ 2 :: be8 u)) ?_ ?_ ?_) | (refine nextA ((i + 1, b ++ 2 :: be8 u)) ?_ ?_ ?_)); rotate_left; (· (try dsimp only); (first | omega | (simp only [List.length_drop, List.length_cons, List.length_append]; omega) | (simp; done) | (simp; omega))); (· (refine emb [0] ?_ ?_ rfl ?_ ?_ ?_ ?_ <;> simp [okM, okO, lk, ren, renL, renNd, by_, hE, be8_all, be8_len] <;> (try omega))))
          exact ⟨by omega, by simp only [List.length_append, List.length_cons, be8_len]; omega, hno⟩
      · have hW : encV v = 3 :: (escM v.s.data.toList ++ [0, 0]) := by rw [encV, hk]; rfl
        rw [hW] at hno hlen
        have rc := HR v.s (by omega)
        simp only [List.length_append, List.length_cons, List.length_nil] at hlen
        (repeat' (first | refine awp_seq ?_ | refine awp_block ?_ | refine awp_skip ?_ | refine awp_exit ?_ | ((first | refine rR (fun K kp hK hkp => ?_) | refine cR vc ?_ | refine cR rc ?_ | refine iG ?_); simp (implicitDefEqProofs := false) (maxSteps := 2000000) (disch := omega) only [go_sem, hx, eV, hk]; (repeat' (first | (refine hK _ ?_; clear hK hkp kp K) | (with_reducible refine And.intro ?_ ?_) | omega))) | ((first | refine aG (fun h => ?_) (fun h => ?_) | refine aD (fun h => ?_) (fun h => ?_) | refine aX (fun h => ?_) (fun h => ?_)) <;> simp only [h]) | refine awp_cond_t rfl ?_ | refine awp_cond_f rfl ?_ | ((refine awp_cond rfl (fun h => ?_) (fun h => ?_) <;> try simp only [ifs] at h) <;> (try (exfalso; omega))) | refine awp_ret ?_))
        ((first | (refine nextB ((i + 1, b ++ 3 :: (escM v.s.data.toList ++ [0, 0]))) ?_ ?_ ?_) | (refine nextA ((i + 1, b ++ 3 :: (escM v.s.data.toList ++ [0, 0]))) ?_ ?_ ?_)); rotate_left; (· (try dsimp only); (first | omega | (simp only [List.length_drop, List.length_cons, List.length_append]; omega) | (simp; done) | (simp; omega))); (· (refine emb [6] ?_ ?_ rfl ?_ ?_ ?_ ?_ <;> simp [okM, okO, lk, ren, renL, renNd, by_, hE, eByte, u8_wrap] <;> (try omega))))
        exact ⟨by omega, by simp only [List.length_append, List.length_cons, List.length_nil]; omega, hno⟩
    · have hv0 : (vcheck v.k v.n v.s != 0) = true := by simpa using hv
      have hM : encM l = .error (vcheck v.k v.n v.s) := by
        rw [encM, if_neg h6, ← hno, drop_at hx, encFrom, if_pos hv]
      rw [hM]; simp only [encA]
      (repeat' (first | refine awp_seq ?_ | refine awp_block ?_ | refine awp_skip ?_ | refine awp_exit ?_ | ((first | refine rR (fun K kp hK hkp => ?_) | refine cR vc ?_ | refine iG ?_); simp (implicitDefEqProofs := false) (maxSteps := 2000000) (disch := omega) only [go_sem, hx, eV, hv0]; (repeat' (first | (refine hK _ ?_; clear hK hkp kp K) | (with_reducible refine And.intro ?_ ?_) | omega))) | ((first | refine aG (fun h => ?_) (fun h => ?_) | refine aD (fun h => ?_) (fun h => ?_) | refine aX (fun h => ?_) (fun h => ?_)) <;> simp only [h]) | refine awp_cond_t rfl ?_ | refine awp_cond_f rfl ?_ | ((refine awp_cond rfl (fun h => ?_) (fun h => ?_) <;> try simp only [ifs] at h) <;> (try (exfalso; omega))) | refine awp_ret ?_))
      (refine retA_is (by (simp (implicitDefEqProofs := false) (maxSteps := 2000000) (disch := omega) only [go_sem, Go.Proofs.Tryd.results10]); rfl) ?_; refine eN hE ?_; simp [oneA, ren, renL])
  · rw [List.drop_of_length_le (by omega), encFrom] at hno
    by_cases h100 : 100 < b.length
    · have d2 : decide ((b.length : Int) > 100) = true := decide_eq_true (by omega)
      have hM : encM l = .error 5 := by rw [encM, if_neg h6, ← hno]; simp only; rw [if_pos h100]
      rw [hM]; simp only [encA]
      (repeat' (first | refine awp_seq ?_ | refine awp_block ?_ | refine awp_skip ?_ | refine awp_exit ?_ | ((first | refine rR (fun K kp hK hkp => ?_) | refine iG ?_); simp (implicitDefEqProofs := false) (maxSteps := 2000000) (disch := omega) only [go_sem, d2]; (repeat' (first | (refine hK _ ?_; clear hK hkp kp K) | (with_reducible refine And.intro ?_ ?_) | omega))) | ((first | refine aG (fun h => ?_) (fun h => ?_) | refine aD (fun h => ?_) (fun h => ?_) | refine aX (fun h => ?_) (fun h => ?_)) <;> simp only [h]) | refine awp_cond_t rfl ?_ | refine awp_cond_f rfl ?_ | ((refine awp_cond rfl (fun h => ?_) (fun h => ?_) <;> try simp only [ifs] at h) <;> (try (exfalso; omega))) | refine awp_ret ?_))
      (refine retA_is (by (simp (implicitDefEqProofs := false) (maxSteps := 2000000) (disch := omega) only [go_sem, Go.Proofs.Tryd.results10]); rfl) ?_; refine eN hE ?_; simp [oneA, ren, renL])
    · have d2 : decide ((b.length : Int) > 100) = false := decide_eq_false (by omega)
      have hM : encM l = .ok b := by rw [encM, if_neg h6, ← hno]; simp only; rw [if_neg h100]
      rw [hM]; simp only [encA]
      (repeat' (first | refine awp_seq ?_ | refine awp_block ?_ | refine awp_skip ?_ | refine awp_exit ?_ | ((first | refine rR (fun K kp hK hkp => ?_) | refine iG ?_); simp (implicitDefEqProofs := false) (maxSteps := 2000000) (disch := omega) only [go_sem, d2]; (repeat' (first | (refine hK _ ?_; clear hK hkp kp K) | (with_reducible refine And.intro ?_ ?_) | omega))) | ((first | refine aG (fun h => ?_) (fun h => ?_) | refine aD (fun h => ?_) (fun h => ?_) | refine aX (fun h => ?_) (fun h => ?_)) <;> simp only [h]) | refine awp_cond_t rfl ?_ | refine awp_cond_f rfl ?_ | ((refine awp_cond rfl (fun h => ?_) (fun h => ?_) <;> try simp only [ifs] at h) <;> (try (exfalso; omega))) | refine awp_ret ?_))
      (refine retA_is (by (simp (implicitDefEqProofs := false) (maxSteps := 2000000) (disch := omega) only [go_sem, Go.Proofs.Tryd.results10]); rfl) ?_; refine embS_frz (by simp only [oneA]; simp (implicitDefEqProofs := false) (maxSteps := 2000000) (disch := omega) only [go_sem]; rfl) ?_; refine (embV_nil hE (by simp) ?_).s; simp [oneA, ren, renL])
end Go.AM
/- The law CodecEncodes. -/
namespace Go.AM
open Go Go.RowKit
open Go.Proofs.YteebiklebedneaaDoor (vcheck)
attribute [local irreducible] AWP retA
theorem valuesC_copy (G : List (Nat × List Value)) (t : Bool) (l : List V) (hl : l.length ≤ 1048576) : Con Go.Proofs.Tryd.prog G 9 [.ro t 3 (l.map eV)] [] 0 (Is (.ro true 3 (l.map eV)) [] 0) No := by
  refine con_of_awp Go.Proofs.Tryd.func9 rfl (by kernel_rfl) (of_decide_eq_true (by kernel_rfl)) ?_; intro E hG hE; subst hG; simp only [ent]
  (repeat' (first | refine awp_seq ?_ | refine awp_block ?_ | refine awp_skip ?_ | refine awp_exit ?_ | ((first | refine rR (fun K kp hK hkp => ?_) | refine iG ?_); simp (implicitDefEqProofs := false) (maxSteps := 2000000) (disch := omega) only [go_sem]; (repeat' (first | (refine hK _ ?_; clear hK hkp kp K) | (with_reducible refine And.intro ?_ ?_) | omega))) | ((first | refine aG (fun h => ?_) (fun h => ?_) | refine aD (fun h => ?_) (fun h => ?_) | refine aX (fun h => ?_) (fun h => ?_)) <;> simp only [h]) | refine awp_cond_t rfl ?_ | refine awp_cond_f rfl ?_ | ((refine awp_cond rfl (fun h => ?_) (fun h => ?_) <;> try simp only [ifs] at h) <;> (try (exfalso; omega))) | refine awp_ret ?_))
  (refine retA_is (by (simp (implicitDefEqProofs := false) (maxSteps := 2000000) (disch := omega) only [go_sem, Go.Proofs.Tryd.results9]); rfl) ?_; refine embS_frz (by simp only [oneA]; simp (implicitDefEqProofs := false) (maxSteps := 2000000) (disch := omega) only [go_sem]; rfl) ?_; refine (embV_nil hE (by simp) ?_).s; simp [oneA, ren, renL])
theorem sameV_self : ∀ l : List V, sameVs l l = true
  | [] => rfl
  | x :: r => by rw [sameVs, sameV_self r]; simp [sameV]
set_option maxRecDepth 100000 in
theorem sameValuesC_con (G : List (Nat × List Value)) (t u : Bool) (a b : List V) (ha : a.length ≤ 1048576) (hb : b.length ≤ 1048576) : Con Go.Proofs.Tryd.prog G 12 [.ro t 3 (a.map eV), .ro u 3 (b.map eV)] [] 0 (Is (.r (.bool (sameVs a b))) [] 0) No := by
  refine con_of_awp Go.Proofs.Tryd.func12 rfl (by kernel_rfl) (of_decide_eq_true (by kernel_rfl)) ?_; intro E hG hE; subst hG; simp only [ent]
  (repeat' (first | refine awp_seq ?_ | refine awp_block ?_ | refine awp_skip ?_ | refine awp_exit ?_ | ((first | refine rR (fun K kp hK hkp => ?_) | refine rD (id := 6) mixed 9 [0,1,2,3,4,5,6,7,8] (fun K kp hK hkp => ?_) | refine iG ?_ | refine iD ?_); simp (implicitDefEqProofs := false) (maxSteps := 2000000) (disch := omega) only [go_sem]; (repeat' (first | (refine hK _ ?_; clear hK hkp kp K) | (with_reducible refine And.intro ?_ ?_) | omega))) | ((first | refine aG (fun h => ?_) (fun h => ?_) | refine aD (fun h => ?_) (fun h => ?_) | refine aX (fun h => ?_) (fun h => ?_)) <;> simp only [h]) | refine awp_cond_t rfl ?_ | refine awp_cond_f rfl ?_ | ((refine awp_cond rfl (fun h => ?_) (fun h => ?_) <;> try simp only [ifs] at h) <;> (try (exfalso; omega))) | refine awp_ret ?_))
  · (refine retA_is (by (simp (implicitDefEqProofs := false) (maxSteps := 2000000) (disch := omega) only [go_sem, Go.Proofs.Tryd.results12]); rfl) ?_; refine eN hE ?_; simp [oneA, ren, renL])
    cases hs : sameVs a b
    · rfl
    · exact (h (by rw [sameVs_len hs])).elim
  have hab : a.length = b.length := by omega
  refine awp_loop (fun k : Nat => ⟨[(5, .r (.int .i64 k)), (0, .ro t 3 (a.map eV)), (1, .ro u 3 (b.map eV))], [], 0⟩) (fun k => k ≤ a.length ∧ sameVs (a.drop k) (b.drop k) = sameVs a b) (fun k => a.length - k) 0 ?_ ?_ ?_
  · simp
  · (refine emb [] ?_ ?_ rfl ?_ ?_ ?_ ?_ <;> simp [okM, okO, lk, ren, renL, renNd, by_, hE] <;> (try omega))
  intro k ⟨hk, hno⟩
  by_cases hk' : k < a.length
  · obtain ⟨x, hx⟩ : ∃ x, a[k]? = some x := ⟨a[k], by simp [hk']⟩
    obtain ⟨y, hy⟩ : ∃ x, b[k]? = some x := ⟨b[k]'(by omega), by simp⟩
    rw [drop_at hx, drop_at hy, sameVs] at hno
    (repeat' (first | refine awp_seq ?_ | refine awp_block ?_ | refine awp_skip ?_ | refine awp_exit ?_ | ((first | refine rR (fun K kp hK hkp => ?_) | refine rD (id := 6) mixed 9 [0,1,2,3,4,5,6,7,8] (fun K kp hK hkp => ?_) | refine iG ?_ | refine iD ?_); simp (implicitDefEqProofs := false) (maxSteps := 2000000) (disch := omega) only [go_sem, hx, hy, eV]; (repeat' (first | (refine hK _ ?_; clear hK hkp kp K) | (with_reducible refine And.intro ?_ ?_) | omega))) | ((first | refine aG (fun h => ?_) (fun h => ?_) | refine aD (fun h => ?_) (fun h => ?_) | refine aX (fun h => ?_) (fun h => ?_)) <;> simp only [h]) | refine awp_cond_t rfl ?_ | refine awp_cond_f rfl ?_ | ((refine awp_cond rfl (fun h => ?_) (fun h => ?_) <;> try simp only [ifs] at h) <;> (try (exfalso; omega))) | refine awp_ret ?_))
    · (refine retA_is (by (simp (implicitDefEqProofs := false) (maxSteps := 2000000) (disch := omega) only [go_sem, Go.Proofs.Tryd.results12]); rfl) ?_; refine eN hE ?_; simp [oneA, ren, renL])
      rw [← hno]
      have h : sameV x y = false := Bool.eq_false_iff.2 (fun hh => by rw [sameV] at hh; rw [hh] at h; cases h)
      rw [h]; rfl
    · ((first | (refine nextB (k + 1) ?_ ?_ ?_) | (refine nextA (k + 1) ?_ ?_ ?_)); rotate_left; (· (try dsimp only); (first | omega | (simp only [List.length_drop, List.length_cons, List.length_append]; omega) | (simp; done) | (simp; omega))); (· (refine emb [] ?_ ?_ rfl ?_ ?_ ?_ ?_ <;> simp [okM, okO, lk, ren, renL, renNd, by_, hE] <;> (try omega))))
      have h : sameV x y = true := by
        rw [sameV]
        cases hh : (x.k == y.k && (x.n == y.n && x.s.toList == y.s.toList))
        · rw [hh] at h; cases h
        · rfl
      rw [h] at hno
      exact ⟨by omega, by simpa using hno⟩
  · (repeat' (first | refine awp_seq ?_ | refine awp_block ?_ | refine awp_skip ?_ | refine awp_exit ?_ | ((first | refine rR (fun K kp hK hkp => ?_) | refine rD (id := 6) mixed 9 [0,1,2,3,4,5,6,7,8] (fun K kp hK hkp => ?_) | refine iG ?_ | refine iD ?_); simp (implicitDefEqProofs := false) (maxSteps := 2000000) (disch := omega) only [go_sem]; (repeat' (first | (refine hK _ ?_; clear hK hkp kp K) | (with_reducible refine And.intro ?_ ?_) | omega))) | ((first | refine aG (fun h => ?_) (fun h => ?_) | refine aD (fun h => ?_) (fun h => ?_) | refine aX (fun h => ?_) (fun h => ?_)) <;> simp only [h]) | refine awp_cond_t rfl ?_ | refine awp_cond_f rfl ?_ | ((refine awp_cond rfl (fun h => ?_) (fun h => ?_) <;> try simp only [ifs] at h) <;> (try (exfalso; omega))) | refine awp_ret ?_))
    (refine retA_is (by (simp (implicitDefEqProofs := false) (maxSteps := 2000000) (disch := omega) only [go_sem, Go.Proofs.Tryd.results12]); rfl) ?_; refine eN hE ?_; simp [oneA, ren, renL])
    rw [← hno, List.drop_of_length_le (by omega), List.drop_of_length_le (by omega)]; rfl
theorem unb_nil : unb [] = some [] := rfl
set_option maxRecDepth 100000 in
theorem lawEncodes_con {G : List (Nat × List Value)} (HR : RepCon G) (l : List V) (hl : l.length ≤ 1048576) (hg : ∀ v ∈ l, gV v) : Con Go.Proofs.Tryd.prog G 3 [.ro true 3 (l.map eV)] [] 0 (Is (.r (.bool true)) [] 0) No := by
  refine con_of_awp Go.Proofs.Tryd.func3 rfl (by kernel_rfl) (of_decide_eq_true (by kernel_rfl)) ?_; intro E hG hE; subst hG; simp only [ent]
  have pc := encode_con HR true l hl hg
  have rc := keyBytes_con E.G true l hl hg
  have sc := sameValuesC_con E.G true true l l hl hl
  rw [sameV_self] at sc
  cases hm : encM l with
  | error e =>
    rw [hm] at pc rc; simp only [encA] at pc rc
    (repeat' (first | refine awp_seq ?_ | refine awp_block ?_ | refine awp_skip ?_ | refine awp_exit ?_ | ((first | refine rR (fun K kp hK hkp => ?_) | refine cR (valuesC_copy _ _ _ hl) ?_ | refine cR pc ?_ | refine cR rc ?_ | refine cR sc ?_ | refine iG ?_); simp (implicitDefEqProofs := false) (maxSteps := 2000000) (disch := omega) only [go_sem, beq_self_eq_true, unb_nil]; (repeat' (first | (refine hK _ ?_; clear hK hkp kp K) | (with_reducible refine And.intro ?_ ?_) | omega))) | ((first | refine aG (fun h => ?_) (fun h => ?_) | refine aD (fun h => ?_) (fun h => ?_) | refine aX (fun h => ?_) (fun h => ?_)) <;> simp only [h]) | refine awp_cond_t rfl ?_ | refine awp_cond_f rfl ?_ | ((refine awp_cond rfl (fun h => ?_) (fun h => ?_) <;> try simp only [ifs] at h) <;> (try (exfalso; omega))) | refine awp_ret ?_))
    (refine retA_is (by (simp (implicitDefEqProofs := false) (maxSteps := 2000000) (disch := omega) only [go_sem, Go.Proofs.Tryd.results3]); rfl) ?_; refine eN hE ?_; simp [oneA, ren, renL])
  | ok b =>
    rw [hm] at pc rc; simp only [encA] at pc rc
    (repeat' (first | refine awp_seq ?_ | refine awp_block ?_ | refine awp_skip ?_ | refine awp_exit ?_ | ((first | refine rR (fun K kp hK hkp => ?_) | refine cR (valuesC_copy _ _ _ hl) ?_ | refine cR pc ?_ | refine cR rc ?_ | refine cR sc ?_ | refine iG ?_); simp (implicitDefEqProofs := false) (maxSteps := 2000000) (disch := omega) only [go_sem, unb_map, beq_self_eq_true, unb_nil]; (repeat' (first | (refine hK _ ?_; clear hK hkp kp K) | (with_reducible refine And.intro ?_ ?_) | omega))) | ((first | refine aG (fun h => ?_) (fun h => ?_) | refine aD (fun h => ?_) (fun h => ?_) | refine aX (fun h => ?_) (fun h => ?_)) <;> simp only [h]) | refine awp_cond_t rfl ?_ | refine awp_cond_f rfl ?_ | ((refine awp_cond rfl (fun h => ?_) (fun h => ?_) <;> try simp only [ifs] at h) <;> (try (exfalso; omega))) | refine awp_ret ?_))
    (refine retA_is (by (simp (implicitDefEqProofs := false) (maxSteps := 2000000) (disch := omega) only [go_sem, Go.Proofs.Tryd.results3]); rfl) ?_; refine eN hE ?_; simp [oneA, ren, renL])
end Go.AM
/- strings.ReplaceAll at this program (laid by the shelf's tool). -/
namespace Go.Proofs.YteebiklebedneaaDoor
open Go.Shelf
def Sh.lays155_ren : Go.Shelf.Ren := ⟨fun | 155 => 30 | 154 => 62 | 138 => 91 | 165 => 92 | 143 => 93 | 166 => 34 | 197 => 94 | 169 => 38 | 195 => 117 | 218 => 118 | 240 => 67 | 241 => 119 | 219 => 120 | 260 => 121 | 276 => 96 | 277 => 138 | 217 => 139 | 225 => 140 | 224 => 141 | 267 => 142 | 266 => 151 | 314 => 152 | n => n, fun | 9 => 9 | 3 => 3 | 4 => 4 | 72 => 64 | 0 => 0 | 76 => 70 | 105 => 123 | 21 => 21 | 5 => 5 | 70 => 62 | 20 => 20 | 37 => 24 | 75 => 69 | 127 => 104 | 164 => 126 | 46 => 120 | 119 => 162 | 139 => 165 | 138 => 164 | 146 => 178 | 51 => 141 | 80 => 75 | n => n, fun | 1 => 3 | 3 => 4 | 4 => 5 | n => n⟩
theorem Sh.lays155 : Go.Proofs.Lays.n155 Tryd.prog Sh.lays155_ren := {
  mixed := by kernel_rfl
  f138 := Tryd.func91.trans (congrArg some (by kernel_rfl))
  f143 := Tryd.func93.trans (congrArg some (by kernel_rfl))
  f154 := Tryd.func62.trans (congrArg some (by kernel_rfl))
  f155 := Tryd.func30.trans (congrArg some (by kernel_rfl))
  f165 := Tryd.func92.trans (congrArg some (by kernel_rfl))
  f166 := Tryd.func34.trans (congrArg some (by kernel_rfl))
  f169 := Tryd.func38.trans (congrArg some (by kernel_rfl))
  f195 := Tryd.func117.trans (congrArg some (by kernel_rfl))
  f197 := Tryd.func94.trans (congrArg some (by kernel_rfl))
  f217 := Tryd.func139.trans (congrArg some (by kernel_rfl))
  f218 := Tryd.func118.trans (congrArg some (by kernel_rfl))
  f219 := Tryd.func120.trans (congrArg some (by kernel_rfl))
  f224 := Tryd.func141.trans (congrArg some (by kernel_rfl))
  f225 := Tryd.func140.trans (congrArg some (by kernel_rfl))
  f240 := Tryd.func67.trans (congrArg some (by kernel_rfl))
  f241 := Tryd.func119.trans (congrArg some (by kernel_rfl))
  f260 := Tryd.func121.trans (congrArg some (by kernel_rfl))
  f266 := Tryd.func151.trans (congrArg some (by kernel_rfl))
  f267 := Tryd.func142.trans (congrArg some (by kernel_rfl))
  f276 := Tryd.func96.trans (congrArg some (by kernel_rfl))
  f277 := Tryd.func138.trans (congrArg some (by kernel_rfl))
  f314 := Tryd.func152.trans (congrArg some (by kernel_rfl))
  t0 := Tryd.underlying0
  a0 := Tryd.isAgg0
  z0 := Tryd.sizeOf0
  v0 := Tryd.zeroValue0
  t3 := Tryd.underlying3
  a3 := Tryd.isAgg3
  z3 := Tryd.sizeOf3
  v3 := Tryd.zeroValue3
  t4 := Tryd.underlying4
  a4 := Tryd.isAgg4
  z4 := Tryd.sizeOf4
  v4 := Tryd.zeroValue4
  t5 := Tryd.underlying5
  a5 := Tryd.isAgg5
  z5 := Tryd.sizeOf5
  v5 := Tryd.zeroValue5
  t9 := Tryd.underlying9
  a9 := Tryd.isAgg9
  z9 := Tryd.sizeOf9
  v9 := Tryd.zeroValue9
  t20 := Tryd.underlying20
  a20 := Tryd.isAgg20
  z20 := Tryd.sizeOf20
  v20 := Tryd.zeroValue20
  t21 := Tryd.underlying21
  a21 := Tryd.isAgg21
  z21 := Tryd.sizeOf21
  v21 := Tryd.zeroValue21
  t37 := Tryd.underlying24
  a37 := Tryd.isAgg24
  z37 := Tryd.sizeOf24
  v37 := Tryd.zeroValue24
  t46 := Tryd.underlying120
  a46 := Tryd.isAgg120
  z46 := Tryd.sizeOf120
  v46 := Tryd.zeroValue120
  t51 := Tryd.underlying141
  a51 := Tryd.isAgg141
  z51 := Tryd.sizeOf141
  v51 := Tryd.zeroValue141
  t70 := Tryd.underlying62
  a70 := Tryd.isAgg62
  z70 := Tryd.sizeOf62
  v70 := Tryd.zeroValue62
  t72 := Tryd.underlying64
  a72 := Tryd.isAgg64
  z72 := Tryd.sizeOf64
  v72 := Tryd.zeroValue64
  t75 := Tryd.underlying69
  a75 := Tryd.isAgg69
  z75 := Tryd.sizeOf69
  v75 := Tryd.zeroValue69
  t76 := Tryd.underlying70
  a76 := Tryd.isAgg70
  z76 := Tryd.sizeOf70
  v76 := Tryd.zeroValue70
  t105 := Tryd.underlying123
  a105 := Tryd.isAgg123
  z105 := Tryd.sizeOf123
  v105 := Tryd.zeroValue123
  t119 := Tryd.underlying162
  a119 := Tryd.isAgg162
  z119 := Tryd.sizeOf162
  t127 := Tryd.underlying104
  a127 := Tryd.isAgg104
  z127 := Tryd.sizeOf104
  v127 := Tryd.zeroValue104
  t138 := Tryd.underlying164
  a138 := Tryd.isAgg164
  z138 := Tryd.sizeOf164
  v138 := Tryd.zeroValue164
  t139 := Tryd.underlying165
  a139 := Tryd.isAgg165
  z139 := Tryd.sizeOf165
  v139 := Tryd.zeroValue165
  t146 := Tryd.underlying178
  a146 := Tryd.isAgg178
  z146 := Tryd.sizeOf178
  v146 := Tryd.zeroValue178
  t164 := Tryd.underlying126
  a164 := Tryd.isAgg126
  z164 := Tryd.sizeOf126
  v164 := Tryd.zeroValue126
  g1 := by kernel_rfl
  g3 := by kernel_rfl
  g4 := by kernel_rfl }
theorem Sh.Builder_Extra_155 : Builder.Extra Tryd.prog Sh.lays155_ren := {
  sizeBuilder := by kernel_rfl
  liesBuilder := by kernel_rfl
  t5 := Tryd.underlying5
  a5 := Tryd.isAgg5
  z5 := Tryd.sizeOf5
  v5 := Tryd.zeroValue5
  infoByte := by kernel_rfl
  cellsByte := by kernel_rfl
  sizeByte := by kernel_rfl
  neB5 := by decide }
open Go.RowKit Go.Lib in
theorem Sh.strings_ReplaceAll (s old new : ByteArray) (m : Int) (w : World) (hs : s.size < 4294967281) (hm : w.cell? ⟨3, 0, none⟩ = some (.int .i64 m)) (h1 : 1 ≤ old.size) (hlen : s.size + Lib.countB s old * new.size ≤ 140737488355328) :
    Calls Tryd.prog 30 #[.string s, .string old, .string new] w fun e w' =>
      e = .returned (.string ⟨(Lib.replaceAll s.data.toList old.data.toList new.data.toList).toArray⟩) ∧ Below w.heap.size w w' := Any.strings_ReplaceAll Sh.lays155 Sh.Builder_Extra_155 s old new m w hs hm h1 hlen
end Go.Proofs.YteebiklebedneaaDoor
/- The codec: strings.ReplaceAll of a byte. -/
namespace Go.AM
open Go Go.RowKit
attribute [local irreducible] AWP retA
theorem rep_of {G : List (Nat × List Value)} {m : Int} (hm : (3, [Value.int .i64 m]) ∈ G) (c : UInt8) (new : List UInt8) (hn : ([c] == new) = false) (hl : new.length ≤ 2) (s : ByteArray) (hs : s.size ≤ 400) :
    Con Go.Proofs.Tryd.prog G 30 [.r (.string s), .r (.string ⟨#[c]⟩), .r (.string ⟨new.toArray⟩)] [] 0 (Is (.r (.string ⟨(repM c new s.data.toList).toArray⟩)) [] 0) No :=
  con_of_calls (by kernel_rfl) (fun w z vs hz hr hG => by
    obtain ⟨v, r, rfl, h1, h2⟩ := hr.head
    obtain ⟨v2, r2, rfl, h3, h4⟩ := h2.head
    obtain ⟨v3, r3, rfl, h5, h6⟩ := h4.head
    obtain rfl := h1.r_inv
    obtain rfl := h3.r_inv
    obtain rfl := h5.r_inv
    obtain rfl := h6.of_nil
    have hc : w.cell? ⟨3, 0, none⟩ = some (.int .i64 m) := (hG _ _ hm).2 0 _ rfl
    have hle : Lib.countB s ⟨#[c]⟩ ≤ s.size + 1 := by
      have := Lib.count_le s.data.toList [c]
      rw [ba_len]; exact this
    have key := Go.Proofs.YteebiklebedneaaDoor.Sh.strings_ReplaceAll s ⟨#[c]⟩ ⟨new.toArray⟩ m w (by omega) hc (Nat.le_refl 1) (by
      have e : (⟨new.toArray⟩ : ByteArray).size = new.length := by rw [ba_len]
      rw [e]
      have : Lib.countB s ⟨#[c]⟩ * new.length ≤ 401 * 2 := Nat.mul_le_mul (by omega) hl
      omega)
    have e : Lib.replaceAll s.data.toList [c] new = repM c new s.data.toList := replaceAll_one c new _ hn
    have key2 : Calls Go.Proofs.Tryd.prog 30 #[.string s, .string ⟨#[c]⟩, .string ⟨new.toArray⟩] w fun e w' => e = .returned (.string ⟨(repM c new s.data.toList).toArray⟩) ∧ Below w.heap.size w w' := by
      rw [← e]; exact key
    exact key2)
theorem repCon_of {G : List (Nat × List Value)} {m : Int} (hm : (3, [Value.int .i64 m]) ∈ G) : RepCon G := fun s hs => rep_of hm 0 [0, 255] (by decide) (by simp) s hs
end Go.AM
/- How arguments that came in read: lemmas out of the kit's readings, in the walks' own terms. -/
namespace Go.Proofs.YteebiklebedneaaDoor
open Go.ChangeShapes Go.WideShapes Go.ChangeAt Go.RowKit
theorem own : ownKnob Tryd.prog.godebug = none := by kernel_rfl
theorem laidOut : laidOutB Tryd.prog = true := by kernel_rfl
theorem cellsValue : Tryd.prog.cellsOf 57 = 3 := by kernel_rfl
set_option maxRecDepth 100000 in
/-- A struct api.Value that came in: its three fields. -/
theorem open_value {H : Type} {enc : TypeId × Value → H} {w : World} {base : Nat} {spare : Nat → Bool} {held : Bool} {b0 : Nat} {v : Value} {d : DataW H} {p : List MemPlace}
    (hv : Value.okWide Tryd.prog w .any b0 57 v) (h : DataW.Trod enc Tryd.prog w base spare held 57 v d p) :
    ∃ (k n : Int) (s : ByteArray), v = .agg #[.int .i64 k, .int .i64 n, .string s] ∧ (Lit.int .i64 k).wf = true ∧ (Lit.int .i64 n).wf = true ∧ s.size ≤ maxLen := by
  obtain ⟨c0, c1, c2, y0, y1, y2, m, rfl, _, _, h0, h1, h2⟩ := Joins.open_agg3 Tryd.underlying57 (by kernel_rfl) cellsValue hv h
  obtain ⟨k, e0, _, w0⟩ := DataW.trod_int Tryd.underlying3 h0
  obtain ⟨n, e1, _, w1⟩ := DataW.trod_int Tryd.underlying3 h1
  obtain ⟨s, e2, _, w2⟩ := DataW.trod_string Tryd.underlying9 h2
  simp at e0 e1 e2
  subst e0 e1 e2
  exact ⟨k, n, s, rfl, w0, w1, w2⟩
set_option maxRecDepth 100000 in
theorem open_i64 {H : Type} {enc : TypeId × Value → H} {w : World} {base : Nat} {spare : Nat → Bool} {held : Bool} {b0 : Nat} {v : Value} {d : DataW H} {p : List MemPlace}
    (hv : Value.okWide Tryd.prog w .any b0 3 v) (h : DataW.Trod enc Tryd.prog w base spare held 3 v d p) : ∃ n : Int, v = .int .i64 n ∧ (Lit.int .i64 n).wf = true := by
  obtain ⟨n, rfl, _, _, w0⟩ := open_int Tryd.underlying3 hv h
  exact ⟨n, rfl, w0⟩
theorem i64_bd {n : Int} (h : (Lit.int .i64 n).wf = true) : -9223372036854775808 ≤ n ∧ n ≤ 9223372036854775807 := by
  simp [Lit.wf, IntKind.min, IntKind.max, IntKind.signed, IntKind.bits] at h
  omega
end Go.Proofs.YteebiklebedneaaDoor
/- How bytes that came in read; bulk. -/
namespace Go.Proofs.YteebiklebedneaaDoor
open Go.ChangeShapes Go.WideShapes Go.ChangeAt Go.RowKit Go.AM
theorem bulk_one {H : Type} (d : DataW H) : 1 ≤ Rows.uptoBulk d := by
  cases d with
  | lit l => cases l <;> simp [Rows.uptoBulk]
  | nil => simp [Rows.uptoBulk]
  | ptr d => simp [Rows.uptoBulk]
  | slice elems spare => simp [Rows.uptoBulk]
  | agg parts => simp [Rows.uptoBulk]
  | iface t d => simp [Rows.uptoBulk]
  | map entries => simp [Rows.uptoBulk]
  | held h => simp [Rows.uptoBulk]
theorem bulk_length {H : Type} : ∀ l : List (DataW H), l.length ≤ Rows.uptoBulkAll l
  | [] => by simp [Rows.uptoBulkAll]
  | x :: r => by have := bulk_one x; have := bulk_length r; simp only [Rows.uptoBulkAll, List.length_cons]; omega
theorem bulk_slice {H : Type} (ds rest : List (DataW H)) : ds.length + 1 ≤ Rows.uptoBulk (.slice ds rest) := by
  have := bulk_length ds
  simp only [Rows.uptoBulk]; omega
theorem bulk_bound {H : Type} {l : List (DataW H)} (hk : Rows.uptoSmall H l = true) : Rows.uptoBulkAll l ≤ 1048576 := of_decide_eq_true hk
theorem bulk_of {H α : Type} {l : List α} {R : α → DataW H → Prop} {d : DataW H} (h : (l = [] ∧ d = .nil) ∨ ∃ ds rest, d = .slice ds rest ∧ ds.length = l.length ∧ ∀ (i : Nat) y, l[i]? = some y → ∃ d, ds[i]? = some d ∧ R y d) : l.length ≤ Rows.uptoBulk d := by
  rcases h with ⟨rfl, _⟩ | ⟨ds, rest, rfl, h, _⟩
  · exact Nat.zero_le _
  · have := bulk_slice ds rest; omega
end Go.Proofs.YteebiklebedneaaDoor
/- How values that came in read. -/
namespace Go.Proofs.YteebiklebedneaaDoor
open Go.ChangeShapes Go.WideShapes Go.ChangeAt Go.RowKit Go.AM
theorem cellsVal : Tryd.prog.cellsOf 57 = 3 := by kernel_rfl
set_option maxRecDepth 100000 in
theorem leaf_val {H : Type} {E : TypeId × Value → H} {w : World} {base : Nat} {spare : Nat → Bool} {held : Bool} (fuel : Nat) (cs : List Value) (x : DataW H × List MemPlace)
    (h : DataW.trod E Tryd.prog w base spare held fuel 57 cs = some x) : ∃ y : V, Reps w (zAll w) [] (eV y) cs ∧ (∀ v ∈ cs, v.oneCell' = true) ∧ y.s.size ≤ maxLen := by
  obtain ⟨y0, y1, y2, n, _, hl, h0, h1, h2⟩ := Deep.trod_struct3 Tryd.underlying57 h
  rw [cellsVal] at hl
  obtain ⟨c0, c1, c2, rfl⟩ : ∃ a b c, cs = [a, b, c] := by
    match cs, hl with
    | [a, b, c], _ => exact ⟨a, b, c, rfl⟩
  obtain ⟨k, e0, _, _⟩ := DataW.trod_int Tryd.underlying3 h0
  obtain ⟨m, e1, _, _⟩ := DataW.trod_int Tryd.underlying3 h1
  obtain ⟨s, e2, _, w0⟩ := DataW.trod_string Tryd.underlying9 h2
  rw [show Tryd.prog.cellsOf 3 = 1 by kernel_rfl] at e0 e1
  rw [show Tryd.prog.cellsOf 9 = 1 by kernel_rfl] at e2
  simp at e0 e1 e2
  subst e0 e1 e2
  exact ⟨⟨k, m, s⟩, .cons (.r _ _) (.cons (.r _ _) (.cons (.r _ _) .nil)), by simp [Value.oneCell'], w0⟩
set_option maxRecDepth 100000 in
/-- Values that came in. -/
theorem open_values {H : Type} {E : TypeId × Value → H} {w : World} {base : Nat} {spare : Nat → Bool} {held : Bool} {b0 : Nat} {v : Value} {d : DataW H} {p : List MemPlace}
    (hv : Value.okWide Tryd.prog w .any b0 22 v) (h : DataW.Trod E Tryd.prog w base spare held 22 v d p) :
    ∃ l : List V, Rep w (zAll w) [] (.ro true 3 (l.map eV)) v ∧ l.length ≤ Rows.uptoBulk d ∧ ∀ c ∈ l, c.s.size ≤ maxLen := by
  obtain ⟨f, hf⟩ := h
  obtain ⟨u, l, h1, h2, _, h3⟩ := open_ro eV (fun y _ => y.s.size ≤ maxLen) true Tryd.underlying22 cellsVal (by omega) leaf_val hf
  obtain ⟨a', n', c', rfl⟩ := okWide_slice Tryd.underlying22 hv
  obtain rfl : Value.slice a' n' c' = u := List.head_eq_of_cons_eq (show [Value.slice a' n' c'] = [u] from h1)
  refine ⟨l, h2, bulk_of h3, fun c hc => ?_⟩
  obtain ⟨i, hi⟩ := List.mem_iff_getElem?.1 hc
  rcases h3 with ⟨rfl, _⟩ | ⟨ds, rest, _, _, h6⟩
  · simp at hi
  · exact (h6 i c hi).choose_spec.2
end Go.Proofs.YteebiklebedneaaDoor
/- How values that came in read, with their bounds; what the library reads of its own. -/
namespace Go.Proofs.YteebiklebedneaaDoor
open Go.ChangeShapes Go.WideShapes Go.ChangeAt Go.RowKit Go.AM
theorem lit_in {n : Int} (h : (Lit.int .i64 n).wf = true) : inI n := by
  simp only [Lit.wf, Bool.and_eq_true, decide_eq_true_eq] at h
  exact ⟨h.1, h.2⟩
set_option maxRecDepth 100000 in
theorem leaf_valI {H : Type} {E : TypeId × Value → H} {w : World} {base : Nat} {spare : Nat → Bool} {held : Bool} (fuel : Nat) (cs : List Value) (x : DataW H × List MemPlace)
    (h : DataW.trod E Tryd.prog w base spare held fuel 57 cs = some x) : ∃ y : V, Reps w (zAll w) [] (eV y) cs ∧ (∀ v ∈ cs, v.oneCell' = true) ∧ gV y := by
  obtain ⟨y0, y1, y2, n, _, hl, h0, h1, h2⟩ := Deep.trod_struct3 Tryd.underlying57 h
  rw [cellsVal] at hl
  obtain ⟨c0, c1, c2, rfl⟩ : ∃ a b c, cs = [a, b, c] := by
    match cs, hl with
    | [a, b, c], _ => exact ⟨a, b, c, rfl⟩
  obtain ⟨k, e0, _, _⟩ := DataW.trod_int Tryd.underlying3 h0
  obtain ⟨m, e1, _, wm⟩ := DataW.trod_int Tryd.underlying3 h1
  obtain ⟨s, e2, _, w0⟩ := DataW.trod_string Tryd.underlying9 h2
  rw [show Tryd.prog.cellsOf 3 = 1 by kernel_rfl] at e0 e1
  rw [show Tryd.prog.cellsOf 9 = 1 by kernel_rfl] at e2
  simp at e0 e1 e2
  subst e0 e1 e2
  exact ⟨⟨k, m, s⟩, .cons (.r _ _) (.cons (.r _ _) (.cons (.r _ _) .nil)), by simp [Value.oneCell'], w0, lit_in wm⟩
set_option maxRecDepth 100000 in
/-- Values that came in. -/
theorem open_valuesI {H : Type} {E : TypeId × Value → H} {w : World} {base : Nat} {spare : Nat → Bool} {held : Bool} {b0 : Nat} {v : Value} {d : DataW H} {p : List MemPlace}
    (hv : Value.okWide Tryd.prog w .any b0 22 v) (h : DataW.Trod E Tryd.prog w base spare held 22 v d p) :
    ∃ l : List V, Rep w (zAll w) [] (.ro true 3 (l.map eV)) v ∧ l.length ≤ Rows.uptoBulk d ∧ ∀ c ∈ l, gV c := by
  obtain ⟨f, hf⟩ := h
  obtain ⟨u, l, h1, h2, _, h3⟩ := open_ro eV (fun y _ => gV y) true Tryd.underlying22 cellsVal (by omega) leaf_valI hf
  obtain ⟨a', n', c', rfl⟩ := okWide_slice Tryd.underlying22 hv
  obtain rfl : Value.slice a' n' c' = u := List.head_eq_of_cons_eq (show [Value.slice a' n' c'] = [u] from h1)
  refine ⟨l, h2, bulk_of h3, fun c hc => ?_⟩
  obtain ⟨i, hi⟩ := List.mem_iff_getElem?.1 hc
  rcases h3 with ⟨rfl, _⟩ | ⟨ds, rest, _, _, h6⟩
  · simp at hi
  · exact (h6 i c hi).choose_spec.2

set_option maxRecDepth 100000 in
theorem maxLen_any (W : World) (h : W.ShapedOpen Tryd.prog) : ∃ m, W.cell? ⟨3, 0, none⟩ = some (.int .i64 m) :=
  Go.Proofs.cell_of_shapedOpen_int (zero := #[.int .i64 0]) (t := 3) h (of_decide_eq_true (by kernel_rfl)) (by kernel_rfl) rfl (by kernel_rfl) (by kernel_rfl) Tryd.underlying3
theorem globs_max {W : World} {m : Int} (hm : W.cell? ⟨3, 0, none⟩ = some (.int .i64 m)) : Globs [(3, [.int .i64 m])] W := by
  intro g cs hg
  rw [List.mem_singleton] at hg
  cases hg
  refine ⟨World.block_lt_of_cell? _ _ hm, fun j u hu => ?_⟩
  cases j with
  | zero => simp at hu; subst hu; exact hm
  | succ j => simp at hu
end Go.Proofs.YteebiklebedneaaDoor
