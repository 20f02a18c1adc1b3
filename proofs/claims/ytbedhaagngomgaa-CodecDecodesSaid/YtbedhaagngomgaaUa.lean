/- The program's types, as a table. -/
import Derived.Test.YtbedhaagngomgaaProg
import Derived.Test.YtbedhaagngomgaaQr
set_option linter.unusedSimpArgs false
set_option linter.unusedVariables false
namespace Go.AM
open Go
theorem mixed : Go.Proofs.Try.prog.follows .mixedOrders = true := by kernel_rfl
@[go_sem] theorem ty_2 : tyOf Go.Proofs.Try.prog 2 = some ⟨.int .i64, 1, 8, some [.int .i64 0]⟩ := by kernel_rfl
@[go_sem] theorem ty_3 : tyOf Go.Proofs.Try.prog 3 = some ⟨.int .i64, 1, 8, some [.int .i64 0]⟩ := by kernel_rfl
@[go_sem] theorem ty_4 : tyOf Go.Proofs.Try.prog 4 = some ⟨.bool, 1, 1, some [.bool false]⟩ := by kernel_rfl
@[go_sem] theorem ty_5 : tyOf Go.Proofs.Try.prog 5 = some ⟨.int .u8, 1, 1, some [.int .u8 0]⟩ := by kernel_rfl
@[go_sem] theorem ty_6 : tyOf Go.Proofs.Try.prog 6 = some ⟨.int .u8, 1, 1, some [.int .u8 0]⟩ := by kernel_rfl
@[go_sem] theorem ty_7 : tyOf Go.Proofs.Try.prog 7 = some ⟨.struct [(0, 1), (1, 1), (2, 1), (3, 1)], 4, 24, some [.int .i64 0, .int .i64 0, .bool false, .int .u8 0]⟩ := by kernel_rfl
@[go_sem] theorem ty_8 : tyOf Go.Proofs.Try.prog 8 = some ⟨.struct [(0, 1), (1, 1), (2, 1), (3, 1)], 4, 24, some [.int .i64 0, .int .i64 0, .bool false, .int .u8 0]⟩ := by kernel_rfl
@[go_sem] theorem ty_9 : tyOf Go.Proofs.Try.prog 9 = some ⟨.str, 1, 16, some [.string ⟨#[]⟩]⟩ := by kernel_rfl
@[go_sem] theorem ty_10 : tyOf Go.Proofs.Try.prog 10 = some ⟨.str, 1, 16, some [.string ⟨#[]⟩]⟩ := by kernel_rfl
@[go_sem] theorem ty_11 : tyOf Go.Proofs.Try.prog 11 = some ⟨.str, 1, 16, some [.string ⟨#[]⟩]⟩ := by kernel_rfl
@[go_sem] theorem ty_12 : tyOf Go.Proofs.Try.prog 12 = some ⟨.int .u64, 1, 8, some [.int .u64 0]⟩ := by kernel_rfl
@[go_sem] theorem ty_13 : tyOf Go.Proofs.Try.prog 13 = some ⟨.struct [(0, 1), (1, 1)], 2, 24, some [.string ⟨#[]⟩, .int .u64 0]⟩ := by kernel_rfl
@[go_sem] theorem ty_14 : tyOf Go.Proofs.Try.prog 14 = some ⟨.struct [(0, 1), (1, 1)], 2, 24, some [.string ⟨#[]⟩, .int .u64 0]⟩ := by kernel_rfl
@[go_sem] theorem ty_15 : tyOf Go.Proofs.Try.prog 15 = some ⟨.ptr 67, 1, 8, some [.pointer none]⟩ := by kernel_rfl
@[go_sem] theorem ty_16 : tyOf Go.Proofs.Try.prog 16 = some ⟨.ptr 70, 1, 8, some [.pointer none]⟩ := by kernel_rfl
@[go_sem] theorem ty_17 : tyOf Go.Proofs.Try.prog 17 = some ⟨.ptr 80, 1, 8, some [.pointer none]⟩ := by kernel_rfl
@[go_sem] theorem ty_18 : tyOf Go.Proofs.Try.prog 18 = some ⟨.struct [(0, 1)], 1, 8, some [.pointer none]⟩ := by kernel_rfl
@[go_sem] theorem ty_19 : tyOf Go.Proofs.Try.prog 19 = some ⟨.struct [(0, 1)], 1, 8, some [.pointer none]⟩ := by kernel_rfl
@[go_sem] theorem ty_20 : tyOf Go.Proofs.Try.prog 20 = some ⟨.ifc, 1, 16, some [.nilIface]⟩ := by kernel_rfl
@[go_sem] theorem ty_21 : tyOf Go.Proofs.Try.prog 21 = some ⟨.int .i32, 1, 4, some [.int .i32 0]⟩ := by kernel_rfl
@[go_sem] theorem ty_22 : tyOf Go.Proofs.Try.prog 22 = some ⟨.int .i64, 1, 8, some [.int .i64 0]⟩ := by kernel_rfl
@[go_sem] theorem ty_23 : tyOf Go.Proofs.Try.prog 23 = some ⟨.slice 22, 1, 24, some [.slice none 0 0]⟩ := by kernel_rfl
@[go_sem] theorem ty_24 : tyOf Go.Proofs.Try.prog 24 = some ⟨.slice 3, 1, 24, some [.slice none 0 0]⟩ := by kernel_rfl
@[go_sem] theorem ty_26 : tyOf Go.Proofs.Try.prog 26 = some ⟨.struct [(0, 1), (1, 1), (2, 1)], 3, 32, some [.int .i64 0, .int .i64 0, .string ⟨#[]⟩]⟩ := by kernel_rfl
@[go_sem] theorem ty_27 : tyOf Go.Proofs.Try.prog 27 = some ⟨.struct [(0, 1), (1, 1), (2, 1)], 3, 32, some [.int .i64 0, .int .i64 0, .string ⟨#[]⟩]⟩ := by kernel_rfl
@[go_sem] theorem ty_38 : tyOf Go.Proofs.Try.prog 38 = some ⟨.slice 5, 1, 24, some [.slice none 0 0]⟩ := by kernel_rfl
@[go_sem] theorem ty_39 : tyOf Go.Proofs.Try.prog 39 = some ⟨.slice 27, 1, 24, some [.slice none 0 0]⟩ := by kernel_rfl
@[go_sem] theorem ty_50 : tyOf Go.Proofs.Try.prog 50 = some ⟨.arr 2 27, 6, 64, some [.int .i64 0, .int .i64 0, .string ⟨#[]⟩, .int .i64 0, .int .i64 0, .string ⟨#[]⟩]⟩ := by kernel_rfl
@[go_sem] theorem ty_59 : tyOf Go.Proofs.Try.prog 59 = some ⟨.arr 4 3, 4, 32, some [.int .i64 0, .int .i64 0, .int .i64 0, .int .i64 0]⟩ := by kernel_rfl
@[go_sem] theorem ty_60 : tyOf Go.Proofs.Try.prog 60 = some ⟨.int .u64, 1, 8, some [.int .u64 0]⟩ := by kernel_rfl
@[go_sem] theorem ty_61 : tyOf Go.Proofs.Try.prog 61 = some ⟨.int .u64, 1, 8, some [.int .u64 0]⟩ := by kernel_rfl
@[go_sem] theorem ty_66 : tyOf Go.Proofs.Try.prog 66 = some ⟨.struct [(0, 1), (1, 1), (2, 1), (3, 1)], 4, 40, some [.pointer none, .pointer none, .pointer none, .string ⟨#[]⟩]⟩ := by kernel_rfl
@[go_sem] theorem ty_67 : tyOf Go.Proofs.Try.prog 67 = some ⟨.struct [(0, 1), (1, 1), (2, 1), (3, 1)], 4, 40, some [.pointer none, .pointer none, .pointer none, .string ⟨#[]⟩]⟩ := by kernel_rfl
@[go_sem] theorem ty_68 : tyOf Go.Proofs.Try.prog 68 = some ⟨.arr 0 16, 0, 0, some []⟩ := by kernel_rfl
@[go_sem] theorem ty_69 : tyOf Go.Proofs.Try.prog 69 = some ⟨.struct [(0, 0)], 0, 0, some []⟩ := by kernel_rfl
@[go_sem] theorem ty_70 : tyOf Go.Proofs.Try.prog 70 = some ⟨.struct [(0, 0)], 0, 0, some []⟩ := by kernel_rfl
@[go_sem] theorem ty_72 : tyOf Go.Proofs.Try.prog 72 = some ⟨.int .u32, 1, 4, some [.int .u32 0]⟩ := by kernel_rfl
@[go_sem] theorem ty_73 : tyOf Go.Proofs.Try.prog 73 = some ⟨.int .u8, 1, 1, some [.int .u8 0]⟩ := by kernel_rfl
@[go_sem] theorem ty_74 : tyOf Go.Proofs.Try.prog 74 = some ⟨.int .u8, 1, 1, some [.int .u8 0]⟩ := by kernel_rfl
@[go_sem] theorem ty_76 : tyOf Go.Proofs.Try.prog 76 = some ⟨.ptr 5, 1, 8, some [.pointer none]⟩ := by kernel_rfl
@[go_sem] theorem ty_77 : tyOf Go.Proofs.Try.prog 77 = some ⟨.int .i32, 1, 4, some [.int .i32 0]⟩ := by kernel_rfl
@[go_sem] theorem ty_78 : tyOf Go.Proofs.Try.prog 78 = some ⟨.int .i32, 1, 4, some [.int .i32 0]⟩ := by kernel_rfl
@[go_sem] theorem ty_79 : tyOf Go.Proofs.Try.prog 79 = some ⟨.struct [(0, 1), (1, 1), (2, 1), (3, 1), (4, 1), (5, 1), (6, 1), (7, 1), (8, 1), (9, 1), (10, 1)], 11, 48, some [.int .u64 0, .int .u64 0, .int .u32 0, .int .u8 0, .int .u8 0, .int .u8 0, .int .u8 0, .nilFunc, .pointer none, .int .i32 0, .int .i32 0]⟩ := by kernel_rfl
@[go_sem] theorem ty_80 : tyOf Go.Proofs.Try.prog 80 = some ⟨.struct [(0, 1), (1, 1), (2, 1), (3, 1), (4, 1), (5, 1), (6, 1), (7, 1), (8, 1), (9, 1), (10, 1)], 11, 48, some [.int .u64 0, .int .u64 0, .int .u32 0, .int .u8 0, .int .u8 0, .int .u8 0, .int .u8 0, .nilFunc, .pointer none, .int .i32 0, .int .i32 0]⟩ := by kernel_rfl
@[go_sem] theorem et_7 : etTop Go.Proofs.Try.prog 7 = some (.str [(0, 1, .prim (.int .i64)), (1, 1, .prim (.int .i64)), (2, 1, .prim .bool), (3, 1, .prim (.int .u8))]) := by kernel_rfl
@[go_sem] theorem et_8 : etTop Go.Proofs.Try.prog 8 = some (.str [(0, 1, .prim (.int .i64)), (1, 1, .prim (.int .i64)), (2, 1, .prim .bool), (3, 1, .prim (.int .u8))]) := by kernel_rfl
@[go_sem] theorem et_26 : etTop Go.Proofs.Try.prog 26 = some (.str [(0, 1, .prim (.int .i64)), (1, 1, .prim (.int .i64)), (2, 1, .prim .str)]) := by kernel_rfl
@[go_sem] theorem et_27 : etTop Go.Proofs.Try.prog 27 = some (.str [(0, 1, .prim (.int .i64)), (1, 1, .prim (.int .i64)), (2, 1, .prim .str)]) := by kernel_rfl
end Go.AM
