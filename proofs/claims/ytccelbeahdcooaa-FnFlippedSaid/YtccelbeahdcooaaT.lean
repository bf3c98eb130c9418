/- The types' table of this translation, checked against it. -/
import Derived.Test.YtccelbeahdcooaaE35
import Derived.Test.YtccelbeahdcooaaProg
namespace Go.Proofs.Ytccelbeahdcooaa.Eng
open Go Go.RowKit
def tt : TT := fun t => match t with
  | 2 => some ⟨1, 8, false, .int .i64, [.int .i64 0], []⟩
  | 3 => some ⟨1, 8, false, .int .i64, [.int .i64 0], []⟩
  | 4 => some ⟨1, 1, false, .bool, [.bool false], []⟩
  | 5 => some ⟨1, 1, false, .int .u8, [.int .u8 0], []⟩
  | 6 => some ⟨1, 1, false, .int .u8, [.int .u8 0], []⟩
  | 9 => some ⟨1, 16, false, .string, [.string ⟨#[]⟩], []⟩
  | 10 => some ⟨1, 16, false, .string, [.string ⟨#[]⟩], []⟩
  | 11 => some ⟨1, 16, false, .string, [.string ⟨#[]⟩], []⟩
  | 12 => some ⟨1, 8, false, .int .u64, [.int .u64 0], []⟩
  | 15 => some ⟨1, 8, false, .pointer 189, [.pointer none], []⟩
  | 16 => some ⟨1, 8, false, .pointer 192, [.pointer none], []⟩
  | 17 => some ⟨1, 8, false, .pointer 200, [.pointer none], []⟩
  | 21 => some ⟨1, 4, false, .int .i32, [.int .i32 0], []⟩
  | 22 => some ⟨1, 24, false, .slice 122, [.slice none 0 0], []⟩
  | 23 => some ⟨3, 40, true, .struct #[{ name := "Kind", type := 3, offset := 0, embedded := false, tag := "", pkgPath := "", byteOffset := 0 }, { name := "Tx", type := 3, offset := 1, embedded := false, tag := "", pkgPath := "", byteOffset := 8 }, { name := "Ops", type := 22, offset := 2, embedded := false, tag := "", pkgPath := "", byteOffset := 16 }], [.int .i64 0, .int .i64 0, .slice none 0 0], []⟩
  | 24 => some ⟨3, 40, true, .struct #[{ name := "Kind", type := 3, offset := 0, embedded := false, tag := "", pkgPath := "", byteOffset := 0 }, { name := "Tx", type := 3, offset := 1, embedded := false, tag := "", pkgPath := "", byteOffset := 8 }, { name := "Ops", type := 22, offset := 2, embedded := false, tag := "", pkgPath := "", byteOffset := 16 }], [.int .i64 0, .int .i64 0, .slice none 0 0], []⟩
  | 26 => some ⟨1, 24, false, .slice 5, [.slice none 0 0], []⟩
  | 28 => some ⟨1, 24, false, .slice 124, [.slice none 0 0], []⟩
  | 29 => some ⟨3, 40, true, .struct #[{ name := "Kind", type := 3, offset := 0, embedded := false, tag := "", pkgPath := "", byteOffset := 0 }, { name := "Tx", type := 3, offset := 1, embedded := false, tag := "", pkgPath := "", byteOffset := 8 }, { name := "Ops", type := 28, offset := 2, embedded := false, tag := "", pkgPath := "", byteOffset := 16 }], [.int .i64 0, .int .i64 0, .slice none 0 0], []⟩
  | 30 => some ⟨3, 40, true, .struct #[{ name := "Kind", type := 3, offset := 0, embedded := false, tag := "", pkgPath := "", byteOffset := 0 }, { name := "Tx", type := 3, offset := 1, embedded := false, tag := "", pkgPath := "", byteOffset := 8 }, { name := "Ops", type := 28, offset := 2, embedded := false, tag := "", pkgPath := "", byteOffset := 16 }], [.int .i64 0, .int .i64 0, .slice none 0 0], []⟩
  | 42 => some ⟨1, 24, false, .slice 30, [.slice none 0 0], []⟩
  | 44 => some ⟨1, 24, false, .slice 3, [.slice none 0 0], []⟩
  | 48 => some ⟨1, 8, false, .int .u64, [.int .u64 0], []⟩
  | 54 => some ⟨1, 24, false, .slice 24, [.slice none 0 0], []⟩
  | 56 => some ⟨1, 24, false, .slice 110, [.slice none 0 0], []⟩
  | 64 => some ⟨1, 24, false, .slice 153, [.slice none 0 0], []⟩
  | 65 => some ⟨5, 88, true, .struct #[{ name := "Id", type := 3, offset := 0, embedded := false, tag := "", pkgPath := "", byteOffset := 0 }, { name := "Log", type := 54, offset := 1, embedded := false, tag := "", pkgPath := "", byteOffset := 8 }, { name := "Sure", type := 3, offset := 2, embedded := false, tag := "", pkgPath := "", byteOffset := 32 }, { name := "Map", type := 64, offset := 3, embedded := false, tag := "", pkgPath := "", byteOffset := 40 }, { name := "Held", type := 54, offset := 4, embedded := false, tag := "", pkgPath := "", byteOffset := 64 }], [.int .i64 0, .slice none 0 0, .int .i64 0, .slice none 0 0, .slice none 0 0], []⟩
  | 66 => some ⟨5, 88, true, .struct #[{ name := "Id", type := 3, offset := 0, embedded := false, tag := "", pkgPath := "", byteOffset := 0 }, { name := "Log", type := 54, offset := 1, embedded := false, tag := "", pkgPath := "", byteOffset := 8 }, { name := "Sure", type := 3, offset := 2, embedded := false, tag := "", pkgPath := "", byteOffset := 32 }, { name := "Map", type := 64, offset := 3, embedded := false, tag := "", pkgPath := "", byteOffset := 40 }, { name := "Held", type := 54, offset := 4, embedded := false, tag := "", pkgPath := "", byteOffset := 64 }], [.int .i64 0, .slice none 0 0, .int .i64 0, .slice none 0 0, .slice none 0 0], []⟩
  | 69 => some ⟨5, 88, true, .struct #[{ name := "Id", type := 3, offset := 0, embedded := false, tag := "", pkgPath := "", byteOffset := 0 }, { name := "Log", type := 42, offset := 1, embedded := false, tag := "", pkgPath := "", byteOffset := 8 }, { name := "Sure", type := 3, offset := 2, embedded := false, tag := "", pkgPath := "", byteOffset := 32 }, { name := "Map", type := 56, offset := 3, embedded := false, tag := "", pkgPath := "", byteOffset := 40 }, { name := "Held", type := 42, offset := 4, embedded := false, tag := "", pkgPath := "", byteOffset := 64 }], [.int .i64 0, .slice none 0 0, .int .i64 0, .slice none 0 0, .slice none 0 0], []⟩
  | 70 => some ⟨5, 88, true, .struct #[{ name := "Id", type := 3, offset := 0, embedded := false, tag := "", pkgPath := "", byteOffset := 0 }, { name := "Log", type := 42, offset := 1, embedded := false, tag := "", pkgPath := "", byteOffset := 8 }, { name := "Sure", type := 3, offset := 2, embedded := false, tag := "", pkgPath := "", byteOffset := 32 }, { name := "Map", type := 56, offset := 3, embedded := false, tag := "", pkgPath := "", byteOffset := 40 }, { name := "Held", type := 42, offset := 4, embedded := false, tag := "", pkgPath := "", byteOffset := 64 }], [.int .i64 0, .slice none 0 0, .int .i64 0, .slice none 0 0, .slice none 0 0], []⟩
  | 85 => some ⟨1, 8, false, .pointer 131, [.pointer none], []⟩
  | 93 => some ⟨3, 40, true, .struct #[{ name := "b", type := 26, offset := 0, embedded := false, tag := "", pkgPath := "loop.example/g00244/impl", byteOffset := 0 }, { name := "at", type := 3, offset := 1, embedded := false, tag := "", pkgPath := "loop.example/g00244/impl", byteOffset := 24 }, { name := "bad", type := 4, offset := 2, embedded := false, tag := "", pkgPath := "loop.example/g00244/impl", byteOffset := 32 }], [.slice none 0 0, .int .i64 0, .bool false], []⟩
  | 94 => some ⟨3, 40, true, .struct #[{ name := "b", type := 26, offset := 0, embedded := false, tag := "", pkgPath := "loop.example/g00244/impl", byteOffset := 0 }, { name := "at", type := 3, offset := 1, embedded := false, tag := "", pkgPath := "loop.example/g00244/impl", byteOffset := 24 }, { name := "bad", type := 4, offset := 2, embedded := false, tag := "", pkgPath := "loop.example/g00244/impl", byteOffset := 32 }], [.slice none 0 0, .int .i64 0, .bool false], []⟩
  | 101 => some ⟨1, 8, false, .pointer 103, [.pointer none], []⟩
  | 102 => some ⟨3, 72, true, .struct #[{ name := "m", type := 56, offset := 0, embedded := false, tag := "", pkgPath := "loop.example/g00244/spec", byteOffset := 0 }, { name := "held", type := 42, offset := 1, embedded := false, tag := "", pkgPath := "loop.example/g00244/spec", byteOffset := 24 }, { name := "seen", type := 44, offset := 2, embedded := false, tag := "", pkgPath := "loop.example/g00244/spec", byteOffset := 48 }], [.slice none 0 0, .slice none 0 0, .slice none 0 0], []⟩
  | 103 => some ⟨3, 72, true, .struct #[{ name := "m", type := 56, offset := 0, embedded := false, tag := "", pkgPath := "loop.example/g00244/spec", byteOffset := 0 }, { name := "held", type := 42, offset := 1, embedded := false, tag := "", pkgPath := "loop.example/g00244/spec", byteOffset := 24 }, { name := "seen", type := 44, offset := 2, embedded := false, tag := "", pkgPath := "loop.example/g00244/spec", byteOffset := 48 }], [.slice none 0 0, .slice none 0 0, .slice none 0 0], []⟩
  | 105 => some ⟨2, 48, true, .struct #[{ name := "pairs", type := 56, offset := 0, embedded := false, tag := "", pkgPath := "loop.example/g00244/impl", byteOffset := 0 }, { name := "held", type := 42, offset := 1, embedded := false, tag := "", pkgPath := "loop.example/g00244/impl", byteOffset := 24 }], [.slice none 0 0, .slice none 0 0], []⟩
  | 106 => some ⟨2, 48, true, .struct #[{ name := "pairs", type := 56, offset := 0, embedded := false, tag := "", pkgPath := "loop.example/g00244/impl", byteOffset := 0 }, { name := "held", type := 42, offset := 1, embedded := false, tag := "", pkgPath := "loop.example/g00244/impl", byteOffset := 24 }], [.slice none 0 0, .slice none 0 0], []⟩
  | 109 => some ⟨2, 32, true, .struct #[{ name := "Key", type := 9, offset := 0, embedded := false, tag := "", pkgPath := "", byteOffset := 0 }, { name := "Val", type := 9, offset := 1, embedded := false, tag := "", pkgPath := "", byteOffset := 16 }], [.string ⟨#[]⟩, .string ⟨#[]⟩], []⟩
  | 110 => some ⟨2, 32, true, .struct #[{ name := "Key", type := 9, offset := 0, embedded := false, tag := "", pkgPath := "", byteOffset := 0 }, { name := "Val", type := 9, offset := 1, embedded := false, tag := "", pkgPath := "", byteOffset := 16 }], [.string ⟨#[]⟩, .string ⟨#[]⟩], []⟩
  | 121 => some ⟨3, 40, true, .struct #[{ name := "Kind", type := 3, offset := 0, embedded := false, tag := "", pkgPath := "", byteOffset := 0 }, { name := "Key", type := 9, offset := 1, embedded := false, tag := "", pkgPath := "", byteOffset := 8 }, { name := "Val", type := 9, offset := 2, embedded := false, tag := "", pkgPath := "", byteOffset := 24 }], [.int .i64 0, .string ⟨#[]⟩, .string ⟨#[]⟩], []⟩
  | 122 => some ⟨3, 40, true, .struct #[{ name := "Kind", type := 3, offset := 0, embedded := false, tag := "", pkgPath := "", byteOffset := 0 }, { name := "Key", type := 9, offset := 1, embedded := false, tag := "", pkgPath := "", byteOffset := 8 }, { name := "Val", type := 9, offset := 2, embedded := false, tag := "", pkgPath := "", byteOffset := 24 }], [.int .i64 0, .string ⟨#[]⟩, .string ⟨#[]⟩], []⟩
  | 124 => some ⟨3, 40, true, .struct #[{ name := "Kind", type := 3, offset := 0, embedded := false, tag := "", pkgPath := "", byteOffset := 0 }, { name := "Key", type := 9, offset := 1, embedded := false, tag := "", pkgPath := "", byteOffset := 8 }, { name := "Val", type := 9, offset := 2, embedded := false, tag := "", pkgPath := "", byteOffset := 24 }], [.int .i64 0, .string ⟨#[]⟩, .string ⟨#[]⟩], []⟩
  | 130 => some ⟨3, 40, true, .struct #[{ name := "b", type := 26, offset := 0, embedded := false, tag := "", pkgPath := "loop.example/g00244/spec", byteOffset := 0 }, { name := "i", type := 3, offset := 1, embedded := false, tag := "", pkgPath := "loop.example/g00244/spec", byteOffset := 24 }, { name := "h", type := 3, offset := 2, embedded := false, tag := "", pkgPath := "loop.example/g00244/spec", byteOffset := 32 }], [.slice none 0 0, .int .i64 0, .int .i64 0], []⟩
  | 131 => some ⟨3, 40, true, .struct #[{ name := "b", type := 26, offset := 0, embedded := false, tag := "", pkgPath := "loop.example/g00244/spec", byteOffset := 0 }, { name := "i", type := 3, offset := 1, embedded := false, tag := "", pkgPath := "loop.example/g00244/spec", byteOffset := 24 }, { name := "h", type := 3, offset := 2, embedded := false, tag := "", pkgPath := "loop.example/g00244/spec", byteOffset := 32 }], [.slice none 0 0, .int .i64 0, .int .i64 0], []⟩
  | 134 => some ⟨1, 8, false, .pointer 94, [.pointer none], []⟩
  | 144 => some ⟨1, 8, false, .pointer 106, [.pointer none], []⟩
  | 148 => some ⟨1, 8, false, .pointer 70, [.pointer none], []⟩
  | 153 => some ⟨2, 32, true, .struct #[{ name := "Key", type := 9, offset := 0, embedded := false, tag := "", pkgPath := "", byteOffset := 0 }, { name := "Val", type := 9, offset := 1, embedded := false, tag := "", pkgPath := "", byteOffset := 16 }], [.string ⟨#[]⟩, .string ⟨#[]⟩], []⟩
  | 157 => some ⟨1, 4, false, .int .u32, [.int .u32 0], []⟩
  | 158 => some ⟨8, 32, true, .array 8 157, [.int .u32 0, .int .u32 0, .int .u32 0, .int .u32 0, .int .u32 0, .int .u32 0, .int .u32 0, .int .u32 0], []⟩
  | 159 => some ⟨1, 8, false, .pointer 176, [.pointer none], []⟩
  | 165 => some ⟨1, 8, false, .pointer 158, [.pointer none], []⟩
  | 176 => some ⟨64, 256, true, .array 64 157, (List.replicate 64 (.int .u32 0)), []⟩
  | 180 => some ⟨1, 24, false, .slice 9, [.slice none 0 0], []⟩
  | 190 => some ⟨0, 0, true, .array 0 16, [], []⟩
  | 193 => some ⟨1, 1, false, .int .u8, [.int .u8 0], []⟩
  | 194 => some ⟨1, 1, false, .int .u8, [.int .u8 0], []⟩
  | 196 => some ⟨1, 8, false, .pointer 5, [.pointer none], []⟩
  | 197 => some ⟨1, 4, false, .int .i32, [.int .i32 0], []⟩
  | 198 => some ⟨1, 4, false, .int .i32, [.int .i32 0], []⟩
  | 199 => some ⟨11, 48, true, .struct #[{ name := "Size_", type := 12, offset := 0, embedded := false, tag := "", pkgPath := "", byteOffset := 0 }, { name := "PtrBytes", type := 12, offset := 1, embedded := false, tag := "", pkgPath := "", byteOffset := 8 }, { name := "Hash", type := 157, offset := 2, embedded := false, tag := "", pkgPath := "", byteOffset := 16 }, { name := "TFlag", type := 193, offset := 3, embedded := false, tag := "", pkgPath := "", byteOffset := 20 }, { name := "Align_", type := 5, offset := 4, embedded := false, tag := "", pkgPath := "", byteOffset := 21 }, { name := "FieldAlign_", type := 5, offset := 5, embedded := false, tag := "", pkgPath := "", byteOffset := 22 }, { name := "Kind_", type := 194, offset := 6, embedded := false, tag := "", pkgPath := "", byteOffset := 23 }, { name := "Equal", type := 195, offset := 7, embedded := false, tag := "", pkgPath := "", byteOffset := 24 }, { name := "GCData", type := 196, offset := 8, embedded := false, tag := "", pkgPath := "", byteOffset := 32 }, { name := "Str", type := 197, offset := 9, embedded := false, tag := "", pkgPath := "", byteOffset := 40 }, { name := "PtrToThis", type := 198, offset := 10, embedded := false, tag := "", pkgPath := "", byteOffset := 44 }], [.int .u64 0, .int .u64 0, .int .u32 0, .int .u8 0, .int .u8 0, .int .u8 0, .int .u8 0, .nilFunc, .pointer none, .int .i32 0, .int .i32 0], []⟩
  | 200 => some ⟨11, 48, true, .struct #[{ name := "Size_", type := 12, offset := 0, embedded := false, tag := "", pkgPath := "", byteOffset := 0 }, { name := "PtrBytes", type := 12, offset := 1, embedded := false, tag := "", pkgPath := "", byteOffset := 8 }, { name := "Hash", type := 157, offset := 2, embedded := false, tag := "", pkgPath := "", byteOffset := 16 }, { name := "TFlag", type := 193, offset := 3, embedded := false, tag := "", pkgPath := "", byteOffset := 20 }, { name := "Align_", type := 5, offset := 4, embedded := false, tag := "", pkgPath := "", byteOffset := 21 }, { name := "FieldAlign_", type := 5, offset := 5, embedded := false, tag := "", pkgPath := "", byteOffset := 22 }, { name := "Kind_", type := 194, offset := 6, embedded := false, tag := "", pkgPath := "", byteOffset := 23 }, { name := "Equal", type := 195, offset := 7, embedded := false, tag := "", pkgPath := "", byteOffset := 24 }, { name := "GCData", type := 196, offset := 8, embedded := false, tag := "", pkgPath := "", byteOffset := 32 }, { name := "Str", type := 197, offset := 9, embedded := false, tag := "", pkgPath := "", byteOffset := 40 }, { name := "PtrToThis", type := 198, offset := 10, embedded := false, tag := "", pkgPath := "", byteOffset := 44 }], [.int .u64 0, .int .u64 0, .int .u32 0, .int .u8 0, .int .u8 0, .int .u8 0, .int .u8 0, .nilFunc, .pointer none, .int .i32 0, .int .i32 0], []⟩
  | _ => none
theorem tt2 : TDok Try.prog 2 ⟨1, 8, false, .int .i64, [.int .i64 0], []⟩ := TDok.mk' (z := .int .i64 0) (by kernel_rfl) (by kernel_rfl) rfl rfl rfl rfl (by intro h; first | rfl | cases h)
theorem tt3 : TDok Try.prog 3 ⟨1, 8, false, .int .i64, [.int .i64 0], []⟩ := TDok.mk' (z := .int .i64 0) (by kernel_rfl) (by kernel_rfl) rfl rfl rfl rfl (by intro h; first | rfl | cases h)
theorem tt4 : TDok Try.prog 4 ⟨1, 1, false, .bool, [.bool false], []⟩ := TDok.mk' (z := .bool false) (by kernel_rfl) (by kernel_rfl) rfl rfl rfl rfl (by intro h; first | rfl | cases h)
theorem tt5 : TDok Try.prog 5 ⟨1, 1, false, .int .u8, [.int .u8 0], []⟩ := TDok.mk' (z := .int .u8 0) (by kernel_rfl) (by kernel_rfl) rfl rfl rfl rfl (by intro h; first | rfl | cases h)
theorem tt6 : TDok Try.prog 6 ⟨1, 1, false, .int .u8, [.int .u8 0], []⟩ := TDok.mk' (z := .int .u8 0) (by kernel_rfl) (by kernel_rfl) rfl rfl rfl rfl (by intro h; first | rfl | cases h)
theorem tt9 : TDok Try.prog 9 ⟨1, 16, false, .string, [.string ⟨#[]⟩], []⟩ := TDok.mk' (z := .string ⟨#[]⟩) (by kernel_rfl) (by kernel_rfl) rfl rfl rfl rfl (by intro h; first | rfl | cases h)
theorem tt10 : TDok Try.prog 10 ⟨1, 16, false, .string, [.string ⟨#[]⟩], []⟩ := TDok.mk' (z := .string ⟨#[]⟩) (by kernel_rfl) (by kernel_rfl) rfl rfl rfl rfl (by intro h; first | rfl | cases h)
theorem tt11 : TDok Try.prog 11 ⟨1, 16, false, .string, [.string ⟨#[]⟩], []⟩ := TDok.mk' (z := .string ⟨#[]⟩) (by kernel_rfl) (by kernel_rfl) rfl rfl rfl rfl (by intro h; first | rfl | cases h)
theorem tt12 : TDok Try.prog 12 ⟨1, 8, false, .int .u64, [.int .u64 0], []⟩ := TDok.mk' (z := .int .u64 0) (by kernel_rfl) (by kernel_rfl) rfl rfl rfl rfl (by intro h; first | rfl | cases h)
theorem tt15 : TDok Try.prog 15 ⟨1, 8, false, .pointer 189, [.pointer none], []⟩ := TDok.mk' (z := .pointer none) (by kernel_rfl) (by kernel_rfl) rfl rfl rfl rfl (by intro h; first | rfl | cases h)
theorem tt16 : TDok Try.prog 16 ⟨1, 8, false, .pointer 192, [.pointer none], []⟩ := TDok.mk' (z := .pointer none) (by kernel_rfl) (by kernel_rfl) rfl rfl rfl rfl (by intro h; first | rfl | cases h)
theorem tt17 : TDok Try.prog 17 ⟨1, 8, false, .pointer 200, [.pointer none], []⟩ := TDok.mk' (z := .pointer none) (by kernel_rfl) (by kernel_rfl) rfl rfl rfl rfl (by intro h; first | rfl | cases h)
theorem tt21 : TDok Try.prog 21 ⟨1, 4, false, .int .i32, [.int .i32 0], []⟩ := TDok.mk' (z := .int .i32 0) (by kernel_rfl) (by kernel_rfl) rfl rfl rfl rfl (by intro h; first | rfl | cases h)
theorem tt22 : TDok Try.prog 22 ⟨1, 24, false, .slice 122, [.slice none 0 0], []⟩ := TDok.mk' (z := .slice none 0 0) (by kernel_rfl) (by kernel_rfl) rfl rfl rfl rfl (by intro h; first | rfl | cases h)
theorem tt23 : TDok Try.prog 23 ⟨3, 40, true, .struct #[{ name := "Kind", type := 3, offset := 0, embedded := false, tag := "", pkgPath := "", byteOffset := 0 }, { name := "Tx", type := 3, offset := 1, embedded := false, tag := "", pkgPath := "", byteOffset := 8 }, { name := "Ops", type := 22, offset := 2, embedded := false, tag := "", pkgPath := "", byteOffset := 16 }], [.int .i64 0, .int .i64 0, .slice none 0 0], []⟩ := TDok.mk' (z := .agg #[.int .i64 0, .int .i64 0, .slice none 0 0]) (by kernel_rfl) (by kernel_rfl) rfl rfl rfl rfl (by intro h; first | rfl | cases h)
theorem tt24 : TDok Try.prog 24 ⟨3, 40, true, .struct #[{ name := "Kind", type := 3, offset := 0, embedded := false, tag := "", pkgPath := "", byteOffset := 0 }, { name := "Tx", type := 3, offset := 1, embedded := false, tag := "", pkgPath := "", byteOffset := 8 }, { name := "Ops", type := 22, offset := 2, embedded := false, tag := "", pkgPath := "", byteOffset := 16 }], [.int .i64 0, .int .i64 0, .slice none 0 0], []⟩ := TDok.mk' (z := .agg #[.int .i64 0, .int .i64 0, .slice none 0 0]) (by kernel_rfl) (by kernel_rfl) rfl rfl rfl rfl (by intro h; first | rfl | cases h)
theorem tt26 : TDok Try.prog 26 ⟨1, 24, false, .slice 5, [.slice none 0 0], []⟩ := TDok.mk' (z := .slice none 0 0) (by kernel_rfl) (by kernel_rfl) rfl rfl rfl rfl (by intro h; first | rfl | cases h)
theorem tt28 : TDok Try.prog 28 ⟨1, 24, false, .slice 124, [.slice none 0 0], []⟩ := TDok.mk' (z := .slice none 0 0) (by kernel_rfl) (by kernel_rfl) rfl rfl rfl rfl (by intro h; first | rfl | cases h)
theorem tt29 : TDok Try.prog 29 ⟨3, 40, true, .struct #[{ name := "Kind", type := 3, offset := 0, embedded := false, tag := "", pkgPath := "", byteOffset := 0 }, { name := "Tx", type := 3, offset := 1, embedded := false, tag := "", pkgPath := "", byteOffset := 8 }, { name := "Ops", type := 28, offset := 2, embedded := false, tag := "", pkgPath := "", byteOffset := 16 }], [.int .i64 0, .int .i64 0, .slice none 0 0], []⟩ := TDok.mk' (z := .agg #[.int .i64 0, .int .i64 0, .slice none 0 0]) (by kernel_rfl) (by kernel_rfl) rfl rfl rfl rfl (by intro h; first | rfl | cases h)
theorem tt30 : TDok Try.prog 30 ⟨3, 40, true, .struct #[{ name := "Kind", type := 3, offset := 0, embedded := false, tag := "", pkgPath := "", byteOffset := 0 }, { name := "Tx", type := 3, offset := 1, embedded := false, tag := "", pkgPath := "", byteOffset := 8 }, { name := "Ops", type := 28, offset := 2, embedded := false, tag := "", pkgPath := "", byteOffset := 16 }], [.int .i64 0, .int .i64 0, .slice none 0 0], []⟩ := TDok.mk' (z := .agg #[.int .i64 0, .int .i64 0, .slice none 0 0]) (by kernel_rfl) (by kernel_rfl) rfl rfl rfl rfl (by intro h; first | rfl | cases h)
theorem tt42 : TDok Try.prog 42 ⟨1, 24, false, .slice 30, [.slice none 0 0], []⟩ := TDok.mk' (z := .slice none 0 0) (by kernel_rfl) (by kernel_rfl) rfl rfl rfl rfl (by intro h; first | rfl | cases h)
theorem tt44 : TDok Try.prog 44 ⟨1, 24, false, .slice 3, [.slice none 0 0], []⟩ := TDok.mk' (z := .slice none 0 0) (by kernel_rfl) (by kernel_rfl) rfl rfl rfl rfl (by intro h; first | rfl | cases h)
theorem tt48 : TDok Try.prog 48 ⟨1, 8, false, .int .u64, [.int .u64 0], []⟩ := TDok.mk' (z := .int .u64 0) (by kernel_rfl) (by kernel_rfl) rfl rfl rfl rfl (by intro h; first | rfl | cases h)
theorem tt54 : TDok Try.prog 54 ⟨1, 24, false, .slice 24, [.slice none 0 0], []⟩ := TDok.mk' (z := .slice none 0 0) (by kernel_rfl) (by kernel_rfl) rfl rfl rfl rfl (by intro h; first | rfl | cases h)
theorem tt56 : TDok Try.prog 56 ⟨1, 24, false, .slice 110, [.slice none 0 0], []⟩ := TDok.mk' (z := .slice none 0 0) (by kernel_rfl) (by kernel_rfl) rfl rfl rfl rfl (by intro h; first | rfl | cases h)
theorem tt64 : TDok Try.prog 64 ⟨1, 24, false, .slice 153, [.slice none 0 0], []⟩ := TDok.mk' (z := .slice none 0 0) (by kernel_rfl) (by kernel_rfl) rfl rfl rfl rfl (by intro h; first | rfl | cases h)
theorem tt65 : TDok Try.prog 65 ⟨5, 88, true, .struct #[{ name := "Id", type := 3, offset := 0, embedded := false, tag := "", pkgPath := "", byteOffset := 0 }, { name := "Log", type := 54, offset := 1, embedded := false, tag := "", pkgPath := "", byteOffset := 8 }, { name := "Sure", type := 3, offset := 2, embedded := false, tag := "", pkgPath := "", byteOffset := 32 }, { name := "Map", type := 64, offset := 3, embedded := false, tag := "", pkgPath := "", byteOffset := 40 }, { name := "Held", type := 54, offset := 4, embedded := false, tag := "", pkgPath := "", byteOffset := 64 }], [.int .i64 0, .slice none 0 0, .int .i64 0, .slice none 0 0, .slice none 0 0], []⟩ := TDok.mk' (z := .agg #[.int .i64 0, .slice none 0 0, .int .i64 0, .slice none 0 0, .slice none 0 0]) (by kernel_rfl) (by kernel_rfl) rfl rfl rfl rfl (by intro h; first | rfl | cases h)
theorem tt66 : TDok Try.prog 66 ⟨5, 88, true, .struct #[{ name := "Id", type := 3, offset := 0, embedded := false, tag := "", pkgPath := "", byteOffset := 0 }, { name := "Log", type := 54, offset := 1, embedded := false, tag := "", pkgPath := "", byteOffset := 8 }, { name := "Sure", type := 3, offset := 2, embedded := false, tag := "", pkgPath := "", byteOffset := 32 }, { name := "Map", type := 64, offset := 3, embedded := false, tag := "", pkgPath := "", byteOffset := 40 }, { name := "Held", type := 54, offset := 4, embedded := false, tag := "", pkgPath := "", byteOffset := 64 }], [.int .i64 0, .slice none 0 0, .int .i64 0, .slice none 0 0, .slice none 0 0], []⟩ := TDok.mk' (z := .agg #[.int .i64 0, .slice none 0 0, .int .i64 0, .slice none 0 0, .slice none 0 0]) (by kernel_rfl) (by kernel_rfl) rfl rfl rfl rfl (by intro h; first | rfl | cases h)
theorem tt69 : TDok Try.prog 69 ⟨5, 88, true, .struct #[{ name := "Id", type := 3, offset := 0, embedded := false, tag := "", pkgPath := "", byteOffset := 0 }, { name := "Log", type := 42, offset := 1, embedded := false, tag := "", pkgPath := "", byteOffset := 8 }, { name := "Sure", type := 3, offset := 2, embedded := false, tag := "", pkgPath := "", byteOffset := 32 }, { name := "Map", type := 56, offset := 3, embedded := false, tag := "", pkgPath := "", byteOffset := 40 }, { name := "Held", type := 42, offset := 4, embedded := false, tag := "", pkgPath := "", byteOffset := 64 }], [.int .i64 0, .slice none 0 0, .int .i64 0, .slice none 0 0, .slice none 0 0], []⟩ := TDok.mk' (z := .agg #[.int .i64 0, .slice none 0 0, .int .i64 0, .slice none 0 0, .slice none 0 0]) (by kernel_rfl) (by kernel_rfl) rfl rfl rfl rfl (by intro h; first | rfl | cases h)
theorem tt70 : TDok Try.prog 70 ⟨5, 88, true, .struct #[{ name := "Id", type := 3, offset := 0, embedded := false, tag := "", pkgPath := "", byteOffset := 0 }, { name := "Log", type := 42, offset := 1, embedded := false, tag := "", pkgPath := "", byteOffset := 8 }, { name := "Sure", type := 3, offset := 2, embedded := false, tag := "", pkgPath := "", byteOffset := 32 }, { name := "Map", type := 56, offset := 3, embedded := false, tag := "", pkgPath := "", byteOffset := 40 }, { name := "Held", type := 42, offset := 4, embedded := false, tag := "", pkgPath := "", byteOffset := 64 }], [.int .i64 0, .slice none 0 0, .int .i64 0, .slice none 0 0, .slice none 0 0], []⟩ := TDok.mk' (z := .agg #[.int .i64 0, .slice none 0 0, .int .i64 0, .slice none 0 0, .slice none 0 0]) (by kernel_rfl) (by kernel_rfl) rfl rfl rfl rfl (by intro h; first | rfl | cases h)
theorem tt85 : TDok Try.prog 85 ⟨1, 8, false, .pointer 131, [.pointer none], []⟩ := TDok.mk' (z := .pointer none) (by kernel_rfl) (by kernel_rfl) rfl rfl rfl rfl (by intro h; first | rfl | cases h)
theorem tt93 : TDok Try.prog 93 ⟨3, 40, true, .struct #[{ name := "b", type := 26, offset := 0, embedded := false, tag := "", pkgPath := "loop.example/g00244/impl", byteOffset := 0 }, { name := "at", type := 3, offset := 1, embedded := false, tag := "", pkgPath := "loop.example/g00244/impl", byteOffset := 24 }, { name := "bad", type := 4, offset := 2, embedded := false, tag := "", pkgPath := "loop.example/g00244/impl", byteOffset := 32 }], [.slice none 0 0, .int .i64 0, .bool false], []⟩ := TDok.mk' (z := .agg #[.slice none 0 0, .int .i64 0, .bool false]) (by kernel_rfl) (by kernel_rfl) rfl rfl rfl rfl (by intro h; first | rfl | cases h)
theorem tt94 : TDok Try.prog 94 ⟨3, 40, true, .struct #[{ name := "b", type := 26, offset := 0, embedded := false, tag := "", pkgPath := "loop.example/g00244/impl", byteOffset := 0 }, { name := "at", type := 3, offset := 1, embedded := false, tag := "", pkgPath := "loop.example/g00244/impl", byteOffset := 24 }, { name := "bad", type := 4, offset := 2, embedded := false, tag := "", pkgPath := "loop.example/g00244/impl", byteOffset := 32 }], [.slice none 0 0, .int .i64 0, .bool false], []⟩ := TDok.mk' (z := .agg #[.slice none 0 0, .int .i64 0, .bool false]) (by kernel_rfl) (by kernel_rfl) rfl rfl rfl rfl (by intro h; first | rfl | cases h)
theorem tt101 : TDok Try.prog 101 ⟨1, 8, false, .pointer 103, [.pointer none], []⟩ := TDok.mk' (z := .pointer none) (by kernel_rfl) (by kernel_rfl) rfl rfl rfl rfl (by intro h; first | rfl | cases h)
theorem tt102 : TDok Try.prog 102 ⟨3, 72, true, .struct #[{ name := "m", type := 56, offset := 0, embedded := false, tag := "", pkgPath := "loop.example/g00244/spec", byteOffset := 0 }, { name := "held", type := 42, offset := 1, embedded := false, tag := "", pkgPath := "loop.example/g00244/spec", byteOffset := 24 }, { name := "seen", type := 44, offset := 2, embedded := false, tag := "", pkgPath := "loop.example/g00244/spec", byteOffset := 48 }], [.slice none 0 0, .slice none 0 0, .slice none 0 0], []⟩ := TDok.mk' (z := .agg #[.slice none 0 0, .slice none 0 0, .slice none 0 0]) (by kernel_rfl) (by kernel_rfl) rfl rfl rfl rfl (by intro h; first | rfl | cases h)
theorem tt103 : TDok Try.prog 103 ⟨3, 72, true, .struct #[{ name := "m", type := 56, offset := 0, embedded := false, tag := "", pkgPath := "loop.example/g00244/spec", byteOffset := 0 }, { name := "held", type := 42, offset := 1, embedded := false, tag := "", pkgPath := "loop.example/g00244/spec", byteOffset := 24 }, { name := "seen", type := 44, offset := 2, embedded := false, tag := "", pkgPath := "loop.example/g00244/spec", byteOffset := 48 }], [.slice none 0 0, .slice none 0 0, .slice none 0 0], []⟩ := TDok.mk' (z := .agg #[.slice none 0 0, .slice none 0 0, .slice none 0 0]) (by kernel_rfl) (by kernel_rfl) rfl rfl rfl rfl (by intro h; first | rfl | cases h)
theorem tt105 : TDok Try.prog 105 ⟨2, 48, true, .struct #[{ name := "pairs", type := 56, offset := 0, embedded := false, tag := "", pkgPath := "loop.example/g00244/impl", byteOffset := 0 }, { name := "held", type := 42, offset := 1, embedded := false, tag := "", pkgPath := "loop.example/g00244/impl", byteOffset := 24 }], [.slice none 0 0, .slice none 0 0], []⟩ := TDok.mk' (z := .agg #[.slice none 0 0, .slice none 0 0]) (by kernel_rfl) (by kernel_rfl) rfl rfl rfl rfl (by intro h; first | rfl | cases h)
theorem tt106 : TDok Try.prog 106 ⟨2, 48, true, .struct #[{ name := "pairs", type := 56, offset := 0, embedded := false, tag := "", pkgPath := "loop.example/g00244/impl", byteOffset := 0 }, { name := "held", type := 42, offset := 1, embedded := false, tag := "", pkgPath := "loop.example/g00244/impl", byteOffset := 24 }], [.slice none 0 0, .slice none 0 0], []⟩ := TDok.mk' (z := .agg #[.slice none 0 0, .slice none 0 0]) (by kernel_rfl) (by kernel_rfl) rfl rfl rfl rfl (by intro h; first | rfl | cases h)
theorem tt109 : TDok Try.prog 109 ⟨2, 32, true, .struct #[{ name := "Key", type := 9, offset := 0, embedded := false, tag := "", pkgPath := "", byteOffset := 0 }, { name := "Val", type := 9, offset := 1, embedded := false, tag := "", pkgPath := "", byteOffset := 16 }], [.string ⟨#[]⟩, .string ⟨#[]⟩], []⟩ := TDok.mk' (z := .agg #[.string ⟨#[]⟩, .string ⟨#[]⟩]) (by kernel_rfl) (by kernel_rfl) rfl rfl rfl rfl (by intro h; first | rfl | cases h)
theorem tt110 : TDok Try.prog 110 ⟨2, 32, true, .struct #[{ name := "Key", type := 9, offset := 0, embedded := false, tag := "", pkgPath := "", byteOffset := 0 }, { name := "Val", type := 9, offset := 1, embedded := false, tag := "", pkgPath := "", byteOffset := 16 }], [.string ⟨#[]⟩, .string ⟨#[]⟩], []⟩ := TDok.mk' (z := .agg #[.string ⟨#[]⟩, .string ⟨#[]⟩]) (by kernel_rfl) (by kernel_rfl) rfl rfl rfl rfl (by intro h; first | rfl | cases h)
theorem tt121 : TDok Try.prog 121 ⟨3, 40, true, .struct #[{ name := "Kind", type := 3, offset := 0, embedded := false, tag := "", pkgPath := "", byteOffset := 0 }, { name := "Key", type := 9, offset := 1, embedded := false, tag := "", pkgPath := "", byteOffset := 8 }, { name := "Val", type := 9, offset := 2, embedded := false, tag := "", pkgPath := "", byteOffset := 24 }], [.int .i64 0, .string ⟨#[]⟩, .string ⟨#[]⟩], []⟩ := TDok.mk' (z := .agg #[.int .i64 0, .string ⟨#[]⟩, .string ⟨#[]⟩]) (by kernel_rfl) (by kernel_rfl) rfl rfl rfl rfl (by intro h; first | rfl | cases h)
theorem tt122 : TDok Try.prog 122 ⟨3, 40, true, .struct #[{ name := "Kind", type := 3, offset := 0, embedded := false, tag := "", pkgPath := "", byteOffset := 0 }, { name := "Key", type := 9, offset := 1, embedded := false, tag := "", pkgPath := "", byteOffset := 8 }, { name := "Val", type := 9, offset := 2, embedded := false, tag := "", pkgPath := "", byteOffset := 24 }], [.int .i64 0, .string ⟨#[]⟩, .string ⟨#[]⟩], []⟩ := TDok.mk' (z := .agg #[.int .i64 0, .string ⟨#[]⟩, .string ⟨#[]⟩]) (by kernel_rfl) (by kernel_rfl) rfl rfl rfl rfl (by intro h; first | rfl | cases h)
theorem tt124 : TDok Try.prog 124 ⟨3, 40, true, .struct #[{ name := "Kind", type := 3, offset := 0, embedded := false, tag := "", pkgPath := "", byteOffset := 0 }, { name := "Key", type := 9, offset := 1, embedded := false, tag := "", pkgPath := "", byteOffset := 8 }, { name := "Val", type := 9, offset := 2, embedded := false, tag := "", pkgPath := "", byteOffset := 24 }], [.int .i64 0, .string ⟨#[]⟩, .string ⟨#[]⟩], []⟩ := TDok.mk' (z := .agg #[.int .i64 0, .string ⟨#[]⟩, .string ⟨#[]⟩]) (by kernel_rfl) (by kernel_rfl) rfl rfl rfl rfl (by intro h; first | rfl | cases h)
theorem tt130 : TDok Try.prog 130 ⟨3, 40, true, .struct #[{ name := "b", type := 26, offset := 0, embedded := false, tag := "", pkgPath := "loop.example/g00244/spec", byteOffset := 0 }, { name := "i", type := 3, offset := 1, embedded := false, tag := "", pkgPath := "loop.example/g00244/spec", byteOffset := 24 }, { name := "h", type := 3, offset := 2, embedded := false, tag := "", pkgPath := "loop.example/g00244/spec", byteOffset := 32 }], [.slice none 0 0, .int .i64 0, .int .i64 0], []⟩ := TDok.mk' (z := .agg #[.slice none 0 0, .int .i64 0, .int .i64 0]) (by kernel_rfl) (by kernel_rfl) rfl rfl rfl rfl (by intro h; first | rfl | cases h)
theorem tt131 : TDok Try.prog 131 ⟨3, 40, true, .struct #[{ name := "b", type := 26, offset := 0, embedded := false, tag := "", pkgPath := "loop.example/g00244/spec", byteOffset := 0 }, { name := "i", type := 3, offset := 1, embedded := false, tag := "", pkgPath := "loop.example/g00244/spec", byteOffset := 24 }, { name := "h", type := 3, offset := 2, embedded := false, tag := "", pkgPath := "loop.example/g00244/spec", byteOffset := 32 }], [.slice none 0 0, .int .i64 0, .int .i64 0], []⟩ := TDok.mk' (z := .agg #[.slice none 0 0, .int .i64 0, .int .i64 0]) (by kernel_rfl) (by kernel_rfl) rfl rfl rfl rfl (by intro h; first | rfl | cases h)
theorem tt134 : TDok Try.prog 134 ⟨1, 8, false, .pointer 94, [.pointer none], []⟩ := TDok.mk' (z := .pointer none) (by kernel_rfl) (by kernel_rfl) rfl rfl rfl rfl (by intro h; first | rfl | cases h)
theorem tt144 : TDok Try.prog 144 ⟨1, 8, false, .pointer 106, [.pointer none], []⟩ := TDok.mk' (z := .pointer none) (by kernel_rfl) (by kernel_rfl) rfl rfl rfl rfl (by intro h; first | rfl | cases h)
theorem tt148 : TDok Try.prog 148 ⟨1, 8, false, .pointer 70, [.pointer none], []⟩ := TDok.mk' (z := .pointer none) (by kernel_rfl) (by kernel_rfl) rfl rfl rfl rfl (by intro h; first | rfl | cases h)
theorem tt153 : TDok Try.prog 153 ⟨2, 32, true, .struct #[{ name := "Key", type := 9, offset := 0, embedded := false, tag := "", pkgPath := "", byteOffset := 0 }, { name := "Val", type := 9, offset := 1, embedded := false, tag := "", pkgPath := "", byteOffset := 16 }], [.string ⟨#[]⟩, .string ⟨#[]⟩], []⟩ := TDok.mk' (z := .agg #[.string ⟨#[]⟩, .string ⟨#[]⟩]) (by kernel_rfl) (by kernel_rfl) rfl rfl rfl rfl (by intro h; first | rfl | cases h)
theorem tt157 : TDok Try.prog 157 ⟨1, 4, false, .int .u32, [.int .u32 0], []⟩ := TDok.mk' (z := .int .u32 0) (by kernel_rfl) (by kernel_rfl) rfl rfl rfl rfl (by intro h; first | rfl | cases h)
theorem tt158 : TDok Try.prog 158 ⟨8, 32, true, .array 8 157, [.int .u32 0, .int .u32 0, .int .u32 0, .int .u32 0, .int .u32 0, .int .u32 0, .int .u32 0, .int .u32 0], []⟩ := TDok.mk' (z := .agg #[.int .u32 0, .int .u32 0, .int .u32 0, .int .u32 0, .int .u32 0, .int .u32 0, .int .u32 0, .int .u32 0]) (by kernel_rfl) (by kernel_rfl) rfl rfl rfl rfl (by intro h; first | rfl | cases h)
theorem tt159 : TDok Try.prog 159 ⟨1, 8, false, .pointer 176, [.pointer none], []⟩ := TDok.mk' (z := .pointer none) (by kernel_rfl) (by kernel_rfl) rfl rfl rfl rfl (by intro h; first | rfl | cases h)
theorem tt165 : TDok Try.prog 165 ⟨1, 8, false, .pointer 158, [.pointer none], []⟩ := TDok.mk' (z := .pointer none) (by kernel_rfl) (by kernel_rfl) rfl rfl rfl rfl (by intro h; first | rfl | cases h)
theorem tt176 : TDok Try.prog 176 ⟨64, 256, true, .array 64 157, (List.replicate 64 (.int .u32 0)), []⟩ := TDok.mk' (z := (.agg (List.replicate 64 (.int .u32 0)).toArray)) (by kernel_rfl) (by kernel_rfl) rfl rfl rfl rfl (by intro h; first | rfl | cases h)
theorem tt180 : TDok Try.prog 180 ⟨1, 24, false, .slice 9, [.slice none 0 0], []⟩ := TDok.mk' (z := .slice none 0 0) (by kernel_rfl) (by kernel_rfl) rfl rfl rfl rfl (by intro h; first | rfl | cases h)
theorem tt190 : TDok Try.prog 190 ⟨0, 0, true, .array 0 16, [], []⟩ := TDok.mk' (z := .agg #[]) (by kernel_rfl) (by kernel_rfl) rfl rfl rfl rfl (by intro h; first | rfl | cases h)
theorem tt193 : TDok Try.prog 193 ⟨1, 1, false, .int .u8, [.int .u8 0], []⟩ := TDok.mk' (z := .int .u8 0) (by kernel_rfl) (by kernel_rfl) rfl rfl rfl rfl (by intro h; first | rfl | cases h)
theorem tt194 : TDok Try.prog 194 ⟨1, 1, false, .int .u8, [.int .u8 0], []⟩ := TDok.mk' (z := .int .u8 0) (by kernel_rfl) (by kernel_rfl) rfl rfl rfl rfl (by intro h; first | rfl | cases h)
theorem tt196 : TDok Try.prog 196 ⟨1, 8, false, .pointer 5, [.pointer none], []⟩ := TDok.mk' (z := .pointer none) (by kernel_rfl) (by kernel_rfl) rfl rfl rfl rfl (by intro h; first | rfl | cases h)
theorem tt197 : TDok Try.prog 197 ⟨1, 4, false, .int .i32, [.int .i32 0], []⟩ := TDok.mk' (z := .int .i32 0) (by kernel_rfl) (by kernel_rfl) rfl rfl rfl rfl (by intro h; first | rfl | cases h)
theorem tt198 : TDok Try.prog 198 ⟨1, 4, false, .int .i32, [.int .i32 0], []⟩ := TDok.mk' (z := .int .i32 0) (by kernel_rfl) (by kernel_rfl) rfl rfl rfl rfl (by intro h; first | rfl | cases h)
theorem tt199 : TDok Try.prog 199 ⟨11, 48, true, .struct #[{ name := "Size_", type := 12, offset := 0, embedded := false, tag := "", pkgPath := "", byteOffset := 0 }, { name := "PtrBytes", type := 12, offset := 1, embedded := false, tag := "", pkgPath := "", byteOffset := 8 }, { name := "Hash", type := 157, offset := 2, embedded := false, tag := "", pkgPath := "", byteOffset := 16 }, { name := "TFlag", type := 193, offset := 3, embedded := false, tag := "", pkgPath := "", byteOffset := 20 }, { name := "Align_", type := 5, offset := 4, embedded := false, tag := "", pkgPath := "", byteOffset := 21 }, { name := "FieldAlign_", type := 5, offset := 5, embedded := false, tag := "", pkgPath := "", byteOffset := 22 }, { name := "Kind_", type := 194, offset := 6, embedded := false, tag := "", pkgPath := "", byteOffset := 23 }, { name := "Equal", type := 195, offset := 7, embedded := false, tag := "", pkgPath := "", byteOffset := 24 }, { name := "GCData", type := 196, offset := 8, embedded := false, tag := "", pkgPath := "", byteOffset := 32 }, { name := "Str", type := 197, offset := 9, embedded := false, tag := "", pkgPath := "", byteOffset := 40 }, { name := "PtrToThis", type := 198, offset := 10, embedded := false, tag := "", pkgPath := "", byteOffset := 44 }], [.int .u64 0, .int .u64 0, .int .u32 0, .int .u8 0, .int .u8 0, .int .u8 0, .int .u8 0, .nilFunc, .pointer none, .int .i32 0, .int .i32 0], []⟩ := TDok.mk' (z := .agg #[.int .u64 0, .int .u64 0, .int .u32 0, .int .u8 0, .int .u8 0, .int .u8 0, .int .u8 0, .nilFunc, .pointer none, .int .i32 0, .int .i32 0]) (by kernel_rfl) (by kernel_rfl) rfl rfl rfl rfl (by intro h; first | rfl | cases h)
theorem tt200 : TDok Try.prog 200 ⟨11, 48, true, .struct #[{ name := "Size_", type := 12, offset := 0, embedded := false, tag := "", pkgPath := "", byteOffset := 0 }, { name := "PtrBytes", type := 12, offset := 1, embedded := false, tag := "", pkgPath := "", byteOffset := 8 }, { name := "Hash", type := 157, offset := 2, embedded := false, tag := "", pkgPath := "", byteOffset := 16 }, { name := "TFlag", type := 193, offset := 3, embedded := false, tag := "", pkgPath := "", byteOffset := 20 }, { name := "Align_", type := 5, offset := 4, embedded := false, tag := "", pkgPath := "", byteOffset := 21 }, { name := "FieldAlign_", type := 5, offset := 5, embedded := false, tag := "", pkgPath := "", byteOffset := 22 }, { name := "Kind_", type := 194, offset := 6, embedded := false, tag := "", pkgPath := "", byteOffset := 23 }, { name := "Equal", type := 195, offset := 7, embedded := false, tag := "", pkgPath := "", byteOffset := 24 }, { name := "GCData", type := 196, offset := 8, embedded := false, tag := "", pkgPath := "", byteOffset := 32 }, { name := "Str", type := 197, offset := 9, embedded := false, tag := "", pkgPath := "", byteOffset := 40 }, { name := "PtrToThis", type := 198, offset := 10, embedded := false, tag := "", pkgPath := "", byteOffset := 44 }], [.int .u64 0, .int .u64 0, .int .u32 0, .int .u8 0, .int .u8 0, .int .u8 0, .int .u8 0, .nilFunc, .pointer none, .int .i32 0, .int .i32 0], []⟩ := TDok.mk' (z := .agg #[.int .u64 0, .int .u64 0, .int .u32 0, .int .u8 0, .int .u8 0, .int .u8 0, .int .u8 0, .nilFunc, .pointer none, .int .i32 0, .int .i32 0]) (by kernel_rfl) (by kernel_rfl) rfl rfl rfl rfl (by intro h; first | rfl | cases h)
theorem tt_ok : TTok Try.prog tt := by
  intro t d h
  unfold tt at h
  split at h
  · obtain rfl := Option.some.inj h; exact tt2
  · obtain rfl := Option.some.inj h; exact tt3
  · obtain rfl := Option.some.inj h; exact tt4
  · obtain rfl := Option.some.inj h; exact tt5
  · obtain rfl := Option.some.inj h; exact tt6
  · obtain rfl := Option.some.inj h; exact tt9
  · obtain rfl := Option.some.inj h; exact tt10
  · obtain rfl := Option.some.inj h; exact tt11
  · obtain rfl := Option.some.inj h; exact tt12
  · obtain rfl := Option.some.inj h; exact tt15
  · obtain rfl := Option.some.inj h; exact tt16
  · obtain rfl := Option.some.inj h; exact tt17
  · obtain rfl := Option.some.inj h; exact tt21
  · obtain rfl := Option.some.inj h; exact tt22
  · obtain rfl := Option.some.inj h; exact tt23
  · obtain rfl := Option.some.inj h; exact tt24
  · obtain rfl := Option.some.inj h; exact tt26
  · obtain rfl := Option.some.inj h; exact tt28
  · obtain rfl := Option.some.inj h; exact tt29
  · obtain rfl := Option.some.inj h; exact tt30
  · obtain rfl := Option.some.inj h; exact tt42
  · obtain rfl := Option.some.inj h; exact tt44
  · obtain rfl := Option.some.inj h; exact tt48
  · obtain rfl := Option.some.inj h; exact tt54
  · obtain rfl := Option.some.inj h; exact tt56
  · obtain rfl := Option.some.inj h; exact tt64
  · obtain rfl := Option.some.inj h; exact tt65
  · obtain rfl := Option.some.inj h; exact tt66
  · obtain rfl := Option.some.inj h; exact tt69
  · obtain rfl := Option.some.inj h; exact tt70
  · obtain rfl := Option.some.inj h; exact tt85
  · obtain rfl := Option.some.inj h; exact tt93
  · obtain rfl := Option.some.inj h; exact tt94
  · obtain rfl := Option.some.inj h; exact tt101
  · obtain rfl := Option.some.inj h; exact tt102
  · obtain rfl := Option.some.inj h; exact tt103
  · obtain rfl := Option.some.inj h; exact tt105
  · obtain rfl := Option.some.inj h; exact tt106
  · obtain rfl := Option.some.inj h; exact tt109
  · obtain rfl := Option.some.inj h; exact tt110
  · obtain rfl := Option.some.inj h; exact tt121
  · obtain rfl := Option.some.inj h; exact tt122
  · obtain rfl := Option.some.inj h; exact tt124
  · obtain rfl := Option.some.inj h; exact tt130
  · obtain rfl := Option.some.inj h; exact tt131
  · obtain rfl := Option.some.inj h; exact tt134
  · obtain rfl := Option.some.inj h; exact tt144
  · obtain rfl := Option.some.inj h; exact tt148
  · obtain rfl := Option.some.inj h; exact tt153
  · obtain rfl := Option.some.inj h; exact tt157
  · obtain rfl := Option.some.inj h; exact tt158
  · obtain rfl := Option.some.inj h; exact tt159
  · obtain rfl := Option.some.inj h; exact tt165
  · obtain rfl := Option.some.inj h; exact tt176
  · obtain rfl := Option.some.inj h; exact tt180
  · obtain rfl := Option.some.inj h; exact tt190
  · obtain rfl := Option.some.inj h; exact tt193
  · obtain rfl := Option.some.inj h; exact tt194
  · obtain rfl := Option.some.inj h; exact tt196
  · obtain rfl := Option.some.inj h; exact tt197
  · obtain rfl := Option.some.inj h; exact tt198
  · obtain rfl := Option.some.inj h; exact tt199
  · obtain rfl := Option.some.inj h; exact tt200
  · cases h
/-- What the slices of a struct hold. -/
def ow : TypeId → List TypeId := fun t => match t with
  | 23 => [122]
  | 24 => [122]
  | 29 => [124]
  | 30 => [124]
  | 65 => [24, 153, 24]
  | 66 => [24, 153, 24]
  | 69 => [30, 110, 30]
  | 70 => [30, 110, 30]
  | 93 => [5]
  | 94 => [5]
  | 102 => [110, 30, 3]
  | 103 => [110, 30, 3]
  | 105 => [110, 30]
  | 106 => [110, 30]
  | 130 => [5]
  | 131 => [5]
  | _ => []
end Go.Proofs.Ytccelbeahdcooaa.Eng
