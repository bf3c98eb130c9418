/- The types' table of this translation, checked against it. -/
import Derived.Test.YtapikgcgahomlaaE35
import Derived.Test.YtapikgcgahomlaaProg
namespace Go.Proofs.Ytapikgcgahomlaa.Eng
open Go Go.RowKit
def tt : TT := fun t => match t with
  | 3 => some ⟨1, 8, false, .int .i64, [.int .i64 0], []⟩
  | 4 => some ⟨1, 1, false, .bool, [.bool false], []⟩
  | 5 => some ⟨1, 1, false, .int .u8, [.int .u8 0], []⟩
  | 9 => some ⟨1, 16, false, .string, [.string ⟨#[]⟩], []⟩
  | 22 => some ⟨1, 24, false, .slice 104, [.slice none 0 0], []⟩
  | 23 => some ⟨1, 24, false, .slice 108, [.slice none 0 0], []⟩
  | 25 => some ⟨6, 80, true, .struct #[{ name := "N", type := 3, offset := 0, embedded := false, tag := "", pkgPath := "", byteOffset := 0 }, { name := "Life", type := 3, offset := 1, embedded := false, tag := "", pkgPath := "", byteOffset := 8 }, { name := "Next", type := 3, offset := 2, embedded := false, tag := "", pkgPath := "", byteOffset := 16 }, { name := "Jobs", type := 22, offset := 3, embedded := false, tag := "", pkgPath := "", byteOffset := 24 }, { name := "Log", type := 23, offset := 4, embedded := false, tag := "", pkgPath := "", byteOffset := 48 }, { name := "Sure", type := 3, offset := 5, embedded := false, tag := "", pkgPath := "", byteOffset := 72 }], [.int .i64 0, .int .i64 0, .int .i64 0, .slice none 0 0, .slice none 0 0, .int .i64 0], []⟩
  | 28 => some ⟨1, 24, false, .slice 48, [.slice none 0 0], []⟩
  | 29 => some ⟨1, 24, false, .slice 43, [.slice none 0 0], []⟩
  | 31 => some ⟨6, 80, true, .struct #[{ name := "N", type := 3, offset := 0, embedded := false, tag := "", pkgPath := "", byteOffset := 0 }, { name := "Life", type := 3, offset := 1, embedded := false, tag := "", pkgPath := "", byteOffset := 8 }, { name := "Next", type := 3, offset := 2, embedded := false, tag := "", pkgPath := "", byteOffset := 16 }, { name := "Jobs", type := 28, offset := 3, embedded := false, tag := "", pkgPath := "", byteOffset := 24 }, { name := "Log", type := 29, offset := 4, embedded := false, tag := "", pkgPath := "", byteOffset := 48 }, { name := "Sure", type := 3, offset := 5, embedded := false, tag := "", pkgPath := "", byteOffset := 72 }], [.int .i64 0, .int .i64 0, .int .i64 0, .slice none 0 0, .slice none 0 0, .int .i64 0], []⟩
  | 38 => some ⟨1, 24, false, .slice 5, [.slice none 0 0], []⟩
  | 43 => some ⟨2, 16, true, .struct #[{ name := "Tx", type := 3, offset := 0, embedded := false, tag := "", pkgPath := "", byteOffset := 0 }, { name := "Yes", type := 4, offset := 1, embedded := false, tag := "", pkgPath := "", byteOffset := 8 }], [.int .i64 0, .bool false], []⟩
  | 45 => some ⟨1, 24, false, .slice 90, [.slice none 0 0], []⟩
  | 46 => some ⟨1, 24, false, .slice 3, [.slice none 0 0], []⟩
  | 48 => some ⟨4, 64, true, .struct #[{ name := "Tx", type := 3, offset := 0, embedded := false, tag := "", pkgPath := "", byteOffset := 0 }, { name := "Ops", type := 45, offset := 1, embedded := false, tag := "", pkgPath := "", byteOffset := 8 }, { name := "State", type := 3, offset := 2, embedded := false, tag := "", pkgPath := "", byteOffset := 32 }, { name := "Yes", type := 46, offset := 3, embedded := false, tag := "", pkgPath := "", byteOffset := 40 }], [.int .i64 0, .slice none 0 0, .int .i64 0, .slice none 0 0], []⟩
  | 55 => some ⟨1, 24, false, .slice 58, [.slice none 0 0], []⟩
  | 58 => some ⟨5, 56, true, .struct #[{ name := "Kind", type := 3, offset := 0, embedded := false, tag := "", pkgPath := "", byteOffset := 0 }, { name := "Shard", type := 3, offset := 1, embedded := false, tag := "", pkgPath := "", byteOffset := 8 }, { name := "Tx", type := 3, offset := 2, embedded := false, tag := "", pkgPath := "", byteOffset := 16 }, { name := "Ops", type := 45, offset := 3, embedded := false, tag := "", pkgPath := "", byteOffset := 24 }, { name := "Yes", type := 4, offset := 4, embedded := false, tag := "", pkgPath := "", byteOffset := 48 }], [.int .i64 0, .int .i64 0, .int .i64 0, .slice none 0 0, .bool false], []⟩
  | 83 => some ⟨1, 8, false, .pointer 31, [.pointer none], []⟩
  | 90 => some ⟨3, 40, true, .struct #[{ name := "Kind", type := 3, offset := 0, embedded := false, tag := "", pkgPath := "", byteOffset := 0 }, { name := "Key", type := 9, offset := 1, embedded := false, tag := "", pkgPath := "", byteOffset := 8 }, { name := "Val", type := 9, offset := 2, embedded := false, tag := "", pkgPath := "", byteOffset := 24 }], [.int .i64 0, .string ⟨#[]⟩, .string ⟨#[]⟩], []⟩
  | 102 => some ⟨1, 24, false, .slice 157, [.slice none 0 0], []⟩
  | 104 => some ⟨4, 64, true, .struct #[{ name := "Tx", type := 3, offset := 0, embedded := false, tag := "", pkgPath := "", byteOffset := 0 }, { name := "Ops", type := 102, offset := 1, embedded := false, tag := "", pkgPath := "", byteOffset := 8 }, { name := "State", type := 3, offset := 2, embedded := false, tag := "", pkgPath := "", byteOffset := 32 }, { name := "Yes", type := 46, offset := 3, embedded := false, tag := "", pkgPath := "", byteOffset := 40 }], [.int .i64 0, .slice none 0 0, .int .i64 0, .slice none 0 0], []⟩
  | 108 => some ⟨2, 16, true, .struct #[{ name := "Tx", type := 3, offset := 0, embedded := false, tag := "", pkgPath := "", byteOffset := 0 }, { name := "Yes", type := 4, offset := 1, embedded := false, tag := "", pkgPath := "", byteOffset := 8 }], [.int .i64 0, .bool false], []⟩
  | 140 => some ⟨1, 4, false, .int .u32, [.int .u32 0], []⟩
  | 157 => some ⟨3, 40, true, .struct #[{ name := "Kind", type := 3, offset := 0, embedded := false, tag := "", pkgPath := "", byteOffset := 0 }, { name := "Key", type := 9, offset := 1, embedded := false, tag := "", pkgPath := "", byteOffset := 8 }, { name := "Val", type := 9, offset := 2, embedded := false, tag := "", pkgPath := "", byteOffset := 24 }], [.int .i64 0, .string ⟨#[]⟩, .string ⟨#[]⟩], []⟩
  | _ => none
theorem tt3 : TDok Try.prog 3 ⟨1, 8, false, .int .i64, [.int .i64 0], []⟩ := TDok.mk' (z := .int .i64 0) (by kernel_rfl) (by kernel_rfl) rfl rfl rfl rfl (by intro h; first | rfl | cases h)
theorem tt4 : TDok Try.prog 4 ⟨1, 1, false, .bool, [.bool false], []⟩ := TDok.mk' (z := .bool false) (by kernel_rfl) (by kernel_rfl) rfl rfl rfl rfl (by intro h; first | rfl | cases h)
theorem tt5 : TDok Try.prog 5 ⟨1, 1, false, .int .u8, [.int .u8 0], []⟩ := TDok.mk' (z := .int .u8 0) (by kernel_rfl) (by kernel_rfl) rfl rfl rfl rfl (by intro h; first | rfl | cases h)
theorem tt9 : TDok Try.prog 9 ⟨1, 16, false, .string, [.string ⟨#[]⟩], []⟩ := TDok.mk' (z := .string ⟨#[]⟩) (by kernel_rfl) (by kernel_rfl) rfl rfl rfl rfl (by intro h; first | rfl | cases h)
theorem D30 : TDok Try.prog 22 ⟨1, 24, false, .slice 104, [.slice none 0 0], []⟩ := TDok.mk' (z := .slice none 0 0) (by kernel_rfl) (by kernel_rfl) rfl rfl rfl rfl (by intro h; first | rfl | cases h)
theorem D31 : TDok Try.prog 23 ⟨1, 24, false, .slice 108, [.slice none 0 0], []⟩ := TDok.mk' (z := .slice none 0 0) (by kernel_rfl) (by kernel_rfl) rfl rfl rfl rfl (by intro h; first | rfl | cases h)
theorem D32 : TDok Try.prog 25 ⟨6, 80, true, .struct #[{ name := "N", type := 3, offset := 0, embedded := false, tag := "", pkgPath := "", byteOffset := 0 }, { name := "Life", type := 3, offset := 1, embedded := false, tag := "", pkgPath := "", byteOffset := 8 }, { name := "Next", type := 3, offset := 2, embedded := false, tag := "", pkgPath := "", byteOffset := 16 }, { name := "Jobs", type := 22, offset := 3, embedded := false, tag := "", pkgPath := "", byteOffset := 24 }, { name := "Log", type := 23, offset := 4, embedded := false, tag := "", pkgPath := "", byteOffset := 48 }, { name := "Sure", type := 3, offset := 5, embedded := false, tag := "", pkgPath := "", byteOffset := 72 }], [.int .i64 0, .int .i64 0, .int .i64 0, .slice none 0 0, .slice none 0 0, .int .i64 0], []⟩ := TDok.mk' (z := .agg #[.int .i64 0, .int .i64 0, .int .i64 0, .slice none 0 0, .slice none 0 0, .int .i64 0]) (by kernel_rfl) (by kernel_rfl) rfl rfl rfl rfl (by intro h; first | rfl | cases h)
theorem D33 : TDok Try.prog 28 ⟨1, 24, false, .slice 48, [.slice none 0 0], []⟩ := TDok.mk' (z := .slice none 0 0) (by kernel_rfl) (by kernel_rfl) rfl rfl rfl rfl (by intro h; first | rfl | cases h)
theorem D34 : TDok Try.prog 29 ⟨1, 24, false, .slice 43, [.slice none 0 0], []⟩ := TDok.mk' (z := .slice none 0 0) (by kernel_rfl) (by kernel_rfl) rfl rfl rfl rfl (by intro h; first | rfl | cases h)
theorem D35 : TDok Try.prog 31 ⟨6, 80, true, .struct #[{ name := "N", type := 3, offset := 0, embedded := false, tag := "", pkgPath := "", byteOffset := 0 }, { name := "Life", type := 3, offset := 1, embedded := false, tag := "", pkgPath := "", byteOffset := 8 }, { name := "Next", type := 3, offset := 2, embedded := false, tag := "", pkgPath := "", byteOffset := 16 }, { name := "Jobs", type := 28, offset := 3, embedded := false, tag := "", pkgPath := "", byteOffset := 24 }, { name := "Log", type := 29, offset := 4, embedded := false, tag := "", pkgPath := "", byteOffset := 48 }, { name := "Sure", type := 3, offset := 5, embedded := false, tag := "", pkgPath := "", byteOffset := 72 }], [.int .i64 0, .int .i64 0, .int .i64 0, .slice none 0 0, .slice none 0 0, .int .i64 0], []⟩ := TDok.mk' (z := .agg #[.int .i64 0, .int .i64 0, .int .i64 0, .slice none 0 0, .slice none 0 0, .int .i64 0]) (by kernel_rfl) (by kernel_rfl) rfl rfl rfl rfl (by intro h; first | rfl | cases h)
theorem D36 : TDok Try.prog 38 ⟨1, 24, false, .slice 5, [.slice none 0 0], []⟩ := TDok.mk' (z := .slice none 0 0) (by kernel_rfl) (by kernel_rfl) rfl rfl rfl rfl (by intro h; first | rfl | cases h)
theorem D37 : TDok Try.prog 43 ⟨2, 16, true, .struct #[{ name := "Tx", type := 3, offset := 0, embedded := false, tag := "", pkgPath := "", byteOffset := 0 }, { name := "Yes", type := 4, offset := 1, embedded := false, tag := "", pkgPath := "", byteOffset := 8 }], [.int .i64 0, .bool false], []⟩ := TDok.mk' (z := .agg #[.int .i64 0, .bool false]) (by kernel_rfl) (by kernel_rfl) rfl rfl rfl rfl (by intro h; first | rfl | cases h)
theorem D38 : TDok Try.prog 45 ⟨1, 24, false, .slice 90, [.slice none 0 0], []⟩ := TDok.mk' (z := .slice none 0 0) (by kernel_rfl) (by kernel_rfl) rfl rfl rfl rfl (by intro h; first | rfl | cases h)
theorem D39 : TDok Try.prog 46 ⟨1, 24, false, .slice 3, [.slice none 0 0], []⟩ := TDok.mk' (z := .slice none 0 0) (by kernel_rfl) (by kernel_rfl) rfl rfl rfl rfl (by intro h; first | rfl | cases h)
theorem D4a : TDok Try.prog 48 ⟨4, 64, true, .struct #[{ name := "Tx", type := 3, offset := 0, embedded := false, tag := "", pkgPath := "", byteOffset := 0 }, { name := "Ops", type := 45, offset := 1, embedded := false, tag := "", pkgPath := "", byteOffset := 8 }, { name := "State", type := 3, offset := 2, embedded := false, tag := "", pkgPath := "", byteOffset := 32 }, { name := "Yes", type := 46, offset := 3, embedded := false, tag := "", pkgPath := "", byteOffset := 40 }], [.int .i64 0, .slice none 0 0, .int .i64 0, .slice none 0 0], []⟩ := TDok.mk' (z := .agg #[.int .i64 0, .slice none 0 0, .int .i64 0, .slice none 0 0]) (by kernel_rfl) (by kernel_rfl) rfl rfl rfl rfl (by intro h; first | rfl | cases h)
theorem D4b : TDok Try.prog 55 ⟨1, 24, false, .slice 58, [.slice none 0 0], []⟩ := TDok.mk' (z := .slice none 0 0) (by kernel_rfl) (by kernel_rfl) rfl rfl rfl rfl (by intro h; first | rfl | cases h)
theorem D4c : TDok Try.prog 58 ⟨5, 56, true, .struct #[{ name := "Kind", type := 3, offset := 0, embedded := false, tag := "", pkgPath := "", byteOffset := 0 }, { name := "Shard", type := 3, offset := 1, embedded := false, tag := "", pkgPath := "", byteOffset := 8 }, { name := "Tx", type := 3, offset := 2, embedded := false, tag := "", pkgPath := "", byteOffset := 16 }, { name := "Ops", type := 45, offset := 3, embedded := false, tag := "", pkgPath := "", byteOffset := 24 }, { name := "Yes", type := 4, offset := 4, embedded := false, tag := "", pkgPath := "", byteOffset := 48 }], [.int .i64 0, .int .i64 0, .int .i64 0, .slice none 0 0, .bool false], []⟩ := TDok.mk' (z := .agg #[.int .i64 0, .int .i64 0, .int .i64 0, .slice none 0 0, .bool false]) (by kernel_rfl) (by kernel_rfl) rfl rfl rfl rfl (by intro h; first | rfl | cases h)
theorem D4d : TDok Try.prog 83 ⟨1, 8, false, .pointer 31, [.pointer none], []⟩ := TDok.mk' (z := .pointer none) (by kernel_rfl) (by kernel_rfl) rfl rfl rfl rfl (by intro h; first | rfl | cases h)
theorem D4e : TDok Try.prog 90 ⟨3, 40, true, .struct #[{ name := "Kind", type := 3, offset := 0, embedded := false, tag := "", pkgPath := "", byteOffset := 0 }, { name := "Key", type := 9, offset := 1, embedded := false, tag := "", pkgPath := "", byteOffset := 8 }, { name := "Val", type := 9, offset := 2, embedded := false, tag := "", pkgPath := "", byteOffset := 24 }], [.int .i64 0, .string ⟨#[]⟩, .string ⟨#[]⟩], []⟩ := TDok.mk' (z := .agg #[.int .i64 0, .string ⟨#[]⟩, .string ⟨#[]⟩]) (by kernel_rfl) (by kernel_rfl) rfl rfl rfl rfl (by intro h; first | rfl | cases h)
theorem D3v : TDok Try.prog 102 ⟨1, 24, false, .slice 157, [.slice none 0 0], []⟩ := TDok.mk' (z := .slice none 0 0) (by kernel_rfl) (by kernel_rfl) rfl rfl rfl rfl (by intro h; first | rfl | cases h)
theorem D3w : TDok Try.prog 104 ⟨4, 64, true, .struct #[{ name := "Tx", type := 3, offset := 0, embedded := false, tag := "", pkgPath := "", byteOffset := 0 }, { name := "Ops", type := 102, offset := 1, embedded := false, tag := "", pkgPath := "", byteOffset := 8 }, { name := "State", type := 3, offset := 2, embedded := false, tag := "", pkgPath := "", byteOffset := 32 }, { name := "Yes", type := 46, offset := 3, embedded := false, tag := "", pkgPath := "", byteOffset := 40 }], [.int .i64 0, .slice none 0 0, .int .i64 0, .slice none 0 0], []⟩ := TDok.mk' (z := .agg #[.int .i64 0, .slice none 0 0, .int .i64 0, .slice none 0 0]) (by kernel_rfl) (by kernel_rfl) rfl rfl rfl rfl (by intro h; first | rfl | cases h)
theorem D3x : TDok Try.prog 108 ⟨2, 16, true, .struct #[{ name := "Tx", type := 3, offset := 0, embedded := false, tag := "", pkgPath := "", byteOffset := 0 }, { name := "Yes", type := 4, offset := 1, embedded := false, tag := "", pkgPath := "", byteOffset := 8 }], [.int .i64 0, .bool false], []⟩ := TDok.mk' (z := .agg #[.int .i64 0, .bool false]) (by kernel_rfl) (by kernel_rfl) rfl rfl rfl rfl (by intro h; first | rfl | cases h)
theorem D3y : TDok Try.prog 140 ⟨1, 4, false, .int .u32, [.int .u32 0], []⟩ := TDok.mk' (z := .int .u32 0) (by kernel_rfl) (by kernel_rfl) rfl rfl rfl rfl (by intro h; first | rfl | cases h)
theorem D3z : TDok Try.prog 157 ⟨3, 40, true, .struct #[{ name := "Kind", type := 3, offset := 0, embedded := false, tag := "", pkgPath := "", byteOffset := 0 }, { name := "Key", type := 9, offset := 1, embedded := false, tag := "", pkgPath := "", byteOffset := 8 }, { name := "Val", type := 9, offset := 2, embedded := false, tag := "", pkgPath := "", byteOffset := 24 }], [.int .i64 0, .string ⟨#[]⟩, .string ⟨#[]⟩], []⟩ := TDok.mk' (z := .agg #[.int .i64 0, .string ⟨#[]⟩, .string ⟨#[]⟩]) (by kernel_rfl) (by kernel_rfl) rfl rfl rfl rfl (by intro h; first | rfl | cases h)
theorem D1A : TTok Try.prog tt := by
  intro t d h
  unfold tt at h
  split at h
  · obtain rfl := Option.some.inj h; exact tt3
  · obtain rfl := Option.some.inj h; exact tt4
  · obtain rfl := Option.some.inj h; exact tt5
  · obtain rfl := Option.some.inj h; exact tt9
  · obtain rfl := Option.some.inj h; exact D30
  · obtain rfl := Option.some.inj h; exact D31
  · obtain rfl := Option.some.inj h; exact D32
  · obtain rfl := Option.some.inj h; exact D33
  · obtain rfl := Option.some.inj h; exact D34
  · obtain rfl := Option.some.inj h; exact D35
  · obtain rfl := Option.some.inj h; exact D36
  · obtain rfl := Option.some.inj h; exact D37
  · obtain rfl := Option.some.inj h; exact D38
  · obtain rfl := Option.some.inj h; exact D39
  · obtain rfl := Option.some.inj h; exact D4a
  · obtain rfl := Option.some.inj h; exact D4b
  · obtain rfl := Option.some.inj h; exact D4c
  · obtain rfl := Option.some.inj h; exact D4d
  · obtain rfl := Option.some.inj h; exact D4e
  · obtain rfl := Option.some.inj h; exact D3v
  · obtain rfl := Option.some.inj h; exact D3w
  · obtain rfl := Option.some.inj h; exact D3x
  · obtain rfl := Option.some.inj h; exact D3y
  · obtain rfl := Option.some.inj h; exact D3z
  · cases h
/-- What the slices of a struct hold. -/
def ow : TypeId → List TypeId := fun t => match t with
  | 25 => [104, 108]
  | 31 => [48, 43]
  | 48 => [90, 3]
  | 58 => [90]
  | 104 => [157, 3]
  | _ => []
end Go.Proofs.Ytapikgcgahomlaa.Eng
