/- The types' table of this translation, checked against it. -/
import Derived.Test.YtapikgcgahomlaaGreatE35
import Derived.Test.YtapikgcgahomlaaGreatProg
namespace Go.Proofs.YtapikgcgahomlaaGreat.Eng
open Go Go.RowKit
def tt : TT := fun t => match t with
  | 3 => some ⟨1, 8, false, .int .i64, [.int .i64 0]⟩
  | 4 => some ⟨1, 1, false, .bool, [.bool false]⟩
  | 5 => some ⟨1, 1, false, .int .u8, [.int .u8 0]⟩
  | 9 => some ⟨1, 16, false, .string, [.string ⟨#[]⟩]⟩
  | 22 => some ⟨1, 24, false, .slice 5, [.slice none 0 0]⟩
  | 24 => some ⟨1, 24, false, .slice 48, [.slice none 0 0]⟩
  | 25 => some ⟨1, 24, false, .slice 50, [.slice none 0 0]⟩
  | 27 => some ⟨5, 88, true, .struct #[{ name := "Id", type := 3, offset := 0, embedded := false, tag := "", pkgPath := "", byteOffset := 0 }, { name := "Log", type := 24, offset := 1, embedded := false, tag := "", pkgPath := "", byteOffset := 8 }, { name := "Sure", type := 3, offset := 2, embedded := false, tag := "", pkgPath := "", byteOffset := 32 }, { name := "Map", type := 25, offset := 3, embedded := false, tag := "", pkgPath := "", byteOffset := 40 }, { name := "Held", type := 24, offset := 4, embedded := false, tag := "", pkgPath := "", byteOffset := 64 }], [.int .i64 0, .slice none 0 0, .int .i64 0, .slice none 0 0, .slice none 0 0]⟩
  | 30 => some ⟨1, 24, false, .slice 62, [.slice none 0 0]⟩
  | 31 => some ⟨1, 24, false, .slice 57, [.slice none 0 0]⟩
  | 33 => some ⟨6, 80, true, .struct #[{ name := "N", type := 3, offset := 0, embedded := false, tag := "", pkgPath := "", byteOffset := 0 }, { name := "Life", type := 3, offset := 1, embedded := false, tag := "", pkgPath := "", byteOffset := 8 }, { name := "Next", type := 3, offset := 2, embedded := false, tag := "", pkgPath := "", byteOffset := 16 }, { name := "Jobs", type := 30, offset := 3, embedded := false, tag := "", pkgPath := "", byteOffset := 24 }, { name := "Log", type := 31, offset := 4, embedded := false, tag := "", pkgPath := "", byteOffset := 48 }, { name := "Sure", type := 3, offset := 5, embedded := false, tag := "", pkgPath := "", byteOffset := 72 }], [.int .i64 0, .int .i64 0, .int .i64 0, .slice none 0 0, .slice none 0 0, .int .i64 0]⟩
  | 40 => some ⟨1, 8, false, .pointer 67, [.pointer none]⟩
  | 46 => some ⟨1, 24, false, .slice 75, [.slice none 0 0]⟩
  | 48 => some ⟨3, 40, true, .struct #[{ name := "Kind", type := 3, offset := 0, embedded := false, tag := "", pkgPath := "", byteOffset := 0 }, { name := "Tx", type := 3, offset := 1, embedded := false, tag := "", pkgPath := "", byteOffset := 8 }, { name := "Ops", type := 46, offset := 2, embedded := false, tag := "", pkgPath := "", byteOffset := 16 }], [.int .i64 0, .int .i64 0, .slice none 0 0]⟩
  | 50 => some ⟨2, 32, true, .struct #[{ name := "Key", type := 9, offset := 0, embedded := false, tag := "", pkgPath := "", byteOffset := 0 }, { name := "Val", type := 9, offset := 1, embedded := false, tag := "", pkgPath := "", byteOffset := 16 }], [.string ⟨#[]⟩, .string ⟨#[]⟩]⟩
  | 57 => some ⟨2, 16, true, .struct #[{ name := "Tx", type := 3, offset := 0, embedded := false, tag := "", pkgPath := "", byteOffset := 0 }, { name := "Yes", type := 4, offset := 1, embedded := false, tag := "", pkgPath := "", byteOffset := 8 }], [.int .i64 0, .bool false]⟩
  | 60 => some ⟨1, 24, false, .slice 3, [.slice none 0 0]⟩
  | 62 => some ⟨4, 64, true, .struct #[{ name := "Tx", type := 3, offset := 0, embedded := false, tag := "", pkgPath := "", byteOffset := 0 }, { name := "Ops", type := 46, offset := 1, embedded := false, tag := "", pkgPath := "", byteOffset := 8 }, { name := "State", type := 3, offset := 2, embedded := false, tag := "", pkgPath := "", byteOffset := 32 }, { name := "Yes", type := 60, offset := 3, embedded := false, tag := "", pkgPath := "", byteOffset := 40 }], [.int .i64 0, .slice none 0 0, .int .i64 0, .slice none 0 0]⟩
  | 67 => some ⟨3, 40, true, .struct #[{ name := "b", type := 22, offset := 0, embedded := false, tag := "", pkgPath := "loop.example/g00244/spec", byteOffset := 0 }, { name := "i", type := 3, offset := 1, embedded := false, tag := "", pkgPath := "loop.example/g00244/spec", byteOffset := 24 }, { name := "h", type := 3, offset := 2, embedded := false, tag := "", pkgPath := "loop.example/g00244/spec", byteOffset := 32 }], [.slice none 0 0, .int .i64 0, .int .i64 0]⟩
  | 75 => some ⟨3, 40, true, .struct #[{ name := "Kind", type := 3, offset := 0, embedded := false, tag := "", pkgPath := "", byteOffset := 0 }, { name := "Key", type := 9, offset := 1, embedded := false, tag := "", pkgPath := "", byteOffset := 8 }, { name := "Val", type := 9, offset := 2, embedded := false, tag := "", pkgPath := "", byteOffset := 24 }], [.int .i64 0, .string ⟨#[]⟩, .string ⟨#[]⟩]⟩
  | 80 => some ⟨2, 48, true, .struct #[{ name := "pairs", type := 25, offset := 0, embedded := false, tag := "", pkgPath := "loop.example/g00244/impl", byteOffset := 0 }, { name := "held", type := 24, offset := 1, embedded := false, tag := "", pkgPath := "loop.example/g00244/impl", byteOffset := 24 }], [.slice none 0 0, .slice none 0 0]⟩
  | 83 => some ⟨1, 8, false, .pointer 85, [.pointer none]⟩
  | 85 => some ⟨3, 72, true, .struct #[{ name := "m", type := 25, offset := 0, embedded := false, tag := "", pkgPath := "loop.example/g00244/spec", byteOffset := 0 }, { name := "held", type := 24, offset := 1, embedded := false, tag := "", pkgPath := "loop.example/g00244/spec", byteOffset := 24 }, { name := "seen", type := 60, offset := 2, embedded := false, tag := "", pkgPath := "loop.example/g00244/spec", byteOffset := 48 }], [.slice none 0 0, .slice none 0 0, .slice none 0 0]⟩
  | 87 => some ⟨1, 8, false, .pointer 33, [.pointer none]⟩
  | 95 => some ⟨1, 8, false, .pointer 27, [.pointer none]⟩
  | 102 => some ⟨1, 24, false, .slice 140, [.slice none 0 0]⟩
  | 108 => some ⟨1, 8, false, .pointer 80, [.pointer none]⟩
  | 137 => some ⟨1, 24, false, .slice 9, [.slice none 0 0]⟩
  | 140 => some ⟨5, 56, true, .struct #[{ name := "Kind", type := 3, offset := 0, embedded := false, tag := "", pkgPath := "", byteOffset := 0 }, { name := "Shard", type := 3, offset := 1, embedded := false, tag := "", pkgPath := "", byteOffset := 8 }, { name := "Tx", type := 3, offset := 2, embedded := false, tag := "", pkgPath := "", byteOffset := 16 }, { name := "Ops", type := 46, offset := 3, embedded := false, tag := "", pkgPath := "", byteOffset := 24 }, { name := "Yes", type := 4, offset := 4, embedded := false, tag := "", pkgPath := "", byteOffset := 48 }], [.int .i64 0, .int .i64 0, .int .i64 0, .slice none 0 0, .bool false]⟩
  | 145 => some ⟨1, 4, false, .int .u32, [.int .u32 0]⟩
  | _ => none
theorem tt3 : TDok Tryz.prog 3 ⟨1, 8, false, .int .i64, [.int .i64 0]⟩ := TDok.mk' (z := .int .i64 0) (by kernel_rfl) (by kernel_rfl) rfl rfl rfl rfl (by intro h; first | rfl | cases h)
theorem tt4 : TDok Tryz.prog 4 ⟨1, 1, false, .bool, [.bool false]⟩ := TDok.mk' (z := .bool false) (by kernel_rfl) (by kernel_rfl) rfl rfl rfl rfl (by intro h; first | rfl | cases h)
theorem tt5 : TDok Tryz.prog 5 ⟨1, 1, false, .int .u8, [.int .u8 0]⟩ := TDok.mk' (z := .int .u8 0) (by kernel_rfl) (by kernel_rfl) rfl rfl rfl rfl (by intro h; first | rfl | cases h)
theorem tt9 : TDok Tryz.prog 9 ⟨1, 16, false, .string, [.string ⟨#[]⟩]⟩ := TDok.mk' (z := .string ⟨#[]⟩) (by kernel_rfl) (by kernel_rfl) rfl rfl rfl rfl (by intro h; first | rfl | cases h)
theorem F4Q : TDok Tryz.prog 22 ⟨1, 24, false, .slice 5, [.slice none 0 0]⟩ := TDok.mk' (z := .slice none 0 0) (by kernel_rfl) (by kernel_rfl) rfl rfl rfl rfl (by intro h; first | rfl | cases h)
theorem F4g : TDok Tryz.prog 24 ⟨1, 24, false, .slice 48, [.slice none 0 0]⟩ := TDok.mk' (z := .slice none 0 0) (by kernel_rfl) (by kernel_rfl) rfl rfl rfl rfl (by intro h; first | rfl | cases h)
theorem F4q : TDok Tryz.prog 25 ⟨1, 24, false, .slice 50, [.slice none 0 0]⟩ := TDok.mk' (z := .slice none 0 0) (by kernel_rfl) (by kernel_rfl) rfl rfl rfl rfl (by intro h; first | rfl | cases h)
theorem F41 : TDok Tryz.prog 27 ⟨5, 88, true, .struct #[{ name := "Id", type := 3, offset := 0, embedded := false, tag := "", pkgPath := "", byteOffset := 0 }, { name := "Log", type := 24, offset := 1, embedded := false, tag := "", pkgPath := "", byteOffset := 8 }, { name := "Sure", type := 3, offset := 2, embedded := false, tag := "", pkgPath := "", byteOffset := 32 }, { name := "Map", type := 25, offset := 3, embedded := false, tag := "", pkgPath := "", byteOffset := 40 }, { name := "Held", type := 24, offset := 4, embedded := false, tag := "", pkgPath := "", byteOffset := 64 }], [.int .i64 0, .slice none 0 0, .int .i64 0, .slice none 0 0, .slice none 0 0]⟩ := TDok.mk' (z := .agg #[.int .i64 0, .slice none 0 0, .int .i64 0, .slice none 0 0, .slice none 0 0]) (by kernel_rfl) (by kernel_rfl) rfl rfl rfl rfl (by intro h; first | rfl | cases h)
theorem F4m : TDok Tryz.prog 30 ⟨1, 24, false, .slice 62, [.slice none 0 0]⟩ := TDok.mk' (z := .slice none 0 0) (by kernel_rfl) (by kernel_rfl) rfl rfl rfl rfl (by intro h; first | rfl | cases h)
theorem F4S : TDok Tryz.prog 31 ⟨1, 24, false, .slice 57, [.slice none 0 0]⟩ := TDok.mk' (z := .slice none 0 0) (by kernel_rfl) (by kernel_rfl) rfl rfl rfl rfl (by intro h; first | rfl | cases h)
theorem F4J : TDok Tryz.prog 33 ⟨6, 80, true, .struct #[{ name := "N", type := 3, offset := 0, embedded := false, tag := "", pkgPath := "", byteOffset := 0 }, { name := "Life", type := 3, offset := 1, embedded := false, tag := "", pkgPath := "", byteOffset := 8 }, { name := "Next", type := 3, offset := 2, embedded := false, tag := "", pkgPath := "", byteOffset := 16 }, { name := "Jobs", type := 30, offset := 3, embedded := false, tag := "", pkgPath := "", byteOffset := 24 }, { name := "Log", type := 31, offset := 4, embedded := false, tag := "", pkgPath := "", byteOffset := 48 }, { name := "Sure", type := 3, offset := 5, embedded := false, tag := "", pkgPath := "", byteOffset := 72 }], [.int .i64 0, .int .i64 0, .int .i64 0, .slice none 0 0, .slice none 0 0, .int .i64 0]⟩ := TDok.mk' (z := .agg #[.int .i64 0, .int .i64 0, .int .i64 0, .slice none 0 0, .slice none 0 0, .int .i64 0]) (by kernel_rfl) (by kernel_rfl) rfl rfl rfl rfl (by intro h; first | rfl | cases h)
theorem F4K : TDok Tryz.prog 40 ⟨1, 8, false, .pointer 67, [.pointer none]⟩ := TDok.mk' (z := .pointer none) (by kernel_rfl) (by kernel_rfl) rfl rfl rfl rfl (by intro h; first | rfl | cases h)
theorem F4i : TDok Tryz.prog 46 ⟨1, 24, false, .slice 75, [.slice none 0 0]⟩ := TDok.mk' (z := .slice none 0 0) (by kernel_rfl) (by kernel_rfl) rfl rfl rfl rfl (by intro h; first | rfl | cases h)
theorem F4v : TDok Tryz.prog 48 ⟨3, 40, true, .struct #[{ name := "Kind", type := 3, offset := 0, embedded := false, tag := "", pkgPath := "", byteOffset := 0 }, { name := "Tx", type := 3, offset := 1, embedded := false, tag := "", pkgPath := "", byteOffset := 8 }, { name := "Ops", type := 46, offset := 2, embedded := false, tag := "", pkgPath := "", byteOffset := 16 }], [.int .i64 0, .int .i64 0, .slice none 0 0]⟩ := TDok.mk' (z := .agg #[.int .i64 0, .int .i64 0, .slice none 0 0]) (by kernel_rfl) (by kernel_rfl) rfl rfl rfl rfl (by intro h; first | rfl | cases h)
theorem F4P : TDok Tryz.prog 50 ⟨2, 32, true, .struct #[{ name := "Key", type := 9, offset := 0, embedded := false, tag := "", pkgPath := "", byteOffset := 0 }, { name := "Val", type := 9, offset := 1, embedded := false, tag := "", pkgPath := "", byteOffset := 16 }], [.string ⟨#[]⟩, .string ⟨#[]⟩]⟩ := TDok.mk' (z := .agg #[.string ⟨#[]⟩, .string ⟨#[]⟩]) (by kernel_rfl) (by kernel_rfl) rfl rfl rfl rfl (by intro h; first | rfl | cases h)
theorem F47 : TDok Tryz.prog 57 ⟨2, 16, true, .struct #[{ name := "Tx", type := 3, offset := 0, embedded := false, tag := "", pkgPath := "", byteOffset := 0 }, { name := "Yes", type := 4, offset := 1, embedded := false, tag := "", pkgPath := "", byteOffset := 8 }], [.int .i64 0, .bool false]⟩ := TDok.mk' (z := .agg #[.int .i64 0, .bool false]) (by kernel_rfl) (by kernel_rfl) rfl rfl rfl rfl (by intro h; first | rfl | cases h)
theorem F4u : TDok Tryz.prog 60 ⟨1, 24, false, .slice 3, [.slice none 0 0]⟩ := TDok.mk' (z := .slice none 0 0) (by kernel_rfl) (by kernel_rfl) rfl rfl rfl rfl (by intro h; first | rfl | cases h)
theorem F4Z : TDok Tryz.prog 62 ⟨4, 64, true, .struct #[{ name := "Tx", type := 3, offset := 0, embedded := false, tag := "", pkgPath := "", byteOffset := 0 }, { name := "Ops", type := 46, offset := 1, embedded := false, tag := "", pkgPath := "", byteOffset := 8 }, { name := "State", type := 3, offset := 2, embedded := false, tag := "", pkgPath := "", byteOffset := 32 }, { name := "Yes", type := 60, offset := 3, embedded := false, tag := "", pkgPath := "", byteOffset := 40 }], [.int .i64 0, .slice none 0 0, .int .i64 0, .slice none 0 0]⟩ := TDok.mk' (z := .agg #[.int .i64 0, .slice none 0 0, .int .i64 0, .slice none 0 0]) (by kernel_rfl) (by kernel_rfl) rfl rfl rfl rfl (by intro h; first | rfl | cases h)
theorem F4x : TDok Tryz.prog 67 ⟨3, 40, true, .struct #[{ name := "b", type := 22, offset := 0, embedded := false, tag := "", pkgPath := "loop.example/g00244/spec", byteOffset := 0 }, { name := "i", type := 3, offset := 1, embedded := false, tag := "", pkgPath := "loop.example/g00244/spec", byteOffset := 24 }, { name := "h", type := 3, offset := 2, embedded := false, tag := "", pkgPath := "loop.example/g00244/spec", byteOffset := 32 }], [.slice none 0 0, .int .i64 0, .int .i64 0]⟩ := TDok.mk' (z := .agg #[.slice none 0 0, .int .i64 0, .int .i64 0]) (by kernel_rfl) (by kernel_rfl) rfl rfl rfl rfl (by intro h; first | rfl | cases h)
theorem F4U : TDok Tryz.prog 75 ⟨3, 40, true, .struct #[{ name := "Kind", type := 3, offset := 0, embedded := false, tag := "", pkgPath := "", byteOffset := 0 }, { name := "Key", type := 9, offset := 1, embedded := false, tag := "", pkgPath := "", byteOffset := 8 }, { name := "Val", type := 9, offset := 2, embedded := false, tag := "", pkgPath := "", byteOffset := 24 }], [.int .i64 0, .string ⟨#[]⟩, .string ⟨#[]⟩]⟩ := TDok.mk' (z := .agg #[.int .i64 0, .string ⟨#[]⟩, .string ⟨#[]⟩]) (by kernel_rfl) (by kernel_rfl) rfl rfl rfl rfl (by intro h; first | rfl | cases h)
theorem F4z : TDok Tryz.prog 80 ⟨2, 48, true, .struct #[{ name := "pairs", type := 25, offset := 0, embedded := false, tag := "", pkgPath := "loop.example/g00244/impl", byteOffset := 0 }, { name := "held", type := 24, offset := 1, embedded := false, tag := "", pkgPath := "loop.example/g00244/impl", byteOffset := 24 }], [.slice none 0 0, .slice none 0 0]⟩ := TDok.mk' (z := .agg #[.slice none 0 0, .slice none 0 0]) (by kernel_rfl) (by kernel_rfl) rfl rfl rfl rfl (by intro h; first | rfl | cases h)
theorem F4f : TDok Tryz.prog 83 ⟨1, 8, false, .pointer 85, [.pointer none]⟩ := TDok.mk' (z := .pointer none) (by kernel_rfl) (by kernel_rfl) rfl rfl rfl rfl (by intro h; first | rfl | cases h)
theorem F4A : TDok Tryz.prog 85 ⟨3, 72, true, .struct #[{ name := "m", type := 25, offset := 0, embedded := false, tag := "", pkgPath := "loop.example/g00244/spec", byteOffset := 0 }, { name := "held", type := 24, offset := 1, embedded := false, tag := "", pkgPath := "loop.example/g00244/spec", byteOffset := 24 }, { name := "seen", type := 60, offset := 2, embedded := false, tag := "", pkgPath := "loop.example/g00244/spec", byteOffset := 48 }], [.slice none 0 0, .slice none 0 0, .slice none 0 0]⟩ := TDok.mk' (z := .agg #[.slice none 0 0, .slice none 0 0, .slice none 0 0]) (by kernel_rfl) (by kernel_rfl) rfl rfl rfl rfl (by intro h; first | rfl | cases h)
theorem F4p : TDok Tryz.prog 87 ⟨1, 8, false, .pointer 33, [.pointer none]⟩ := TDok.mk' (z := .pointer none) (by kernel_rfl) (by kernel_rfl) rfl rfl rfl rfl (by intro h; first | rfl | cases h)
theorem F4o : TDok Tryz.prog 95 ⟨1, 8, false, .pointer 27, [.pointer none]⟩ := TDok.mk' (z := .pointer none) (by kernel_rfl) (by kernel_rfl) rfl rfl rfl rfl (by intro h; first | rfl | cases h)
theorem F1y : TDok Tryz.prog 102 ⟨1, 24, false, .slice 140, [.slice none 0 0]⟩ := TDok.mk' (z := .slice none 0 0) (by kernel_rfl) (by kernel_rfl) rfl rfl rfl rfl (by intro h; first | rfl | cases h)
theorem F2G : TDok Tryz.prog 108 ⟨1, 8, false, .pointer 80, [.pointer none]⟩ := TDok.mk' (z := .pointer none) (by kernel_rfl) (by kernel_rfl) rfl rfl rfl rfl (by intro h; first | rfl | cases h)
theorem F2w : TDok Tryz.prog 137 ⟨1, 24, false, .slice 9, [.slice none 0 0]⟩ := TDok.mk' (z := .slice none 0 0) (by kernel_rfl) (by kernel_rfl) rfl rfl rfl rfl (by intro h; first | rfl | cases h)
theorem F3i : TDok Tryz.prog 140 ⟨5, 56, true, .struct #[{ name := "Kind", type := 3, offset := 0, embedded := false, tag := "", pkgPath := "", byteOffset := 0 }, { name := "Shard", type := 3, offset := 1, embedded := false, tag := "", pkgPath := "", byteOffset := 8 }, { name := "Tx", type := 3, offset := 2, embedded := false, tag := "", pkgPath := "", byteOffset := 16 }, { name := "Ops", type := 46, offset := 3, embedded := false, tag := "", pkgPath := "", byteOffset := 24 }, { name := "Yes", type := 4, offset := 4, embedded := false, tag := "", pkgPath := "", byteOffset := 48 }], [.int .i64 0, .int .i64 0, .int .i64 0, .slice none 0 0, .bool false]⟩ := TDok.mk' (z := .agg #[.int .i64 0, .int .i64 0, .int .i64 0, .slice none 0 0, .bool false]) (by kernel_rfl) (by kernel_rfl) rfl rfl rfl rfl (by intro h; first | rfl | cases h)
theorem F3t : TDok Tryz.prog 145 ⟨1, 4, false, .int .u32, [.int .u32 0]⟩ := TDok.mk' (z := .int .u32 0) (by kernel_rfl) (by kernel_rfl) rfl rfl rfl rfl (by intro h; first | rfl | cases h)
theorem F0x : TTok Tryz.prog tt := by
  intro t d h
  unfold tt at h
  split at h
  · obtain rfl := Option.some.inj h; exact tt3
  · obtain rfl := Option.some.inj h; exact tt4
  · obtain rfl := Option.some.inj h; exact tt5
  · obtain rfl := Option.some.inj h; exact tt9
  · obtain rfl := Option.some.inj h; exact F4Q
  · obtain rfl := Option.some.inj h; exact F4g
  · obtain rfl := Option.some.inj h; exact F4q
  · obtain rfl := Option.some.inj h; exact F41
  · obtain rfl := Option.some.inj h; exact F4m
  · obtain rfl := Option.some.inj h; exact F4S
  · obtain rfl := Option.some.inj h; exact F4J
  · obtain rfl := Option.some.inj h; exact F4K
  · obtain rfl := Option.some.inj h; exact F4i
  · obtain rfl := Option.some.inj h; exact F4v
  · obtain rfl := Option.some.inj h; exact F4P
  · obtain rfl := Option.some.inj h; exact F47
  · obtain rfl := Option.some.inj h; exact F4u
  · obtain rfl := Option.some.inj h; exact F4Z
  · obtain rfl := Option.some.inj h; exact F4x
  · obtain rfl := Option.some.inj h; exact F4U
  · obtain rfl := Option.some.inj h; exact F4z
  · obtain rfl := Option.some.inj h; exact F4f
  · obtain rfl := Option.some.inj h; exact F4A
  · obtain rfl := Option.some.inj h; exact F4p
  · obtain rfl := Option.some.inj h; exact F4o
  · obtain rfl := Option.some.inj h; exact F1y
  · obtain rfl := Option.some.inj h; exact F2G
  · obtain rfl := Option.some.inj h; exact F2w
  · obtain rfl := Option.some.inj h; exact F3i
  · obtain rfl := Option.some.inj h; exact F3t
  · cases h
end Go.Proofs.YtapikgcgahomlaaGreat.Eng
