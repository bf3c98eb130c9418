/- The types' table of this translation, checked against it. -/
import Derived.Test.YtgglehejlddghaaGreatE35
import Derived.Test.YtgglehejlddghaaGreatProg
namespace Go.Proofs.YtgglehejlddghaaGreat.Eng
open Go Go.RowKit
def tt : TT := fun t => match t with
  | 3 => some ⟨1, 8, false, .int .i64, [.int .i64 0], []⟩
  | 4 => some ⟨1, 1, false, .bool, [.bool false], []⟩
  | 5 => some ⟨1, 1, false, .int .u8, [.int .u8 0], []⟩
  | 9 => some ⟨1, 16, false, .string, [.string ⟨#[]⟩], []⟩
  | 22 => some ⟨1, 24, false, .slice 65, [.slice none 0 0], []⟩
  | 23 => some ⟨1, 24, false, .slice 68, [.slice none 0 0], []⟩
  | 25 => some ⟨5, 88, true, .struct #[{ name := "Id", type := 3, offset := 0, embedded := false, tag := "", pkgPath := "", byteOffset := 0 }, { name := "Log", type := 22, offset := 1, embedded := false, tag := "", pkgPath := "", byteOffset := 8 }, { name := "Sure", type := 3, offset := 2, embedded := false, tag := "", pkgPath := "", byteOffset := 32 }, { name := "Map", type := 23, offset := 3, embedded := false, tag := "", pkgPath := "", byteOffset := 40 }, { name := "Held", type := 22, offset := 4, embedded := false, tag := "", pkgPath := "", byteOffset := 64 }], [.int .i64 0, .slice none 0 0, .int .i64 0, .slice none 0 0, .slice none 0 0], []⟩
  | 26 => some ⟨1, 24, false, .slice 47, [.slice none 0 0], []⟩
  | 29 => some ⟨1, 24, false, .slice 80, [.slice none 0 0], []⟩
  | 30 => some ⟨1, 24, false, .slice 82, [.slice none 0 0], []⟩
  | 32 => some ⟨5, 88, true, .struct #[{ name := "Id", type := 3, offset := 0, embedded := false, tag := "", pkgPath := "", byteOffset := 0 }, { name := "Log", type := 29, offset := 1, embedded := false, tag := "", pkgPath := "", byteOffset := 8 }, { name := "Sure", type := 3, offset := 2, embedded := false, tag := "", pkgPath := "", byteOffset := 32 }, { name := "Map", type := 30, offset := 3, embedded := false, tag := "", pkgPath := "", byteOffset := 40 }, { name := "Held", type := 29, offset := 4, embedded := false, tag := "", pkgPath := "", byteOffset := 64 }], [.int .i64 0, .slice none 0 0, .int .i64 0, .slice none 0 0, .slice none 0 0], []⟩
  | 36 => some ⟨1, 24, false, .slice 54, [.slice none 0 0], []⟩
  | 47 => some ⟨3, 40, true, .struct #[{ name := "Kind", type := 3, offset := 0, embedded := false, tag := "", pkgPath := "", byteOffset := 0 }, { name := "Key", type := 9, offset := 1, embedded := false, tag := "", pkgPath := "", byteOffset := 8 }, { name := "Val", type := 9, offset := 2, embedded := false, tag := "", pkgPath := "", byteOffset := 24 }], [.int .i64 0, .string ⟨#[]⟩, .string ⟨#[]⟩], []⟩
  | 51 => some ⟨1, 8, false, .pointer 32, [.pointer none], []⟩
  | 54 => some ⟨3, 40, true, .struct #[{ name := "Kind", type := 3, offset := 0, embedded := false, tag := "", pkgPath := "", byteOffset := 0 }, { name := "Key", type := 9, offset := 1, embedded := false, tag := "", pkgPath := "", byteOffset := 8 }, { name := "Val", type := 9, offset := 2, embedded := false, tag := "", pkgPath := "", byteOffset := 24 }], [.int .i64 0, .string ⟨#[]⟩, .string ⟨#[]⟩], []⟩
  | 65 => some ⟨3, 40, true, .struct #[{ name := "Kind", type := 3, offset := 0, embedded := false, tag := "", pkgPath := "", byteOffset := 0 }, { name := "Tx", type := 3, offset := 1, embedded := false, tag := "", pkgPath := "", byteOffset := 8 }, { name := "Ops", type := 26, offset := 2, embedded := false, tag := "", pkgPath := "", byteOffset := 16 }], [.int .i64 0, .int .i64 0, .slice none 0 0], []⟩
  | 68 => some ⟨2, 32, true, .struct #[{ name := "Key", type := 9, offset := 0, embedded := false, tag := "", pkgPath := "", byteOffset := 0 }, { name := "Val", type := 9, offset := 1, embedded := false, tag := "", pkgPath := "", byteOffset := 16 }], [.string ⟨#[]⟩, .string ⟨#[]⟩], []⟩
  | 80 => some ⟨3, 40, true, .struct #[{ name := "Kind", type := 3, offset := 0, embedded := false, tag := "", pkgPath := "", byteOffset := 0 }, { name := "Tx", type := 3, offset := 1, embedded := false, tag := "", pkgPath := "", byteOffset := 8 }, { name := "Ops", type := 36, offset := 2, embedded := false, tag := "", pkgPath := "", byteOffset := 16 }], [.int .i64 0, .int .i64 0, .slice none 0 0], []⟩
  | 82 => some ⟨2, 32, true, .struct #[{ name := "Key", type := 9, offset := 0, embedded := false, tag := "", pkgPath := "", byteOffset := 0 }, { name := "Val", type := 9, offset := 1, embedded := false, tag := "", pkgPath := "", byteOffset := 16 }], [.string ⟨#[]⟩, .string ⟨#[]⟩], []⟩
  | 90 => some ⟨1, 24, false, .slice 5, [.slice none 0 0], []⟩
  | 92 => some ⟨1, 8, false, .pointer 95, [.pointer none], []⟩
  | 93 => some ⟨1, 24, false, .slice 3, [.slice none 0 0], []⟩
  | 95 => some ⟨3, 72, true, .struct #[{ name := "m", type := 30, offset := 0, embedded := false, tag := "", pkgPath := "loop.example/g00244/spec", byteOffset := 0 }, { name := "held", type := 29, offset := 1, embedded := false, tag := "", pkgPath := "loop.example/g00244/spec", byteOffset := 24 }, { name := "seen", type := 93, offset := 2, embedded := false, tag := "", pkgPath := "loop.example/g00244/spec", byteOffset := 48 }], [.slice none 0 0, .slice none 0 0, .slice none 0 0], []⟩
  | 101 => some ⟨2, 48, true, .struct #[{ name := "pairs", type := 30, offset := 0, embedded := false, tag := "", pkgPath := "loop.example/g00244/impl", byteOffset := 0 }, { name := "held", type := 29, offset := 1, embedded := false, tag := "", pkgPath := "loop.example/g00244/impl", byteOffset := 24 }], [.slice none 0 0, .slice none 0 0], []⟩
  | 107 => some ⟨1, 8, false, .pointer 101, [.pointer none], []⟩
  | _ => none
theorem tt3 : TDok Tryz.prog 3 ⟨1, 8, false, .int .i64, [.int .i64 0], []⟩ := TDok.mk' (z := .int .i64 0) (by kernel_rfl) (by kernel_rfl) rfl rfl rfl rfl (by intro h; first | rfl | cases h)
theorem tt4 : TDok Tryz.prog 4 ⟨1, 1, false, .bool, [.bool false], []⟩ := TDok.mk' (z := .bool false) (by kernel_rfl) (by kernel_rfl) rfl rfl rfl rfl (by intro h; first | rfl | cases h)
theorem tt5 : TDok Tryz.prog 5 ⟨1, 1, false, .int .u8, [.int .u8 0], []⟩ := TDok.mk' (z := .int .u8 0) (by kernel_rfl) (by kernel_rfl) rfl rfl rfl rfl (by intro h; first | rfl | cases h)
theorem tt9 : TDok Tryz.prog 9 ⟨1, 16, false, .string, [.string ⟨#[]⟩], []⟩ := TDok.mk' (z := .string ⟨#[]⟩) (by kernel_rfl) (by kernel_rfl) rfl rfl rfl rfl (by intro h; first | rfl | cases h)
theorem E13 : TDok Tryz.prog 22 ⟨1, 24, false, .slice 65, [.slice none 0 0], []⟩ := TDok.mk' (z := .slice none 0 0) (by kernel_rfl) (by kernel_rfl) rfl rfl rfl rfl (by intro h; first | rfl | cases h)
theorem E14 : TDok Tryz.prog 23 ⟨1, 24, false, .slice 68, [.slice none 0 0], []⟩ := TDok.mk' (z := .slice none 0 0) (by kernel_rfl) (by kernel_rfl) rfl rfl rfl rfl (by intro h; first | rfl | cases h)
theorem E15 : TDok Tryz.prog 25 ⟨5, 88, true, .struct #[{ name := "Id", type := 3, offset := 0, embedded := false, tag := "", pkgPath := "", byteOffset := 0 }, { name := "Log", type := 22, offset := 1, embedded := false, tag := "", pkgPath := "", byteOffset := 8 }, { name := "Sure", type := 3, offset := 2, embedded := false, tag := "", pkgPath := "", byteOffset := 32 }, { name := "Map", type := 23, offset := 3, embedded := false, tag := "", pkgPath := "", byteOffset := 40 }, { name := "Held", type := 22, offset := 4, embedded := false, tag := "", pkgPath := "", byteOffset := 64 }], [.int .i64 0, .slice none 0 0, .int .i64 0, .slice none 0 0, .slice none 0 0], []⟩ := TDok.mk' (z := .agg #[.int .i64 0, .slice none 0 0, .int .i64 0, .slice none 0 0, .slice none 0 0]) (by kernel_rfl) (by kernel_rfl) rfl rfl rfl rfl (by intro h; first | rfl | cases h)
theorem E16 : TDok Tryz.prog 26 ⟨1, 24, false, .slice 47, [.slice none 0 0], []⟩ := TDok.mk' (z := .slice none 0 0) (by kernel_rfl) (by kernel_rfl) rfl rfl rfl rfl (by intro h; first | rfl | cases h)
theorem E17 : TDok Tryz.prog 29 ⟨1, 24, false, .slice 80, [.slice none 0 0], []⟩ := TDok.mk' (z := .slice none 0 0) (by kernel_rfl) (by kernel_rfl) rfl rfl rfl rfl (by intro h; first | rfl | cases h)
theorem E18 : TDok Tryz.prog 30 ⟨1, 24, false, .slice 82, [.slice none 0 0], []⟩ := TDok.mk' (z := .slice none 0 0) (by kernel_rfl) (by kernel_rfl) rfl rfl rfl rfl (by intro h; first | rfl | cases h)
theorem E19 : TDok Tryz.prog 32 ⟨5, 88, true, .struct #[{ name := "Id", type := 3, offset := 0, embedded := false, tag := "", pkgPath := "", byteOffset := 0 }, { name := "Log", type := 29, offset := 1, embedded := false, tag := "", pkgPath := "", byteOffset := 8 }, { name := "Sure", type := 3, offset := 2, embedded := false, tag := "", pkgPath := "", byteOffset := 32 }, { name := "Map", type := 30, offset := 3, embedded := false, tag := "", pkgPath := "", byteOffset := 40 }, { name := "Held", type := 29, offset := 4, embedded := false, tag := "", pkgPath := "", byteOffset := 64 }], [.int .i64 0, .slice none 0 0, .int .i64 0, .slice none 0 0, .slice none 0 0], []⟩ := TDok.mk' (z := .agg #[.int .i64 0, .slice none 0 0, .int .i64 0, .slice none 0 0, .slice none 0 0]) (by kernel_rfl) (by kernel_rfl) rfl rfl rfl rfl (by intro h; first | rfl | cases h)
theorem E2a : TDok Tryz.prog 36 ⟨1, 24, false, .slice 54, [.slice none 0 0], []⟩ := TDok.mk' (z := .slice none 0 0) (by kernel_rfl) (by kernel_rfl) rfl rfl rfl rfl (by intro h; first | rfl | cases h)
theorem E2b : TDok Tryz.prog 47 ⟨3, 40, true, .struct #[{ name := "Kind", type := 3, offset := 0, embedded := false, tag := "", pkgPath := "", byteOffset := 0 }, { name := "Key", type := 9, offset := 1, embedded := false, tag := "", pkgPath := "", byteOffset := 8 }, { name := "Val", type := 9, offset := 2, embedded := false, tag := "", pkgPath := "", byteOffset := 24 }], [.int .i64 0, .string ⟨#[]⟩, .string ⟨#[]⟩], []⟩ := TDok.mk' (z := .agg #[.int .i64 0, .string ⟨#[]⟩, .string ⟨#[]⟩]) (by kernel_rfl) (by kernel_rfl) rfl rfl rfl rfl (by intro h; first | rfl | cases h)
theorem E2c : TDok Tryz.prog 51 ⟨1, 8, false, .pointer 32, [.pointer none], []⟩ := TDok.mk' (z := .pointer none) (by kernel_rfl) (by kernel_rfl) rfl rfl rfl rfl (by intro h; first | rfl | cases h)
theorem E2d : TDok Tryz.prog 54 ⟨3, 40, true, .struct #[{ name := "Kind", type := 3, offset := 0, embedded := false, tag := "", pkgPath := "", byteOffset := 0 }, { name := "Key", type := 9, offset := 1, embedded := false, tag := "", pkgPath := "", byteOffset := 8 }, { name := "Val", type := 9, offset := 2, embedded := false, tag := "", pkgPath := "", byteOffset := 24 }], [.int .i64 0, .string ⟨#[]⟩, .string ⟨#[]⟩], []⟩ := TDok.mk' (z := .agg #[.int .i64 0, .string ⟨#[]⟩, .string ⟨#[]⟩]) (by kernel_rfl) (by kernel_rfl) rfl rfl rfl rfl (by intro h; first | rfl | cases h)
theorem E2e : TDok Tryz.prog 65 ⟨3, 40, true, .struct #[{ name := "Kind", type := 3, offset := 0, embedded := false, tag := "", pkgPath := "", byteOffset := 0 }, { name := "Tx", type := 3, offset := 1, embedded := false, tag := "", pkgPath := "", byteOffset := 8 }, { name := "Ops", type := 26, offset := 2, embedded := false, tag := "", pkgPath := "", byteOffset := 16 }], [.int .i64 0, .int .i64 0, .slice none 0 0], []⟩ := TDok.mk' (z := .agg #[.int .i64 0, .int .i64 0, .slice none 0 0]) (by kernel_rfl) (by kernel_rfl) rfl rfl rfl rfl (by intro h; first | rfl | cases h)
theorem E2f : TDok Tryz.prog 68 ⟨2, 32, true, .struct #[{ name := "Key", type := 9, offset := 0, embedded := false, tag := "", pkgPath := "", byteOffset := 0 }, { name := "Val", type := 9, offset := 1, embedded := false, tag := "", pkgPath := "", byteOffset := 16 }], [.string ⟨#[]⟩, .string ⟨#[]⟩], []⟩ := TDok.mk' (z := .agg #[.string ⟨#[]⟩, .string ⟨#[]⟩]) (by kernel_rfl) (by kernel_rfl) rfl rfl rfl rfl (by intro h; first | rfl | cases h)
theorem E2g : TDok Tryz.prog 80 ⟨3, 40, true, .struct #[{ name := "Kind", type := 3, offset := 0, embedded := false, tag := "", pkgPath := "", byteOffset := 0 }, { name := "Tx", type := 3, offset := 1, embedded := false, tag := "", pkgPath := "", byteOffset := 8 }, { name := "Ops", type := 36, offset := 2, embedded := false, tag := "", pkgPath := "", byteOffset := 16 }], [.int .i64 0, .int .i64 0, .slice none 0 0], []⟩ := TDok.mk' (z := .agg #[.int .i64 0, .int .i64 0, .slice none 0 0]) (by kernel_rfl) (by kernel_rfl) rfl rfl rfl rfl (by intro h; first | rfl | cases h)
theorem E2h : TDok Tryz.prog 82 ⟨2, 32, true, .struct #[{ name := "Key", type := 9, offset := 0, embedded := false, tag := "", pkgPath := "", byteOffset := 0 }, { name := "Val", type := 9, offset := 1, embedded := false, tag := "", pkgPath := "", byteOffset := 16 }], [.string ⟨#[]⟩, .string ⟨#[]⟩], []⟩ := TDok.mk' (z := .agg #[.string ⟨#[]⟩, .string ⟨#[]⟩]) (by kernel_rfl) (by kernel_rfl) rfl rfl rfl rfl (by intro h; first | rfl | cases h)
theorem E2i : TDok Tryz.prog 90 ⟨1, 24, false, .slice 5, [.slice none 0 0], []⟩ := TDok.mk' (z := .slice none 0 0) (by kernel_rfl) (by kernel_rfl) rfl rfl rfl rfl (by intro h; first | rfl | cases h)
theorem E2j : TDok Tryz.prog 92 ⟨1, 8, false, .pointer 95, [.pointer none], []⟩ := TDok.mk' (z := .pointer none) (by kernel_rfl) (by kernel_rfl) rfl rfl rfl rfl (by intro h; first | rfl | cases h)
theorem E2k : TDok Tryz.prog 93 ⟨1, 24, false, .slice 3, [.slice none 0 0], []⟩ := TDok.mk' (z := .slice none 0 0) (by kernel_rfl) (by kernel_rfl) rfl rfl rfl rfl (by intro h; first | rfl | cases h)
theorem E2l : TDok Tryz.prog 95 ⟨3, 72, true, .struct #[{ name := "m", type := 30, offset := 0, embedded := false, tag := "", pkgPath := "loop.example/g00244/spec", byteOffset := 0 }, { name := "held", type := 29, offset := 1, embedded := false, tag := "", pkgPath := "loop.example/g00244/spec", byteOffset := 24 }, { name := "seen", type := 93, offset := 2, embedded := false, tag := "", pkgPath := "loop.example/g00244/spec", byteOffset := 48 }], [.slice none 0 0, .slice none 0 0, .slice none 0 0], []⟩ := TDok.mk' (z := .agg #[.slice none 0 0, .slice none 0 0, .slice none 0 0]) (by kernel_rfl) (by kernel_rfl) rfl rfl rfl rfl (by intro h; first | rfl | cases h)
theorem E1N : TDok Tryz.prog 101 ⟨2, 48, true, .struct #[{ name := "pairs", type := 30, offset := 0, embedded := false, tag := "", pkgPath := "loop.example/g00244/impl", byteOffset := 0 }, { name := "held", type := 29, offset := 1, embedded := false, tag := "", pkgPath := "loop.example/g00244/impl", byteOffset := 24 }], [.slice none 0 0, .slice none 0 0], []⟩ := TDok.mk' (z := .agg #[.slice none 0 0, .slice none 0 0]) (by kernel_rfl) (by kernel_rfl) rfl rfl rfl rfl (by intro h; first | rfl | cases h)
theorem E1O : TDok Tryz.prog 107 ⟨1, 8, false, .pointer 101, [.pointer none], []⟩ := TDok.mk' (z := .pointer none) (by kernel_rfl) (by kernel_rfl) rfl rfl rfl rfl (by intro h; first | rfl | cases h)
theorem D6Q : TTok Tryz.prog tt := by
  intro t d h
  unfold tt at h
  split at h
  · obtain rfl := Option.some.inj h; exact tt3
  · obtain rfl := Option.some.inj h; exact tt4
  · obtain rfl := Option.some.inj h; exact tt5
  · obtain rfl := Option.some.inj h; exact tt9
  · obtain rfl := Option.some.inj h; exact E13
  · obtain rfl := Option.some.inj h; exact E14
  · obtain rfl := Option.some.inj h; exact E15
  · obtain rfl := Option.some.inj h; exact E16
  · obtain rfl := Option.some.inj h; exact E17
  · obtain rfl := Option.some.inj h; exact E18
  · obtain rfl := Option.some.inj h; exact E19
  · obtain rfl := Option.some.inj h; exact E2a
  · obtain rfl := Option.some.inj h; exact E2b
  · obtain rfl := Option.some.inj h; exact E2c
  · obtain rfl := Option.some.inj h; exact E2d
  · obtain rfl := Option.some.inj h; exact E2e
  · obtain rfl := Option.some.inj h; exact E2f
  · obtain rfl := Option.some.inj h; exact E2g
  · obtain rfl := Option.some.inj h; exact E2h
  · obtain rfl := Option.some.inj h; exact E2i
  · obtain rfl := Option.some.inj h; exact E2j
  · obtain rfl := Option.some.inj h; exact E2k
  · obtain rfl := Option.some.inj h; exact E2l
  · obtain rfl := Option.some.inj h; exact E1N
  · obtain rfl := Option.some.inj h; exact E1O
  · cases h
/-- What the slices of a struct hold. -/
def ow : TypeId → List TypeId := fun t => match t with
  | 25 => [65, 68, 65]
  | 32 => [80, 82, 80]
  | 65 => [47]
  | 80 => [54]
  | 95 => [82, 80, 3]
  | 101 => [82, 80]
  | _ => []
end Go.Proofs.YtgglehejlddghaaGreat.Eng
