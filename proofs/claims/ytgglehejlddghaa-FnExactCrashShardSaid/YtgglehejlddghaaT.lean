/- The types' table of this translation, checked against it. -/
import Derived.Test.YtgglehejlddghaaE35
import Derived.Test.YtgglehejlddghaaProg
namespace Go.Proofs.Ytgglehejlddghaa.Eng
open Go Go.RowKit
def tt : TT := fun t => match t with
  | 3 => some ⟨1, 8, false, .int .i64, [.int .i64 0], []⟩
  | 4 => some ⟨1, 1, false, .bool, [.bool false], []⟩
  | 5 => some ⟨1, 1, false, .int .u8, [.int .u8 0], []⟩
  | 9 => some ⟨1, 16, false, .string, [.string ⟨#[]⟩], []⟩
  | 22 => some ⟨1, 24, false, .slice 5, [.slice none 0 0], []⟩
  | 24 => some ⟨1, 24, false, .slice 32, [.slice none 0 0], []⟩
  | 25 => some ⟨1, 24, false, .slice 70, [.slice none 0 0], []⟩
  | 27 => some ⟨5, 88, true, .struct #[{ name := "Id", type := 3, offset := 0, embedded := false, tag := "", pkgPath := "", byteOffset := 0 }, { name := "Log", type := 24, offset := 1, embedded := false, tag := "", pkgPath := "", byteOffset := 8 }, { name := "Sure", type := 3, offset := 2, embedded := false, tag := "", pkgPath := "", byteOffset := 32 }, { name := "Map", type := 25, offset := 3, embedded := false, tag := "", pkgPath := "", byteOffset := 40 }, { name := "Held", type := 24, offset := 4, embedded := false, tag := "", pkgPath := "", byteOffset := 64 }], [.int .i64 0, .slice none 0 0, .int .i64 0, .slice none 0 0, .slice none 0 0], []⟩
  | 30 => some ⟨1, 24, false, .slice 85, [.slice none 0 0], []⟩
  | 32 => some ⟨3, 40, true, .struct #[{ name := "Kind", type := 3, offset := 0, embedded := false, tag := "", pkgPath := "", byteOffset := 0 }, { name := "Tx", type := 3, offset := 1, embedded := false, tag := "", pkgPath := "", byteOffset := 8 }, { name := "Ops", type := 30, offset := 2, embedded := false, tag := "", pkgPath := "", byteOffset := 16 }], [.int .i64 0, .int .i64 0, .slice none 0 0], []⟩
  | 49 => some ⟨1, 24, false, .slice 125, [.slice none 0 0], []⟩
  | 50 => some ⟨1, 24, false, .slice 127, [.slice none 0 0], []⟩
  | 52 => some ⟨5, 88, true, .struct #[{ name := "Id", type := 3, offset := 0, embedded := false, tag := "", pkgPath := "", byteOffset := 0 }, { name := "Log", type := 49, offset := 1, embedded := false, tag := "", pkgPath := "", byteOffset := 8 }, { name := "Sure", type := 3, offset := 2, embedded := false, tag := "", pkgPath := "", byteOffset := 32 }, { name := "Map", type := 50, offset := 3, embedded := false, tag := "", pkgPath := "", byteOffset := 40 }, { name := "Held", type := 49, offset := 4, embedded := false, tag := "", pkgPath := "", byteOffset := 64 }], [.int .i64 0, .slice none 0 0, .int .i64 0, .slice none 0 0, .slice none 0 0], []⟩
  | 70 => some ⟨2, 32, true, .struct #[{ name := "Key", type := 9, offset := 0, embedded := false, tag := "", pkgPath := "", byteOffset := 0 }, { name := "Val", type := 9, offset := 1, embedded := false, tag := "", pkgPath := "", byteOffset := 16 }], [.string ⟨#[]⟩, .string ⟨#[]⟩], []⟩
  | 73 => some ⟨1, 24, false, .slice 3, [.slice none 0 0], []⟩
  | 75 => some ⟨1, 8, false, .pointer 27, [.pointer none], []⟩
  | 85 => some ⟨3, 40, true, .struct #[{ name := "Kind", type := 3, offset := 0, embedded := false, tag := "", pkgPath := "", byteOffset := 0 }, { name := "Key", type := 9, offset := 1, embedded := false, tag := "", pkgPath := "", byteOffset := 8 }, { name := "Val", type := 9, offset := 2, embedded := false, tag := "", pkgPath := "", byteOffset := 24 }], [.int .i64 0, .string ⟨#[]⟩, .string ⟨#[]⟩], []⟩
  | 100 => some ⟨2, 48, true, .struct #[{ name := "pairs", type := 25, offset := 0, embedded := false, tag := "", pkgPath := "loop.example/g00244/impl", byteOffset := 0 }, { name := "held", type := 24, offset := 1, embedded := false, tag := "", pkgPath := "loop.example/g00244/impl", byteOffset := 24 }], [.slice none 0 0, .slice none 0 0], []⟩
  | 104 => some ⟨1, 8, false, .pointer 106, [.pointer none], []⟩
  | 106 => some ⟨3, 72, true, .struct #[{ name := "m", type := 25, offset := 0, embedded := false, tag := "", pkgPath := "loop.example/g00244/spec", byteOffset := 0 }, { name := "held", type := 24, offset := 1, embedded := false, tag := "", pkgPath := "loop.example/g00244/spec", byteOffset := 24 }, { name := "seen", type := 73, offset := 2, embedded := false, tag := "", pkgPath := "loop.example/g00244/spec", byteOffset := 48 }], [.slice none 0 0, .slice none 0 0, .slice none 0 0], []⟩
  | 123 => some ⟨1, 24, false, .slice 149, [.slice none 0 0], []⟩
  | 125 => some ⟨3, 40, true, .struct #[{ name := "Kind", type := 3, offset := 0, embedded := false, tag := "", pkgPath := "", byteOffset := 0 }, { name := "Tx", type := 3, offset := 1, embedded := false, tag := "", pkgPath := "", byteOffset := 8 }, { name := "Ops", type := 123, offset := 2, embedded := false, tag := "", pkgPath := "", byteOffset := 16 }], [.int .i64 0, .int .i64 0, .slice none 0 0], []⟩
  | 127 => some ⟨2, 32, true, .struct #[{ name := "Key", type := 9, offset := 0, embedded := false, tag := "", pkgPath := "", byteOffset := 0 }, { name := "Val", type := 9, offset := 1, embedded := false, tag := "", pkgPath := "", byteOffset := 16 }], [.string ⟨#[]⟩, .string ⟨#[]⟩], []⟩
  | 134 => some ⟨1, 8, false, .pointer 100, [.pointer none], []⟩
  | 149 => some ⟨3, 40, true, .struct #[{ name := "Kind", type := 3, offset := 0, embedded := false, tag := "", pkgPath := "", byteOffset := 0 }, { name := "Key", type := 9, offset := 1, embedded := false, tag := "", pkgPath := "", byteOffset := 8 }, { name := "Val", type := 9, offset := 2, embedded := false, tag := "", pkgPath := "", byteOffset := 24 }], [.int .i64 0, .string ⟨#[]⟩, .string ⟨#[]⟩], []⟩
  | _ => none
theorem tt3 : TDok Try.prog 3 ⟨1, 8, false, .int .i64, [.int .i64 0], []⟩ := TDok.mk' (z := .int .i64 0) (by kernel_rfl) (by kernel_rfl) rfl rfl rfl rfl (by intro h; first | rfl | cases h)
theorem tt4 : TDok Try.prog 4 ⟨1, 1, false, .bool, [.bool false], []⟩ := TDok.mk' (z := .bool false) (by kernel_rfl) (by kernel_rfl) rfl rfl rfl rfl (by intro h; first | rfl | cases h)
theorem tt5 : TDok Try.prog 5 ⟨1, 1, false, .int .u8, [.int .u8 0], []⟩ := TDok.mk' (z := .int .u8 0) (by kernel_rfl) (by kernel_rfl) rfl rfl rfl rfl (by intro h; first | rfl | cases h)
theorem tt9 : TDok Try.prog 9 ⟨1, 16, false, .string, [.string ⟨#[]⟩], []⟩ := TDok.mk' (z := .string ⟨#[]⟩) (by kernel_rfl) (by kernel_rfl) rfl rfl rfl rfl (by intro h; first | rfl | cases h)
theorem D9C : TDok Try.prog 22 ⟨1, 24, false, .slice 5, [.slice none 0 0], []⟩ := TDok.mk' (z := .slice none 0 0) (by kernel_rfl) (by kernel_rfl) rfl rfl rfl rfl (by intro h; first | rfl | cases h)
theorem D9D : TDok Try.prog 24 ⟨1, 24, false, .slice 32, [.slice none 0 0], []⟩ := TDok.mk' (z := .slice none 0 0) (by kernel_rfl) (by kernel_rfl) rfl rfl rfl rfl (by intro h; first | rfl | cases h)
theorem D9E : TDok Try.prog 25 ⟨1, 24, false, .slice 70, [.slice none 0 0], []⟩ := TDok.mk' (z := .slice none 0 0) (by kernel_rfl) (by kernel_rfl) rfl rfl rfl rfl (by intro h; first | rfl | cases h)
theorem D9F : TDok Try.prog 27 ⟨5, 88, true, .struct #[{ name := "Id", type := 3, offset := 0, embedded := false, tag := "", pkgPath := "", byteOffset := 0 }, { name := "Log", type := 24, offset := 1, embedded := false, tag := "", pkgPath := "", byteOffset := 8 }, { name := "Sure", type := 3, offset := 2, embedded := false, tag := "", pkgPath := "", byteOffset := 32 }, { name := "Map", type := 25, offset := 3, embedded := false, tag := "", pkgPath := "", byteOffset := 40 }, { name := "Held", type := 24, offset := 4, embedded := false, tag := "", pkgPath := "", byteOffset := 64 }], [.int .i64 0, .slice none 0 0, .int .i64 0, .slice none 0 0, .slice none 0 0], []⟩ := TDok.mk' (z := .agg #[.int .i64 0, .slice none 0 0, .int .i64 0, .slice none 0 0, .slice none 0 0]) (by kernel_rfl) (by kernel_rfl) rfl rfl rfl rfl (by intro h; first | rfl | cases h)
theorem D9G : TDok Try.prog 30 ⟨1, 24, false, .slice 85, [.slice none 0 0], []⟩ := TDok.mk' (z := .slice none 0 0) (by kernel_rfl) (by kernel_rfl) rfl rfl rfl rfl (by intro h; first | rfl | cases h)
theorem D9H : TDok Try.prog 32 ⟨3, 40, true, .struct #[{ name := "Kind", type := 3, offset := 0, embedded := false, tag := "", pkgPath := "", byteOffset := 0 }, { name := "Tx", type := 3, offset := 1, embedded := false, tag := "", pkgPath := "", byteOffset := 8 }, { name := "Ops", type := 30, offset := 2, embedded := false, tag := "", pkgPath := "", byteOffset := 16 }], [.int .i64 0, .int .i64 0, .slice none 0 0], []⟩ := TDok.mk' (z := .agg #[.int .i64 0, .int .i64 0, .slice none 0 0]) (by kernel_rfl) (by kernel_rfl) rfl rfl rfl rfl (by intro h; first | rfl | cases h)
theorem D9I : TDok Try.prog 49 ⟨1, 24, false, .slice 125, [.slice none 0 0], []⟩ := TDok.mk' (z := .slice none 0 0) (by kernel_rfl) (by kernel_rfl) rfl rfl rfl rfl (by intro h; first | rfl | cases h)
theorem D9J : TDok Try.prog 50 ⟨1, 24, false, .slice 127, [.slice none 0 0], []⟩ := TDok.mk' (z := .slice none 0 0) (by kernel_rfl) (by kernel_rfl) rfl rfl rfl rfl (by intro h; first | rfl | cases h)
theorem D9K : TDok Try.prog 52 ⟨5, 88, true, .struct #[{ name := "Id", type := 3, offset := 0, embedded := false, tag := "", pkgPath := "", byteOffset := 0 }, { name := "Log", type := 49, offset := 1, embedded := false, tag := "", pkgPath := "", byteOffset := 8 }, { name := "Sure", type := 3, offset := 2, embedded := false, tag := "", pkgPath := "", byteOffset := 32 }, { name := "Map", type := 50, offset := 3, embedded := false, tag := "", pkgPath := "", byteOffset := 40 }, { name := "Held", type := 49, offset := 4, embedded := false, tag := "", pkgPath := "", byteOffset := 64 }], [.int .i64 0, .slice none 0 0, .int .i64 0, .slice none 0 0, .slice none 0 0], []⟩ := TDok.mk' (z := .agg #[.int .i64 0, .slice none 0 0, .int .i64 0, .slice none 0 0, .slice none 0 0]) (by kernel_rfl) (by kernel_rfl) rfl rfl rfl rfl (by intro h; first | rfl | cases h)
theorem D9L : TDok Try.prog 70 ⟨2, 32, true, .struct #[{ name := "Key", type := 9, offset := 0, embedded := false, tag := "", pkgPath := "", byteOffset := 0 }, { name := "Val", type := 9, offset := 1, embedded := false, tag := "", pkgPath := "", byteOffset := 16 }], [.string ⟨#[]⟩, .string ⟨#[]⟩], []⟩ := TDok.mk' (z := .agg #[.string ⟨#[]⟩, .string ⟨#[]⟩]) (by kernel_rfl) (by kernel_rfl) rfl rfl rfl rfl (by intro h; first | rfl | cases h)
theorem D9M : TDok Try.prog 73 ⟨1, 24, false, .slice 3, [.slice none 0 0], []⟩ := TDok.mk' (z := .slice none 0 0) (by kernel_rfl) (by kernel_rfl) rfl rfl rfl rfl (by intro h; first | rfl | cases h)
theorem D9N : TDok Try.prog 75 ⟨1, 8, false, .pointer 27, [.pointer none], []⟩ := TDok.mk' (z := .pointer none) (by kernel_rfl) (by kernel_rfl) rfl rfl rfl rfl (by intro h; first | rfl | cases h)
theorem D9O : TDok Try.prog 85 ⟨3, 40, true, .struct #[{ name := "Kind", type := 3, offset := 0, embedded := false, tag := "", pkgPath := "", byteOffset := 0 }, { name := "Key", type := 9, offset := 1, embedded := false, tag := "", pkgPath := "", byteOffset := 8 }, { name := "Val", type := 9, offset := 2, embedded := false, tag := "", pkgPath := "", byteOffset := 24 }], [.int .i64 0, .string ⟨#[]⟩, .string ⟨#[]⟩], []⟩ := TDok.mk' (z := .agg #[.int .i64 0, .string ⟨#[]⟩, .string ⟨#[]⟩]) (by kernel_rfl) (by kernel_rfl) rfl rfl rfl rfl (by intro h; first | rfl | cases h)
theorem D9g : TDok Try.prog 100 ⟨2, 48, true, .struct #[{ name := "pairs", type := 25, offset := 0, embedded := false, tag := "", pkgPath := "loop.example/g00244/impl", byteOffset := 0 }, { name := "held", type := 24, offset := 1, embedded := false, tag := "", pkgPath := "loop.example/g00244/impl", byteOffset := 24 }], [.slice none 0 0, .slice none 0 0], []⟩ := TDok.mk' (z := .agg #[.slice none 0 0, .slice none 0 0]) (by kernel_rfl) (by kernel_rfl) rfl rfl rfl rfl (by intro h; first | rfl | cases h)
theorem D9h : TDok Try.prog 104 ⟨1, 8, false, .pointer 106, [.pointer none], []⟩ := TDok.mk' (z := .pointer none) (by kernel_rfl) (by kernel_rfl) rfl rfl rfl rfl (by intro h; first | rfl | cases h)
theorem D9i : TDok Try.prog 106 ⟨3, 72, true, .struct #[{ name := "m", type := 25, offset := 0, embedded := false, tag := "", pkgPath := "loop.example/g00244/spec", byteOffset := 0 }, { name := "held", type := 24, offset := 1, embedded := false, tag := "", pkgPath := "loop.example/g00244/spec", byteOffset := 24 }, { name := "seen", type := 73, offset := 2, embedded := false, tag := "", pkgPath := "loop.example/g00244/spec", byteOffset := 48 }], [.slice none 0 0, .slice none 0 0, .slice none 0 0], []⟩ := TDok.mk' (z := .agg #[.slice none 0 0, .slice none 0 0, .slice none 0 0]) (by kernel_rfl) (by kernel_rfl) rfl rfl rfl rfl (by intro h; first | rfl | cases h)
theorem D9j : TDok Try.prog 123 ⟨1, 24, false, .slice 149, [.slice none 0 0], []⟩ := TDok.mk' (z := .slice none 0 0) (by kernel_rfl) (by kernel_rfl) rfl rfl rfl rfl (by intro h; first | rfl | cases h)
theorem D9k : TDok Try.prog 125 ⟨3, 40, true, .struct #[{ name := "Kind", type := 3, offset := 0, embedded := false, tag := "", pkgPath := "", byteOffset := 0 }, { name := "Tx", type := 3, offset := 1, embedded := false, tag := "", pkgPath := "", byteOffset := 8 }, { name := "Ops", type := 123, offset := 2, embedded := false, tag := "", pkgPath := "", byteOffset := 16 }], [.int .i64 0, .int .i64 0, .slice none 0 0], []⟩ := TDok.mk' (z := .agg #[.int .i64 0, .int .i64 0, .slice none 0 0]) (by kernel_rfl) (by kernel_rfl) rfl rfl rfl rfl (by intro h; first | rfl | cases h)
theorem D9l : TDok Try.prog 127 ⟨2, 32, true, .struct #[{ name := "Key", type := 9, offset := 0, embedded := false, tag := "", pkgPath := "", byteOffset := 0 }, { name := "Val", type := 9, offset := 1, embedded := false, tag := "", pkgPath := "", byteOffset := 16 }], [.string ⟨#[]⟩, .string ⟨#[]⟩], []⟩ := TDok.mk' (z := .agg #[.string ⟨#[]⟩, .string ⟨#[]⟩]) (by kernel_rfl) (by kernel_rfl) rfl rfl rfl rfl (by intro h; first | rfl | cases h)
theorem D9m : TDok Try.prog 134 ⟨1, 8, false, .pointer 100, [.pointer none], []⟩ := TDok.mk' (z := .pointer none) (by kernel_rfl) (by kernel_rfl) rfl rfl rfl rfl (by intro h; first | rfl | cases h)
theorem D9n : TDok Try.prog 149 ⟨3, 40, true, .struct #[{ name := "Kind", type := 3, offset := 0, embedded := false, tag := "", pkgPath := "", byteOffset := 0 }, { name := "Key", type := 9, offset := 1, embedded := false, tag := "", pkgPath := "", byteOffset := 8 }, { name := "Val", type := 9, offset := 2, embedded := false, tag := "", pkgPath := "", byteOffset := 24 }], [.int .i64 0, .string ⟨#[]⟩, .string ⟨#[]⟩], []⟩ := TDok.mk' (z := .agg #[.int .i64 0, .string ⟨#[]⟩, .string ⟨#[]⟩]) (by kernel_rfl) (by kernel_rfl) rfl rfl rfl rfl (by intro h; first | rfl | cases h)
theorem D6v : TTok Try.prog tt := by
  intro t d h
  unfold tt at h
  split at h
  · obtain rfl := Option.some.inj h; exact tt3
  · obtain rfl := Option.some.inj h; exact tt4
  · obtain rfl := Option.some.inj h; exact tt5
  · obtain rfl := Option.some.inj h; exact tt9
  · obtain rfl := Option.some.inj h; exact D9C
  · obtain rfl := Option.some.inj h; exact D9D
  · obtain rfl := Option.some.inj h; exact D9E
  · obtain rfl := Option.some.inj h; exact D9F
  · obtain rfl := Option.some.inj h; exact D9G
  · obtain rfl := Option.some.inj h; exact D9H
  · obtain rfl := Option.some.inj h; exact D9I
  · obtain rfl := Option.some.inj h; exact D9J
  · obtain rfl := Option.some.inj h; exact D9K
  · obtain rfl := Option.some.inj h; exact D9L
  · obtain rfl := Option.some.inj h; exact D9M
  · obtain rfl := Option.some.inj h; exact D9N
  · obtain rfl := Option.some.inj h; exact D9O
  · obtain rfl := Option.some.inj h; exact D9g
  · obtain rfl := Option.some.inj h; exact D9h
  · obtain rfl := Option.some.inj h; exact D9i
  · obtain rfl := Option.some.inj h; exact D9j
  · obtain rfl := Option.some.inj h; exact D9k
  · obtain rfl := Option.some.inj h; exact D9l
  · obtain rfl := Option.some.inj h; exact D9m
  · obtain rfl := Option.some.inj h; exact D9n
  · cases h
/-- What the slices of a struct hold. -/
def ow : TypeId → List TypeId := fun t => match t with
  | 27 => [32, 70, 32]
  | 32 => [85]
  | 52 => [125, 127, 125]
  | 100 => [70, 32]
  | 106 => [70, 32, 3]
  | 125 => [149]
  | _ => []
end Go.Proofs.Ytgglehejlddghaa.Eng
