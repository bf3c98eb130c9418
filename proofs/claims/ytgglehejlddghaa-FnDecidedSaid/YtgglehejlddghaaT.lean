/- The types' table of this translation, checked against it. -/
import Derived.Test.YtgglehejlddghaaE35
import Derived.Test.YtgglehejlddghaaProg
namespace Go.Proofs.Ytgglehejlddghaa.Eng
open Go Go.RowKit
def tt : TT := fun t => match t with
  | 3 => some ⟨1, 8, false, .int .i64, [.int .i64 0]⟩
  | 4 => some ⟨1, 1, false, .bool, [.bool false]⟩
  | 5 => some ⟨1, 1, false, .int .u8, [.int .u8 0]⟩
  | 9 => some ⟨1, 16, false, .string, [.string ⟨#[]⟩]⟩
  | 22 => some ⟨1, 24, false, .slice 5, [.slice none 0 0]⟩
  | 24 => some ⟨1, 24, false, .slice 32, [.slice none 0 0]⟩
  | 25 => some ⟨1, 24, false, .slice 70, [.slice none 0 0]⟩
  | 27 => some ⟨5, 88, true, .struct #[{ name := "Id", type := 3, offset := 0, embedded := false, tag := "", pkgPath := "", byteOffset := 0 }, { name := "Log", type := 24, offset := 1, embedded := false, tag := "", pkgPath := "", byteOffset := 8 }, { name := "Sure", type := 3, offset := 2, embedded := false, tag := "", pkgPath := "", byteOffset := 32 }, { name := "Map", type := 25, offset := 3, embedded := false, tag := "", pkgPath := "", byteOffset := 40 }, { name := "Held", type := 24, offset := 4, embedded := false, tag := "", pkgPath := "", byteOffset := 64 }], [.int .i64 0, .slice none 0 0, .int .i64 0, .slice none 0 0, .slice none 0 0]⟩
  | 30 => some ⟨1, 24, false, .slice 85, [.slice none 0 0]⟩
  | 32 => some ⟨3, 40, true, .struct #[{ name := "Kind", type := 3, offset := 0, embedded := false, tag := "", pkgPath := "", byteOffset := 0 }, { name := "Tx", type := 3, offset := 1, embedded := false, tag := "", pkgPath := "", byteOffset := 8 }, { name := "Ops", type := 30, offset := 2, embedded := false, tag := "", pkgPath := "", byteOffset := 16 }], [.int .i64 0, .int .i64 0, .slice none 0 0]⟩
  | 59 => some ⟨1, 8, false, .pointer 95, [.pointer none]⟩
  | 70 => some ⟨2, 32, true, .struct #[{ name := "Key", type := 9, offset := 0, embedded := false, tag := "", pkgPath := "", byteOffset := 0 }, { name := "Val", type := 9, offset := 1, embedded := false, tag := "", pkgPath := "", byteOffset := 16 }], [.string ⟨#[]⟩, .string ⟨#[]⟩]⟩
  | 73 => some ⟨1, 24, false, .slice 3, [.slice none 0 0]⟩
  | 75 => some ⟨1, 8, false, .pointer 27, [.pointer none]⟩
  | 85 => some ⟨3, 40, true, .struct #[{ name := "Kind", type := 3, offset := 0, embedded := false, tag := "", pkgPath := "", byteOffset := 0 }, { name := "Key", type := 9, offset := 1, embedded := false, tag := "", pkgPath := "", byteOffset := 8 }, { name := "Val", type := 9, offset := 2, embedded := false, tag := "", pkgPath := "", byteOffset := 24 }], [.int .i64 0, .string ⟨#[]⟩, .string ⟨#[]⟩]⟩
  | 95 => some ⟨3, 40, true, .struct #[{ name := "b", type := 22, offset := 0, embedded := false, tag := "", pkgPath := "loop.example/g00244/spec", byteOffset := 0 }, { name := "i", type := 3, offset := 1, embedded := false, tag := "", pkgPath := "loop.example/g00244/spec", byteOffset := 24 }, { name := "h", type := 3, offset := 2, embedded := false, tag := "", pkgPath := "loop.example/g00244/spec", byteOffset := 32 }], [.slice none 0 0, .int .i64 0, .int .i64 0]⟩
  | 100 => some ⟨2, 48, true, .struct #[{ name := "pairs", type := 25, offset := 0, embedded := false, tag := "", pkgPath := "loop.example/g00244/impl", byteOffset := 0 }, { name := "held", type := 24, offset := 1, embedded := false, tag := "", pkgPath := "loop.example/g00244/impl", byteOffset := 24 }], [.slice none 0 0, .slice none 0 0]⟩
  | 104 => some ⟨1, 8, false, .pointer 106, [.pointer none]⟩
  | 106 => some ⟨3, 72, true, .struct #[{ name := "m", type := 25, offset := 0, embedded := false, tag := "", pkgPath := "loop.example/g00244/spec", byteOffset := 0 }, { name := "held", type := 24, offset := 1, embedded := false, tag := "", pkgPath := "loop.example/g00244/spec", byteOffset := 24 }, { name := "seen", type := 73, offset := 2, embedded := false, tag := "", pkgPath := "loop.example/g00244/spec", byteOffset := 48 }], [.slice none 0 0, .slice none 0 0, .slice none 0 0]⟩
  | 134 => some ⟨1, 8, false, .pointer 100, [.pointer none]⟩
  | 138 => some ⟨1, 24, false, .slice 9, [.slice none 0 0]⟩
  | _ => none
theorem tt3 : TDok Try.prog 3 ⟨1, 8, false, .int .i64, [.int .i64 0]⟩ := TDok.mk' (z := .int .i64 0) (by kernel_rfl) (by kernel_rfl) rfl rfl rfl rfl (by intro h; first | rfl | cases h)
theorem tt4 : TDok Try.prog 4 ⟨1, 1, false, .bool, [.bool false]⟩ := TDok.mk' (z := .bool false) (by kernel_rfl) (by kernel_rfl) rfl rfl rfl rfl (by intro h; first | rfl | cases h)
theorem tt5 : TDok Try.prog 5 ⟨1, 1, false, .int .u8, [.int .u8 0]⟩ := TDok.mk' (z := .int .u8 0) (by kernel_rfl) (by kernel_rfl) rfl rfl rfl rfl (by intro h; first | rfl | cases h)
theorem tt9 : TDok Try.prog 9 ⟨1, 16, false, .string, [.string ⟨#[]⟩]⟩ := TDok.mk' (z := .string ⟨#[]⟩) (by kernel_rfl) (by kernel_rfl) rfl rfl rfl rfl (by intro h; first | rfl | cases h)
theorem tt22 : TDok Try.prog 22 ⟨1, 24, false, .slice 5, [.slice none 0 0]⟩ := TDok.mk' (z := .slice none 0 0) (by kernel_rfl) (by kernel_rfl) rfl rfl rfl rfl (by intro h; first | rfl | cases h)
theorem tt24 : TDok Try.prog 24 ⟨1, 24, false, .slice 32, [.slice none 0 0]⟩ := TDok.mk' (z := .slice none 0 0) (by kernel_rfl) (by kernel_rfl) rfl rfl rfl rfl (by intro h; first | rfl | cases h)
theorem tt25 : TDok Try.prog 25 ⟨1, 24, false, .slice 70, [.slice none 0 0]⟩ := TDok.mk' (z := .slice none 0 0) (by kernel_rfl) (by kernel_rfl) rfl rfl rfl rfl (by intro h; first | rfl | cases h)
theorem tt27 : TDok Try.prog 27 ⟨5, 88, true, .struct #[{ name := "Id", type := 3, offset := 0, embedded := false, tag := "", pkgPath := "", byteOffset := 0 }, { name := "Log", type := 24, offset := 1, embedded := false, tag := "", pkgPath := "", byteOffset := 8 }, { name := "Sure", type := 3, offset := 2, embedded := false, tag := "", pkgPath := "", byteOffset := 32 }, { name := "Map", type := 25, offset := 3, embedded := false, tag := "", pkgPath := "", byteOffset := 40 }, { name := "Held", type := 24, offset := 4, embedded := false, tag := "", pkgPath := "", byteOffset := 64 }], [.int .i64 0, .slice none 0 0, .int .i64 0, .slice none 0 0, .slice none 0 0]⟩ := TDok.mk' (z := .agg #[.int .i64 0, .slice none 0 0, .int .i64 0, .slice none 0 0, .slice none 0 0]) (by kernel_rfl) (by kernel_rfl) rfl rfl rfl rfl (by intro h; first | rfl | cases h)
theorem tt30 : TDok Try.prog 30 ⟨1, 24, false, .slice 85, [.slice none 0 0]⟩ := TDok.mk' (z := .slice none 0 0) (by kernel_rfl) (by kernel_rfl) rfl rfl rfl rfl (by intro h; first | rfl | cases h)
theorem tt32 : TDok Try.prog 32 ⟨3, 40, true, .struct #[{ name := "Kind", type := 3, offset := 0, embedded := false, tag := "", pkgPath := "", byteOffset := 0 }, { name := "Tx", type := 3, offset := 1, embedded := false, tag := "", pkgPath := "", byteOffset := 8 }, { name := "Ops", type := 30, offset := 2, embedded := false, tag := "", pkgPath := "", byteOffset := 16 }], [.int .i64 0, .int .i64 0, .slice none 0 0]⟩ := TDok.mk' (z := .agg #[.int .i64 0, .int .i64 0, .slice none 0 0]) (by kernel_rfl) (by kernel_rfl) rfl rfl rfl rfl (by intro h; first | rfl | cases h)
theorem tt59 : TDok Try.prog 59 ⟨1, 8, false, .pointer 95, [.pointer none]⟩ := TDok.mk' (z := .pointer none) (by kernel_rfl) (by kernel_rfl) rfl rfl rfl rfl (by intro h; first | rfl | cases h)
theorem tt70 : TDok Try.prog 70 ⟨2, 32, true, .struct #[{ name := "Key", type := 9, offset := 0, embedded := false, tag := "", pkgPath := "", byteOffset := 0 }, { name := "Val", type := 9, offset := 1, embedded := false, tag := "", pkgPath := "", byteOffset := 16 }], [.string ⟨#[]⟩, .string ⟨#[]⟩]⟩ := TDok.mk' (z := .agg #[.string ⟨#[]⟩, .string ⟨#[]⟩]) (by kernel_rfl) (by kernel_rfl) rfl rfl rfl rfl (by intro h; first | rfl | cases h)
theorem tt73 : TDok Try.prog 73 ⟨1, 24, false, .slice 3, [.slice none 0 0]⟩ := TDok.mk' (z := .slice none 0 0) (by kernel_rfl) (by kernel_rfl) rfl rfl rfl rfl (by intro h; first | rfl | cases h)
theorem tt75 : TDok Try.prog 75 ⟨1, 8, false, .pointer 27, [.pointer none]⟩ := TDok.mk' (z := .pointer none) (by kernel_rfl) (by kernel_rfl) rfl rfl rfl rfl (by intro h; first | rfl | cases h)
theorem tt85 : TDok Try.prog 85 ⟨3, 40, true, .struct #[{ name := "Kind", type := 3, offset := 0, embedded := false, tag := "", pkgPath := "", byteOffset := 0 }, { name := "Key", type := 9, offset := 1, embedded := false, tag := "", pkgPath := "", byteOffset := 8 }, { name := "Val", type := 9, offset := 2, embedded := false, tag := "", pkgPath := "", byteOffset := 24 }], [.int .i64 0, .string ⟨#[]⟩, .string ⟨#[]⟩]⟩ := TDok.mk' (z := .agg #[.int .i64 0, .string ⟨#[]⟩, .string ⟨#[]⟩]) (by kernel_rfl) (by kernel_rfl) rfl rfl rfl rfl (by intro h; first | rfl | cases h)
theorem tt95 : TDok Try.prog 95 ⟨3, 40, true, .struct #[{ name := "b", type := 22, offset := 0, embedded := false, tag := "", pkgPath := "loop.example/g00244/spec", byteOffset := 0 }, { name := "i", type := 3, offset := 1, embedded := false, tag := "", pkgPath := "loop.example/g00244/spec", byteOffset := 24 }, { name := "h", type := 3, offset := 2, embedded := false, tag := "", pkgPath := "loop.example/g00244/spec", byteOffset := 32 }], [.slice none 0 0, .int .i64 0, .int .i64 0]⟩ := TDok.mk' (z := .agg #[.slice none 0 0, .int .i64 0, .int .i64 0]) (by kernel_rfl) (by kernel_rfl) rfl rfl rfl rfl (by intro h; first | rfl | cases h)
theorem tt100 : TDok Try.prog 100 ⟨2, 48, true, .struct #[{ name := "pairs", type := 25, offset := 0, embedded := false, tag := "", pkgPath := "loop.example/g00244/impl", byteOffset := 0 }, { name := "held", type := 24, offset := 1, embedded := false, tag := "", pkgPath := "loop.example/g00244/impl", byteOffset := 24 }], [.slice none 0 0, .slice none 0 0]⟩ := TDok.mk' (z := .agg #[.slice none 0 0, .slice none 0 0]) (by kernel_rfl) (by kernel_rfl) rfl rfl rfl rfl (by intro h; first | rfl | cases h)
theorem tt104 : TDok Try.prog 104 ⟨1, 8, false, .pointer 106, [.pointer none]⟩ := TDok.mk' (z := .pointer none) (by kernel_rfl) (by kernel_rfl) rfl rfl rfl rfl (by intro h; first | rfl | cases h)
theorem tt106 : TDok Try.prog 106 ⟨3, 72, true, .struct #[{ name := "m", type := 25, offset := 0, embedded := false, tag := "", pkgPath := "loop.example/g00244/spec", byteOffset := 0 }, { name := "held", type := 24, offset := 1, embedded := false, tag := "", pkgPath := "loop.example/g00244/spec", byteOffset := 24 }, { name := "seen", type := 73, offset := 2, embedded := false, tag := "", pkgPath := "loop.example/g00244/spec", byteOffset := 48 }], [.slice none 0 0, .slice none 0 0, .slice none 0 0]⟩ := TDok.mk' (z := .agg #[.slice none 0 0, .slice none 0 0, .slice none 0 0]) (by kernel_rfl) (by kernel_rfl) rfl rfl rfl rfl (by intro h; first | rfl | cases h)
theorem tt134 : TDok Try.prog 134 ⟨1, 8, false, .pointer 100, [.pointer none]⟩ := TDok.mk' (z := .pointer none) (by kernel_rfl) (by kernel_rfl) rfl rfl rfl rfl (by intro h; first | rfl | cases h)
theorem tt138 : TDok Try.prog 138 ⟨1, 24, false, .slice 9, [.slice none 0 0]⟩ := TDok.mk' (z := .slice none 0 0) (by kernel_rfl) (by kernel_rfl) rfl rfl rfl rfl (by intro h; first | rfl | cases h)
theorem tt_ok : TTok Try.prog tt := by
  intro t d h
  unfold tt at h
  split at h
  · obtain rfl := Option.some.inj h; exact tt3
  · obtain rfl := Option.some.inj h; exact tt4
  · obtain rfl := Option.some.inj h; exact tt5
  · obtain rfl := Option.some.inj h; exact tt9
  · obtain rfl := Option.some.inj h; exact tt22
  · obtain rfl := Option.some.inj h; exact tt24
  · obtain rfl := Option.some.inj h; exact tt25
  · obtain rfl := Option.some.inj h; exact tt27
  · obtain rfl := Option.some.inj h; exact tt30
  · obtain rfl := Option.some.inj h; exact tt32
  · obtain rfl := Option.some.inj h; exact tt59
  · obtain rfl := Option.some.inj h; exact tt70
  · obtain rfl := Option.some.inj h; exact tt73
  · obtain rfl := Option.some.inj h; exact tt75
  · obtain rfl := Option.some.inj h; exact tt85
  · obtain rfl := Option.some.inj h; exact tt95
  · obtain rfl := Option.some.inj h; exact tt100
  · obtain rfl := Option.some.inj h; exact tt104
  · obtain rfl := Option.some.inj h; exact tt106
  · obtain rfl := Option.some.inj h; exact tt134
  · obtain rfl := Option.some.inj h; exact tt138
  · cases h
end Go.Proofs.Ytgglehejlddghaa.Eng
