/- The types' table of this translation, checked against it. -/
import Derived.Test.YtcofibhklbfgoaaE35
import Derived.Test.YtcofibhklbfgoaaProg
namespace Go.Proofs.Ytcofibhklbfgoaa.Eng
open Go Go.RowKit
def tt : TT := fun t => match t with
  | 3 => some ⟨1, 8, false, .int .i64, [.int .i64 0], []⟩
  | 4 => some ⟨1, 1, false, .bool, [.bool false], []⟩
  | 5 => some ⟨1, 1, false, .int .u8, [.int .u8 0], []⟩
  | 9 => some ⟨1, 16, false, .string, [.string ⟨#[]⟩], []⟩
  | 22 => some ⟨1, 24, false, .slice 124, [.slice none 0 0], []⟩
  | 23 => some ⟨1, 24, false, .slice 111, [.slice none 0 0], []⟩
  | 25 => some ⟨6, 80, true, .struct #[{ name := "N", type := 3, offset := 0, embedded := false, tag := "", pkgPath := "", byteOffset := 0 }, { name := "Life", type := 3, offset := 1, embedded := false, tag := "", pkgPath := "", byteOffset := 8 }, { name := "Next", type := 3, offset := 2, embedded := false, tag := "", pkgPath := "", byteOffset := 16 }, { name := "Jobs", type := 22, offset := 3, embedded := false, tag := "", pkgPath := "", byteOffset := 24 }, { name := "Log", type := 23, offset := 4, embedded := false, tag := "", pkgPath := "", byteOffset := 48 }, { name := "Sure", type := 3, offset := 5, embedded := false, tag := "", pkgPath := "", byteOffset := 72 }], [.int .i64 0, .int .i64 0, .int .i64 0, .slice none 0 0, .slice none 0 0, .int .i64 0], []⟩
  | 26 => some ⟨1, 24, false, .slice 53, [.slice none 0 0], []⟩
  | 27 => some ⟨1, 24, false, .slice 89, [.slice none 0 0], []⟩
  | 28 => some ⟨1, 24, false, .slice 80, [.slice none 0 0], []⟩
  | 30 => some ⟨10, 176, true, .struct #[{ name := "C", type := 25, offset := 0, embedded := false, tag := "", pkgPath := "", byteOffset := 0 }, { name := "Shards", type := 26, offset := 6, embedded := false, tag := "", pkgPath := "", byteOffset := 80 }, { name := "Net", type := 27, offset := 7, embedded := false, tag := "", pkgPath := "", byteOffset := 104 }, { name := "Outs", type := 27, offset := 8, embedded := false, tag := "", pkgPath := "", byteOffset := 128 }, { name := "Begun", type := 28, offset := 9, embedded := false, tag := "", pkgPath := "", byteOffset := 152 }], [.int .i64 0, .int .i64 0, .int .i64 0, .slice none 0 0, .slice none 0 0, .int .i64 0, .slice none 0 0, .slice none 0 0, .slice none 0 0, .slice none 0 0], []⟩
  | 50 => some ⟨1, 24, false, .slice 69, [.slice none 0 0], []⟩
  | 51 => some ⟨1, 24, false, .slice 131, [.slice none 0 0], []⟩
  | 53 => some ⟨5, 88, true, .struct #[{ name := "Id", type := 3, offset := 0, embedded := false, tag := "", pkgPath := "", byteOffset := 0 }, { name := "Log", type := 50, offset := 1, embedded := false, tag := "", pkgPath := "", byteOffset := 8 }, { name := "Sure", type := 3, offset := 2, embedded := false, tag := "", pkgPath := "", byteOffset := 32 }, { name := "Map", type := 51, offset := 3, embedded := false, tag := "", pkgPath := "", byteOffset := 40 }, { name := "Held", type := 50, offset := 4, embedded := false, tag := "", pkgPath := "", byteOffset := 64 }], [.int .i64 0, .slice none 0 0, .int .i64 0, .slice none 0 0, .slice none 0 0], []⟩
  | 67 => some ⟨1, 24, false, .slice 83, [.slice none 0 0], []⟩
  | 69 => some ⟨3, 40, true, .struct #[{ name := "Kind", type := 3, offset := 0, embedded := false, tag := "", pkgPath := "", byteOffset := 0 }, { name := "Tx", type := 3, offset := 1, embedded := false, tag := "", pkgPath := "", byteOffset := 8 }, { name := "Ops", type := 67, offset := 2, embedded := false, tag := "", pkgPath := "", byteOffset := 16 }], [.int .i64 0, .int .i64 0, .slice none 0 0], []⟩
  | 80 => some ⟨2, 32, true, .struct #[{ name := "Tx", type := 3, offset := 0, embedded := false, tag := "", pkgPath := "", byteOffset := 0 }, { name := "Ops", type := 67, offset := 1, embedded := false, tag := "", pkgPath := "", byteOffset := 8 }], [.int .i64 0, .slice none 0 0], []⟩
  | 83 => some ⟨3, 40, true, .struct #[{ name := "Kind", type := 3, offset := 0, embedded := false, tag := "", pkgPath := "", byteOffset := 0 }, { name := "Key", type := 9, offset := 1, embedded := false, tag := "", pkgPath := "", byteOffset := 8 }, { name := "Val", type := 9, offset := 2, embedded := false, tag := "", pkgPath := "", byteOffset := 24 }], [.int .i64 0, .string ⟨#[]⟩, .string ⟨#[]⟩], []⟩
  | 89 => some ⟨5, 56, true, .struct #[{ name := "Kind", type := 3, offset := 0, embedded := false, tag := "", pkgPath := "", byteOffset := 0 }, { name := "Shard", type := 3, offset := 1, embedded := false, tag := "", pkgPath := "", byteOffset := 8 }, { name := "Tx", type := 3, offset := 2, embedded := false, tag := "", pkgPath := "", byteOffset := 16 }, { name := "Ops", type := 67, offset := 3, embedded := false, tag := "", pkgPath := "", byteOffset := 24 }, { name := "Yes", type := 4, offset := 4, embedded := false, tag := "", pkgPath := "", byteOffset := 48 }], [.int .i64 0, .int .i64 0, .int .i64 0, .slice none 0 0, .bool false], []⟩
  | 111 => some ⟨2, 16, true, .struct #[{ name := "Tx", type := 3, offset := 0, embedded := false, tag := "", pkgPath := "", byteOffset := 0 }, { name := "Yes", type := 4, offset := 1, embedded := false, tag := "", pkgPath := "", byteOffset := 8 }], [.int .i64 0, .bool false], []⟩
  | 122 => some ⟨1, 24, false, .slice 3, [.slice none 0 0], []⟩
  | 124 => some ⟨4, 64, true, .struct #[{ name := "Tx", type := 3, offset := 0, embedded := false, tag := "", pkgPath := "", byteOffset := 0 }, { name := "Ops", type := 67, offset := 1, embedded := false, tag := "", pkgPath := "", byteOffset := 8 }, { name := "State", type := 3, offset := 2, embedded := false, tag := "", pkgPath := "", byteOffset := 32 }, { name := "Yes", type := 122, offset := 3, embedded := false, tag := "", pkgPath := "", byteOffset := 40 }], [.int .i64 0, .slice none 0 0, .int .i64 0, .slice none 0 0], []⟩
  | 131 => some ⟨2, 32, true, .struct #[{ name := "Key", type := 9, offset := 0, embedded := false, tag := "", pkgPath := "", byteOffset := 0 }, { name := "Val", type := 9, offset := 1, embedded := false, tag := "", pkgPath := "", byteOffset := 16 }], [.string ⟨#[]⟩, .string ⟨#[]⟩], []⟩
  | 149 => some ⟨1, 24, false, .slice 5, [.slice none 0 0], []⟩
  | _ => none
theorem tt3 : TDok Try.prog 3 ⟨1, 8, false, .int .i64, [.int .i64 0], []⟩ := TDok.mk' (z := .int .i64 0) (by kernel_rfl) (by kernel_rfl) rfl rfl rfl rfl (by intro h; first | rfl | cases h)
theorem tt4 : TDok Try.prog 4 ⟨1, 1, false, .bool, [.bool false], []⟩ := TDok.mk' (z := .bool false) (by kernel_rfl) (by kernel_rfl) rfl rfl rfl rfl (by intro h; first | rfl | cases h)
theorem tt5 : TDok Try.prog 5 ⟨1, 1, false, .int .u8, [.int .u8 0], []⟩ := TDok.mk' (z := .int .u8 0) (by kernel_rfl) (by kernel_rfl) rfl rfl rfl rfl (by intro h; first | rfl | cases h)
theorem tt9 : TDok Try.prog 9 ⟨1, 16, false, .string, [.string ⟨#[]⟩], []⟩ := TDok.mk' (z := .string ⟨#[]⟩) (by kernel_rfl) (by kernel_rfl) rfl rfl rfl rfl (by intro h; first | rfl | cases h)
theorem C2G : TDok Try.prog 22 ⟨1, 24, false, .slice 124, [.slice none 0 0], []⟩ := TDok.mk' (z := .slice none 0 0) (by kernel_rfl) (by kernel_rfl) rfl rfl rfl rfl (by intro h; first | rfl | cases h)
theorem C2H : TDok Try.prog 23 ⟨1, 24, false, .slice 111, [.slice none 0 0], []⟩ := TDok.mk' (z := .slice none 0 0) (by kernel_rfl) (by kernel_rfl) rfl rfl rfl rfl (by intro h; first | rfl | cases h)
theorem C2I : TDok Try.prog 25 ⟨6, 80, true, .struct #[{ name := "N", type := 3, offset := 0, embedded := false, tag := "", pkgPath := "", byteOffset := 0 }, { name := "Life", type := 3, offset := 1, embedded := false, tag := "", pkgPath := "", byteOffset := 8 }, { name := "Next", type := 3, offset := 2, embedded := false, tag := "", pkgPath := "", byteOffset := 16 }, { name := "Jobs", type := 22, offset := 3, embedded := false, tag := "", pkgPath := "", byteOffset := 24 }, { name := "Log", type := 23, offset := 4, embedded := false, tag := "", pkgPath := "", byteOffset := 48 }, { name := "Sure", type := 3, offset := 5, embedded := false, tag := "", pkgPath := "", byteOffset := 72 }], [.int .i64 0, .int .i64 0, .int .i64 0, .slice none 0 0, .slice none 0 0, .int .i64 0], []⟩ := TDok.mk' (z := .agg #[.int .i64 0, .int .i64 0, .int .i64 0, .slice none 0 0, .slice none 0 0, .int .i64 0]) (by kernel_rfl) (by kernel_rfl) rfl rfl rfl rfl (by intro h; first | rfl | cases h)
theorem C2J : TDok Try.prog 26 ⟨1, 24, false, .slice 53, [.slice none 0 0], []⟩ := TDok.mk' (z := .slice none 0 0) (by kernel_rfl) (by kernel_rfl) rfl rfl rfl rfl (by intro h; first | rfl | cases h)
theorem C2K : TDok Try.prog 27 ⟨1, 24, false, .slice 89, [.slice none 0 0], []⟩ := TDok.mk' (z := .slice none 0 0) (by kernel_rfl) (by kernel_rfl) rfl rfl rfl rfl (by intro h; first | rfl | cases h)
theorem C2L : TDok Try.prog 28 ⟨1, 24, false, .slice 80, [.slice none 0 0], []⟩ := TDok.mk' (z := .slice none 0 0) (by kernel_rfl) (by kernel_rfl) rfl rfl rfl rfl (by intro h; first | rfl | cases h)
theorem C2M : TDok Try.prog 30 ⟨10, 176, true, .struct #[{ name := "C", type := 25, offset := 0, embedded := false, tag := "", pkgPath := "", byteOffset := 0 }, { name := "Shards", type := 26, offset := 6, embedded := false, tag := "", pkgPath := "", byteOffset := 80 }, { name := "Net", type := 27, offset := 7, embedded := false, tag := "", pkgPath := "", byteOffset := 104 }, { name := "Outs", type := 27, offset := 8, embedded := false, tag := "", pkgPath := "", byteOffset := 128 }, { name := "Begun", type := 28, offset := 9, embedded := false, tag := "", pkgPath := "", byteOffset := 152 }], [.int .i64 0, .int .i64 0, .int .i64 0, .slice none 0 0, .slice none 0 0, .int .i64 0, .slice none 0 0, .slice none 0 0, .slice none 0 0, .slice none 0 0], []⟩ := TDok.mk' (z := .agg #[.int .i64 0, .int .i64 0, .int .i64 0, .slice none 0 0, .slice none 0 0, .int .i64 0, .slice none 0 0, .slice none 0 0, .slice none 0 0, .slice none 0 0]) (by kernel_rfl) (by kernel_rfl) rfl rfl rfl rfl (by intro h; first | rfl | cases h)
theorem C2N : TDok Try.prog 50 ⟨1, 24, false, .slice 69, [.slice none 0 0], []⟩ := TDok.mk' (z := .slice none 0 0) (by kernel_rfl) (by kernel_rfl) rfl rfl rfl rfl (by intro h; first | rfl | cases h)
theorem C2O : TDok Try.prog 51 ⟨1, 24, false, .slice 131, [.slice none 0 0], []⟩ := TDok.mk' (z := .slice none 0 0) (by kernel_rfl) (by kernel_rfl) rfl rfl rfl rfl (by intro h; first | rfl | cases h)
theorem C2P : TDok Try.prog 53 ⟨5, 88, true, .struct #[{ name := "Id", type := 3, offset := 0, embedded := false, tag := "", pkgPath := "", byteOffset := 0 }, { name := "Log", type := 50, offset := 1, embedded := false, tag := "", pkgPath := "", byteOffset := 8 }, { name := "Sure", type := 3, offset := 2, embedded := false, tag := "", pkgPath := "", byteOffset := 32 }, { name := "Map", type := 51, offset := 3, embedded := false, tag := "", pkgPath := "", byteOffset := 40 }, { name := "Held", type := 50, offset := 4, embedded := false, tag := "", pkgPath := "", byteOffset := 64 }], [.int .i64 0, .slice none 0 0, .int .i64 0, .slice none 0 0, .slice none 0 0], []⟩ := TDok.mk' (z := .agg #[.int .i64 0, .slice none 0 0, .int .i64 0, .slice none 0 0, .slice none 0 0]) (by kernel_rfl) (by kernel_rfl) rfl rfl rfl rfl (by intro h; first | rfl | cases h)
theorem C2Q : TDok Try.prog 67 ⟨1, 24, false, .slice 83, [.slice none 0 0], []⟩ := TDok.mk' (z := .slice none 0 0) (by kernel_rfl) (by kernel_rfl) rfl rfl rfl rfl (by intro h; first | rfl | cases h)
theorem C2R : TDok Try.prog 69 ⟨3, 40, true, .struct #[{ name := "Kind", type := 3, offset := 0, embedded := false, tag := "", pkgPath := "", byteOffset := 0 }, { name := "Tx", type := 3, offset := 1, embedded := false, tag := "", pkgPath := "", byteOffset := 8 }, { name := "Ops", type := 67, offset := 2, embedded := false, tag := "", pkgPath := "", byteOffset := 16 }], [.int .i64 0, .int .i64 0, .slice none 0 0], []⟩ := TDok.mk' (z := .agg #[.int .i64 0, .int .i64 0, .slice none 0 0]) (by kernel_rfl) (by kernel_rfl) rfl rfl rfl rfl (by intro h; first | rfl | cases h)
theorem C2S : TDok Try.prog 80 ⟨2, 32, true, .struct #[{ name := "Tx", type := 3, offset := 0, embedded := false, tag := "", pkgPath := "", byteOffset := 0 }, { name := "Ops", type := 67, offset := 1, embedded := false, tag := "", pkgPath := "", byteOffset := 8 }], [.int .i64 0, .slice none 0 0], []⟩ := TDok.mk' (z := .agg #[.int .i64 0, .slice none 0 0]) (by kernel_rfl) (by kernel_rfl) rfl rfl rfl rfl (by intro h; first | rfl | cases h)
theorem C2T : TDok Try.prog 83 ⟨3, 40, true, .struct #[{ name := "Kind", type := 3, offset := 0, embedded := false, tag := "", pkgPath := "", byteOffset := 0 }, { name := "Key", type := 9, offset := 1, embedded := false, tag := "", pkgPath := "", byteOffset := 8 }, { name := "Val", type := 9, offset := 2, embedded := false, tag := "", pkgPath := "", byteOffset := 24 }], [.int .i64 0, .string ⟨#[]⟩, .string ⟨#[]⟩], []⟩ := TDok.mk' (z := .agg #[.int .i64 0, .string ⟨#[]⟩, .string ⟨#[]⟩]) (by kernel_rfl) (by kernel_rfl) rfl rfl rfl rfl (by intro h; first | rfl | cases h)
theorem C2U : TDok Try.prog 89 ⟨5, 56, true, .struct #[{ name := "Kind", type := 3, offset := 0, embedded := false, tag := "", pkgPath := "", byteOffset := 0 }, { name := "Shard", type := 3, offset := 1, embedded := false, tag := "", pkgPath := "", byteOffset := 8 }, { name := "Tx", type := 3, offset := 2, embedded := false, tag := "", pkgPath := "", byteOffset := 16 }, { name := "Ops", type := 67, offset := 3, embedded := false, tag := "", pkgPath := "", byteOffset := 24 }, { name := "Yes", type := 4, offset := 4, embedded := false, tag := "", pkgPath := "", byteOffset := 48 }], [.int .i64 0, .int .i64 0, .int .i64 0, .slice none 0 0, .bool false], []⟩ := TDok.mk' (z := .agg #[.int .i64 0, .int .i64 0, .int .i64 0, .slice none 0 0, .bool false]) (by kernel_rfl) (by kernel_rfl) rfl rfl rfl rfl (by intro h; first | rfl | cases h)
theorem C2b : TDok Try.prog 111 ⟨2, 16, true, .struct #[{ name := "Tx", type := 3, offset := 0, embedded := false, tag := "", pkgPath := "", byteOffset := 0 }, { name := "Yes", type := 4, offset := 1, embedded := false, tag := "", pkgPath := "", byteOffset := 8 }], [.int .i64 0, .bool false], []⟩ := TDok.mk' (z := .agg #[.int .i64 0, .bool false]) (by kernel_rfl) (by kernel_rfl) rfl rfl rfl rfl (by intro h; first | rfl | cases h)
theorem C2c : TDok Try.prog 122 ⟨1, 24, false, .slice 3, [.slice none 0 0], []⟩ := TDok.mk' (z := .slice none 0 0) (by kernel_rfl) (by kernel_rfl) rfl rfl rfl rfl (by intro h; first | rfl | cases h)
theorem C2d : TDok Try.prog 124 ⟨4, 64, true, .struct #[{ name := "Tx", type := 3, offset := 0, embedded := false, tag := "", pkgPath := "", byteOffset := 0 }, { name := "Ops", type := 67, offset := 1, embedded := false, tag := "", pkgPath := "", byteOffset := 8 }, { name := "State", type := 3, offset := 2, embedded := false, tag := "", pkgPath := "", byteOffset := 32 }, { name := "Yes", type := 122, offset := 3, embedded := false, tag := "", pkgPath := "", byteOffset := 40 }], [.int .i64 0, .slice none 0 0, .int .i64 0, .slice none 0 0], []⟩ := TDok.mk' (z := .agg #[.int .i64 0, .slice none 0 0, .int .i64 0, .slice none 0 0]) (by kernel_rfl) (by kernel_rfl) rfl rfl rfl rfl (by intro h; first | rfl | cases h)
theorem C2e : TDok Try.prog 131 ⟨2, 32, true, .struct #[{ name := "Key", type := 9, offset := 0, embedded := false, tag := "", pkgPath := "", byteOffset := 0 }, { name := "Val", type := 9, offset := 1, embedded := false, tag := "", pkgPath := "", byteOffset := 16 }], [.string ⟨#[]⟩, .string ⟨#[]⟩], []⟩ := TDok.mk' (z := .agg #[.string ⟨#[]⟩, .string ⟨#[]⟩]) (by kernel_rfl) (by kernel_rfl) rfl rfl rfl rfl (by intro h; first | rfl | cases h)
theorem C2f : TDok Try.prog 149 ⟨1, 24, false, .slice 5, [.slice none 0 0], []⟩ := TDok.mk' (z := .slice none 0 0) (by kernel_rfl) (by kernel_rfl) rfl rfl rfl rfl (by intro h; first | rfl | cases h)
theorem C01 : TTok Try.prog tt := by
  intro t d h
  unfold tt at h
  split at h
  · obtain rfl := Option.some.inj h; exact tt3
  · obtain rfl := Option.some.inj h; exact tt4
  · obtain rfl := Option.some.inj h; exact tt5
  · obtain rfl := Option.some.inj h; exact tt9
  · obtain rfl := Option.some.inj h; exact C2G
  · obtain rfl := Option.some.inj h; exact C2H
  · obtain rfl := Option.some.inj h; exact C2I
  · obtain rfl := Option.some.inj h; exact C2J
  · obtain rfl := Option.some.inj h; exact C2K
  · obtain rfl := Option.some.inj h; exact C2L
  · obtain rfl := Option.some.inj h; exact C2M
  · obtain rfl := Option.some.inj h; exact C2N
  · obtain rfl := Option.some.inj h; exact C2O
  · obtain rfl := Option.some.inj h; exact C2P
  · obtain rfl := Option.some.inj h; exact C2Q
  · obtain rfl := Option.some.inj h; exact C2R
  · obtain rfl := Option.some.inj h; exact C2S
  · obtain rfl := Option.some.inj h; exact C2T
  · obtain rfl := Option.some.inj h; exact C2U
  · obtain rfl := Option.some.inj h; exact C2b
  · obtain rfl := Option.some.inj h; exact C2c
  · obtain rfl := Option.some.inj h; exact C2d
  · obtain rfl := Option.some.inj h; exact C2e
  · obtain rfl := Option.some.inj h; exact C2f
  · cases h
/-- What the slices of a struct hold. -/
def ow : TypeId → List TypeId := fun t => match t with
  | 25 => [124, 111]
  | 30 => [124, 111, 53, 89, 89, 80]
  | 53 => [69, 131, 69]
  | 69 => [83]
  | 80 => [83]
  | 89 => [83]
  | 124 => [83, 3]
  | _ => []
end Go.Proofs.Ytcofibhklbfgoaa.Eng
