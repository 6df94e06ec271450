/- Facts: closed facts of the seat's types and functions, each by the kernel. No condition. -/
import Derived.Test.YtnhbipachchlgaaGreatHLmX
import Derived.Test.YtnhbipachchlgaaGreatProg
namespace Go.Proofs.YtnhbipachchlgaaGreat.HL
open Go
set_option linter.unusedVariables false
theorem go8 : goFn Tryz.prog 8 = true := by kernel_rfl
theorem go9 : goFn Tryz.prog 9 = true := by kernel_rfl
theorem go10 : goFn Tryz.prog 10 = true := by kernel_rfl
theorem go11 : goFn Tryz.prog 11 = true := by kernel_rfl
theorem go12 : goFn Tryz.prog 12 = true := by kernel_rfl
theorem go15 : goFn Tryz.prog 15 = true := by kernel_rfl
theorem go18 : goFn Tryz.prog 18 = true := by kernel_rfl
theorem go19 : goFn Tryz.prog 19 = true := by kernel_rfl
theorem go20 : goFn Tryz.prog 20 = true := by kernel_rfl
theorem go21 : goFn Tryz.prog 21 = true := by kernel_rfl
theorem go22 : goFn Tryz.prog 22 = true := by kernel_rfl
theorem go23 : goFn Tryz.prog 23 = true := by kernel_rfl
theorem go24 : goFn Tryz.prog 24 = true := by kernel_rfl
theorem go25 : goFn Tryz.prog 25 = true := by kernel_rfl
theorem go26 : goFn Tryz.prog 26 = true := by kernel_rfl
theorem go27 : goFn Tryz.prog 27 = true := by kernel_rfl
theorem go28 : goFn Tryz.prog 28 = true := by kernel_rfl
theorem go29 : goFn Tryz.prog 29 = true := by kernel_rfl
theorem go30 : goFn Tryz.prog 30 = true := by kernel_rfl
theorem go31 : goFn Tryz.prog 31 = true := by kernel_rfl
theorem go32 : goFn Tryz.prog 32 = true := by kernel_rfl
theorem go33 : goFn Tryz.prog 33 = true := by kernel_rfl
theorem go34 : goFn Tryz.prog 34 = true := by kernel_rfl
theorem go35 : goFn Tryz.prog 35 = true := by kernel_rfl
theorem go36 : goFn Tryz.prog 36 = true := by kernel_rfl
theorem go37 : goFn Tryz.prog 37 = true := by kernel_rfl
theorem go38 : goFn Tryz.prog 38 = true := by kernel_rfl
theorem go39 : goFn Tryz.prog 39 = true := by kernel_rfl
theorem go40 : goFn Tryz.prog 40 = true := by kernel_rfl
theorem go41 : goFn Tryz.prog 41 = true := by kernel_rfl
theorem go42 : goFn Tryz.prog 42 = true := by kernel_rfl
theorem go43 : goFn Tryz.prog 43 = true := by kernel_rfl
theorem go44 : goFn Tryz.prog 44 = true := by kernel_rfl
theorem go45 : goFn Tryz.prog 45 = true := by kernel_rfl
theorem go46 : goFn Tryz.prog 46 = true := by kernel_rfl
theorem go47 : goFn Tryz.prog 47 = true := by kernel_rfl
theorem go48 : goFn Tryz.prog 48 = true := by kernel_rfl
theorem go49 : goFn Tryz.prog 49 = true := by kernel_rfl
theorem go50 : goFn Tryz.prog 50 = true := by kernel_rfl
theorem go51 : goFn Tryz.prog 51 = true := by kernel_rfl
theorem go52 : goFn Tryz.prog 52 = true := by kernel_rfl
theorem go53 : goFn Tryz.prog 53 = true := by kernel_rfl
theorem go54 : goFn Tryz.prog 54 = true := by kernel_rfl
theorem go55 : goFn Tryz.prog 55 = true := by kernel_rfl
theorem go56 : goFn Tryz.prog 56 = true := by kernel_rfl
theorem go57 : goFn Tryz.prog 57 = true := by kernel_rfl
theorem go58 : goFn Tryz.prog 58 = true := by kernel_rfl
theorem go59 : goFn Tryz.prog 59 = true := by kernel_rfl
theorem go60 : goFn Tryz.prog 60 = true := by kernel_rfl
theorem go61 : goFn Tryz.prog 61 = true := by kernel_rfl
theorem go62 : goFn Tryz.prog 62 = true := by kernel_rfl
theorem go63 : goFn Tryz.prog 63 = true := by kernel_rfl
theorem go64 : goFn Tryz.prog 64 = true := by kernel_rfl
theorem go65 : goFn Tryz.prog 65 = true := by kernel_rfl
theorem go67 : goFn Tryz.prog 67 = true := by kernel_rfl
theorem go69 : goFn Tryz.prog 69 = true := by kernel_rfl
theorem go71 : goFn Tryz.prog 71 = true := by kernel_rfl
theorem go72 : goFn Tryz.prog 72 = true := by kernel_rfl
theorem go73 : goFn Tryz.prog 73 = true := by kernel_rfl
theorem go74 : goFn Tryz.prog 74 = true := by kernel_rfl
theorem go75 : goFn Tryz.prog 75 = true := by kernel_rfl
theorem go76 : goFn Tryz.prog 76 = true := by kernel_rfl
theorem go77 : goFn Tryz.prog 77 = true := by kernel_rfl
theorem go78 : goFn Tryz.prog 78 = true := by kernel_rfl
theorem go79 : goFn Tryz.prog 79 = true := by kernel_rfl
theorem go80 : goFn Tryz.prog 80 = true := by kernel_rfl
theorem go81 : goFn Tryz.prog 81 = true := by kernel_rfl
theorem go82 : goFn Tryz.prog 82 = true := by kernel_rfl
theorem go83 : goFn Tryz.prog 83 = true := by kernel_rfl
theorem go84 : goFn Tryz.prog 84 = true := by kernel_rfl
theorem go85 : goFn Tryz.prog 85 = true := by kernel_rfl
theorem go86 : goFn Tryz.prog 86 = true := by kernel_rfl
theorem go87 : goFn Tryz.prog 87 = true := by kernel_rfl
theorem go88 : goFn Tryz.prog 88 = true := by kernel_rfl
theorem go89 : goFn Tryz.prog 89 = true := by kernel_rfl
theorem go90 : goFn Tryz.prog 90 = true := by kernel_rfl
theorem go91 : goFn Tryz.prog 91 = true := by kernel_rfl
theorem go92 : goFn Tryz.prog 92 = true := by kernel_rfl
theorem go93 : goFn Tryz.prog 93 = true := by kernel_rfl
theorem go94 : goFn Tryz.prog 94 = true := by kernel_rfl
theorem go95 : goFn Tryz.prog 95 = true := by kernel_rfl
theorem go96 : goFn Tryz.prog 96 = true := by kernel_rfl
theorem go97 : goFn Tryz.prog 97 = true := by kernel_rfl
theorem go98 : goFn Tryz.prog 98 = true := by kernel_rfl
theorem go99 : goFn Tryz.prog 99 = true := by kernel_rfl
theorem go100 : goFn Tryz.prog 100 = true := by kernel_rfl
theorem go101 : goFn Tryz.prog 101 = true := by kernel_rfl
theorem go102 : goFn Tryz.prog 102 = true := by kernel_rfl
theorem go103 : goFn Tryz.prog 103 = true := by kernel_rfl
theorem go104 : goFn Tryz.prog 104 = true := by kernel_rfl
theorem go105 : goFn Tryz.prog 105 = true := by kernel_rfl
theorem go106 : goFn Tryz.prog 106 = true := by kernel_rfl
theorem go107 : goFn Tryz.prog 107 = true := by kernel_rfl
theorem go108 : goFn Tryz.prog 108 = true := by kernel_rfl
theorem go109 : goFn Tryz.prog 109 = true := by kernel_rfl
theorem go110 : goFn Tryz.prog 110 = true := by kernel_rfl
theorem go111 : goFn Tryz.prog 111 = true := by kernel_rfl
theorem go112 : goFn Tryz.prog 112 = true := by kernel_rfl
theorem go113 : goFn Tryz.prog 113 = true := by kernel_rfl
theorem go114 : goFn Tryz.prog 114 = true := by kernel_rfl
theorem go116 : goFn Tryz.prog 116 = true := by kernel_rfl
theorem go117 : goFn Tryz.prog 117 = true := by kernel_rfl
theorem go118 : goFn Tryz.prog 118 = true := by kernel_rfl
theorem go119 : goFn Tryz.prog 119 = true := by kernel_rfl
theorem go120 : goFn Tryz.prog 120 = true := by kernel_rfl
theorem go121 : goFn Tryz.prog 121 = true := by kernel_rfl
theorem go122 : goFn Tryz.prog 122 = true := by kernel_rfl
theorem go123 : goFn Tryz.prog 123 = true := by kernel_rfl
theorem go124 : goFn Tryz.prog 124 = true := by kernel_rfl
theorem go125 : goFn Tryz.prog 125 = true := by kernel_rfl
theorem go126 : goFn Tryz.prog 126 = true := by kernel_rfl
theorem go127 : goFn Tryz.prog 127 = true := by kernel_rfl
theorem go128 : goFn Tryz.prog 128 = true := by kernel_rfl
theorem go129 : goFn Tryz.prog 129 = true := by kernel_rfl
theorem go130 : goFn Tryz.prog 130 = true := by kernel_rfl
theorem go131 : goFn Tryz.prog 131 = true := by kernel_rfl
theorem go132 : goFn Tryz.prog 132 = true := by kernel_rfl
theorem go133 : goFn Tryz.prog 133 = true := by kernel_rfl
theorem go134 : goFn Tryz.prog 134 = true := by kernel_rfl
theorem go135 : goFn Tryz.prog 135 = true := by kernel_rfl
theorem go136 : goFn Tryz.prog 136 = true := by kernel_rfl
theorem go137 : goFn Tryz.prog 137 = true := by kernel_rfl
theorem go138 : goFn Tryz.prog 138 = true := by kernel_rfl
theorem go139 : goFn Tryz.prog 139 = true := by kernel_rfl
theorem go140 : goFn Tryz.prog 140 = true := by kernel_rfl
theorem go141 : goFn Tryz.prog 141 = true := by kernel_rfl
theorem go142 : goFn Tryz.prog 142 = true := by kernel_rfl
theorem go143 : goFn Tryz.prog 143 = true := by kernel_rfl
theorem go144 : goFn Tryz.prog 144 = true := by kernel_rfl
theorem go145 : goFn Tryz.prog 145 = true := by kernel_rfl
theorem go146 : goFn Tryz.prog 146 = true := by kernel_rfl
theorem go147 : goFn Tryz.prog 147 = true := by kernel_rfl
theorem go148 : goFn Tryz.prog 148 = true := by kernel_rfl
theorem go149 : goFn Tryz.prog 149 = true := by kernel_rfl
instance : Szc Tryz.prog 0 1 := ⟨by kernel_rfl⟩
instance : Bsc Tryz.prog 0 0 := ⟨by kernel_rfl⟩
instance : Und Tryz.prog 0 (Go.TypeDesc.tuple #[]) := ⟨Tryz.underlying0⟩
instance : Zec Tryz.prog 0 (Go.Value.tuple #[]) := ⟨by kernel_rfl⟩
instance : Szc Tryz.prog 1 1 := ⟨by kernel_rfl⟩
instance : Bsc Tryz.prog 1 8 := ⟨by kernel_rfl⟩
instance : Und Tryz.prog 1 (Go.TypeDesc.func #[] #[] false) := ⟨Tryz.underlying1⟩
instance : Zec Tryz.prog 1 (Go.Value.nilFunc) := ⟨by kernel_rfl⟩
instance : Szc Tryz.prog 2 1 := ⟨by kernel_rfl⟩
instance : Bsc Tryz.prog 2 8 := ⟨by kernel_rfl⟩
instance : Und Tryz.prog 2 (Go.TypeDesc.int Go.IntKind.i64) := ⟨Tryz.underlying2⟩
instance : Zec Tryz.prog 2 (Go.Value.int Go.IntKind.i64 0) := ⟨by kernel_rfl⟩
instance : Szc Tryz.prog 3 1 := ⟨by kernel_rfl⟩
instance : Bsc Tryz.prog 3 8 := ⟨by kernel_rfl⟩
instance : Und Tryz.prog 3 (Go.TypeDesc.int Go.IntKind.i64) := ⟨Tryz.underlying3⟩
instance : Zec Tryz.prog 3 (Go.Value.int Go.IntKind.i64 0) := ⟨by kernel_rfl⟩
instance : Szc Tryz.prog 4 1 := ⟨by kernel_rfl⟩
instance : Bsc Tryz.prog 4 1 := ⟨by kernel_rfl⟩
instance : Und Tryz.prog 4 Go.TypeDesc.bool := ⟨Tryz.underlying4⟩
instance : Zec Tryz.prog 4 (Go.Value.bool false) := ⟨by kernel_rfl⟩
instance : Szc Tryz.prog 5 1 := ⟨by kernel_rfl⟩
instance : Bsc Tryz.prog 5 1 := ⟨by kernel_rfl⟩
instance : Und Tryz.prog 5 (Go.TypeDesc.int Go.IntKind.u8) := ⟨Tryz.underlying5⟩
instance : Zec Tryz.prog 5 (Go.Value.int Go.IntKind.u8 0) := ⟨by kernel_rfl⟩
instance : Szc Tryz.prog 6 1 := ⟨by kernel_rfl⟩
instance : Bsc Tryz.prog 6 1 := ⟨by kernel_rfl⟩
instance : Und Tryz.prog 6 (Go.TypeDesc.int Go.IntKind.u8) := ⟨Tryz.underlying6⟩
instance : Zec Tryz.prog 6 (Go.Value.int Go.IntKind.u8 0) := ⟨by kernel_rfl⟩
instance : Szc Tryz.prog 7 4 := ⟨by kernel_rfl⟩
instance : Bsc Tryz.prog 7 24 := ⟨by kernel_rfl⟩
instance : Und Tryz.prog 7 (Go.TypeDesc.struct #[{ name := "x", type := 2, offset := 0, embedded := false, tag := "", pkgPath := "runtime", byteOffset := 0 }, { name := "y", type := 3, offset := 1, embedded := false, tag := "", pkgPath := "runtime", byteOffset := 8 }, { name := "signed", type := 4, offset := 2, embedded := false, tag := "", pkgPath := "runtime", byteOffset := 16 }, { name := "code", type := 6, offset := 3, embedded := false, tag := "", pkgPath := "runtime", byteOffset := 17 }]) := ⟨Tryz.underlying7⟩
instance : Zec Tryz.prog 7 (Go.Value.agg #[(Go.Value.int Go.IntKind.i64 0), (Go.Value.int Go.IntKind.i64 0), (Go.Value.bool false), (Go.Value.int Go.IntKind.u8 0)]) := ⟨by kernel_rfl⟩
instance : Szc Tryz.prog 8 4 := ⟨by kernel_rfl⟩
instance : Bsc Tryz.prog 8 24 := ⟨by kernel_rfl⟩
instance : Und Tryz.prog 8 (Go.TypeDesc.struct #[{ name := "x", type := 2, offset := 0, embedded := false, tag := "", pkgPath := "runtime", byteOffset := 0 }, { name := "y", type := 3, offset := 1, embedded := false, tag := "", pkgPath := "runtime", byteOffset := 8 }, { name := "signed", type := 4, offset := 2, embedded := false, tag := "", pkgPath := "runtime", byteOffset := 16 }, { name := "code", type := 6, offset := 3, embedded := false, tag := "", pkgPath := "runtime", byteOffset := 17 }]) := ⟨Tryz.underlying8⟩
instance : Zec Tryz.prog 8 (Go.Value.agg #[(Go.Value.int Go.IntKind.i64 0), (Go.Value.int Go.IntKind.i64 0), (Go.Value.bool false), (Go.Value.int Go.IntKind.u8 0)]) := ⟨by kernel_rfl⟩
instance : Szc Tryz.prog 9 1 := ⟨by kernel_rfl⟩
instance : Bsc Tryz.prog 9 16 := ⟨by kernel_rfl⟩
instance : Und Tryz.prog 9 Go.TypeDesc.string := ⟨Tryz.underlying9⟩
instance : Zec Tryz.prog 9 (Go.Value.string { data := #[] }) := ⟨by kernel_rfl⟩
instance : Szc Tryz.prog 10 1 := ⟨by kernel_rfl⟩
instance : Bsc Tryz.prog 10 16 := ⟨by kernel_rfl⟩
instance : Und Tryz.prog 10 Go.TypeDesc.string := ⟨Tryz.underlying10⟩
instance : Zec Tryz.prog 10 (Go.Value.string { data := #[] }) := ⟨by kernel_rfl⟩
instance : Szc Tryz.prog 11 1 := ⟨by kernel_rfl⟩
instance : Bsc Tryz.prog 11 16 := ⟨by kernel_rfl⟩
instance : Und Tryz.prog 11 Go.TypeDesc.string := ⟨Tryz.underlying11⟩
instance : Zec Tryz.prog 11 (Go.Value.string { data := #[] }) := ⟨by kernel_rfl⟩
instance : Szc Tryz.prog 12 1 := ⟨by kernel_rfl⟩
instance : Bsc Tryz.prog 12 8 := ⟨by kernel_rfl⟩
instance : Und Tryz.prog 12 (Go.TypeDesc.int Go.IntKind.u64) := ⟨Tryz.underlying12⟩
instance : Zec Tryz.prog 12 (Go.Value.int Go.IntKind.u64 0) := ⟨by kernel_rfl⟩
instance : Szc Tryz.prog 13 2 := ⟨by kernel_rfl⟩
instance : Bsc Tryz.prog 13 24 := ⟨by kernel_rfl⟩
instance : Und Tryz.prog 13 (Go.TypeDesc.struct #[{ name := "msg", type := 9, offset := 0, embedded := false, tag := "", pkgPath := "runtime", byteOffset := 0 }, { name := "addr", type := 12, offset := 1, embedded := false, tag := "", pkgPath := "runtime", byteOffset := 16 }]) := ⟨Tryz.underlying13⟩
instance : Zec Tryz.prog 13 (Go.Value.agg #[(Go.Value.string { data := #[] }), (Go.Value.int Go.IntKind.u64 0)]) := ⟨by kernel_rfl⟩
instance : Szc Tryz.prog 14 2 := ⟨by kernel_rfl⟩
instance : Bsc Tryz.prog 14 24 := ⟨by kernel_rfl⟩
instance : Und Tryz.prog 14 (Go.TypeDesc.struct #[{ name := "msg", type := 9, offset := 0, embedded := false, tag := "", pkgPath := "runtime", byteOffset := 0 }, { name := "addr", type := 12, offset := 1, embedded := false, tag := "", pkgPath := "runtime", byteOffset := 16 }]) := ⟨Tryz.underlying14⟩
instance : Zec Tryz.prog 14 (Go.Value.agg #[(Go.Value.string { data := #[] }), (Go.Value.int Go.IntKind.u64 0)]) := ⟨by kernel_rfl⟩
instance : Szc Tryz.prog 15 1 := ⟨by kernel_rfl⟩
instance : Bsc Tryz.prog 15 8 := ⟨by kernel_rfl⟩
instance : Und Tryz.prog 15 (Go.TypeDesc.pointer 162) := ⟨Tryz.underlying15⟩
instance : Zec Tryz.prog 15 (Go.Value.pointer none) := ⟨by kernel_rfl⟩
instance : Szc Tryz.prog 16 1 := ⟨by kernel_rfl⟩
instance : Bsc Tryz.prog 16 8 := ⟨by kernel_rfl⟩
instance : Und Tryz.prog 16 (Go.TypeDesc.pointer 165) := ⟨Tryz.underlying16⟩
instance : Zec Tryz.prog 16 (Go.Value.pointer none) := ⟨by kernel_rfl⟩
instance : Szc Tryz.prog 17 1 := ⟨by kernel_rfl⟩
instance : Bsc Tryz.prog 17 8 := ⟨by kernel_rfl⟩
instance : Und Tryz.prog 17 (Go.TypeDesc.pointer 173) := ⟨Tryz.underlying17⟩
instance : Zec Tryz.prog 17 (Go.Value.pointer none) := ⟨by kernel_rfl⟩
instance : Szc Tryz.prog 20 1 := ⟨by kernel_rfl⟩
instance : Bsc Tryz.prog 20 16 := ⟨by kernel_rfl⟩
instance : Und Tryz.prog 20 (Go.TypeDesc.interface #[]) := ⟨Tryz.underlying20⟩
instance : Zec Tryz.prog 20 (Go.Value.nilIface) := ⟨by kernel_rfl⟩
instance : Szc Tryz.prog 21 1 := ⟨by kernel_rfl⟩
instance : Bsc Tryz.prog 21 4 := ⟨by kernel_rfl⟩
instance : Und Tryz.prog 21 (Go.TypeDesc.int Go.IntKind.i32) := ⟨Tryz.underlying21⟩
instance : Zec Tryz.prog 21 (Go.Value.int Go.IntKind.i32 0) := ⟨by kernel_rfl⟩
instance : Szc Tryz.prog 22 1 := ⟨by kernel_rfl⟩
instance : Bsc Tryz.prog 22 24 := ⟨by kernel_rfl⟩
instance : Und Tryz.prog 22 (Go.TypeDesc.slice 28) := ⟨Tryz.underlying22⟩
instance : Zec Tryz.prog 22 (Go.Value.slice none 0 0) := ⟨by kernel_rfl⟩
instance : Szc Tryz.prog 23 8 := ⟨by kernel_rfl⟩
instance : Bsc Tryz.prog 23 64 := ⟨by kernel_rfl⟩
instance : Und Tryz.prog 23 (Go.TypeDesc.array 8 3) := ⟨Tryz.underlying23⟩
instance : Zec Tryz.prog 23 (Go.Value.agg #[(Go.Value.int Go.IntKind.i64 0), (Go.Value.int Go.IntKind.i64 0), (Go.Value.int Go.IntKind.i64 0), (Go.Value.int Go.IntKind.i64 0), (Go.Value.int Go.IntKind.i64 0), (Go.Value.int Go.IntKind.i64 0), (Go.Value.int Go.IntKind.i64 0), (Go.Value.int Go.IntKind.i64 0)]) := ⟨by kernel_rfl⟩
instance : Szc Tryz.prog 24 8 := ⟨by kernel_rfl⟩
instance : Bsc Tryz.prog 24 64 := ⟨by kernel_rfl⟩
instance : Und Tryz.prog 24 (Go.TypeDesc.array 8 3) := ⟨Tryz.underlying24⟩
instance : Zec Tryz.prog 24 (Go.Value.agg #[(Go.Value.int Go.IntKind.i64 0), (Go.Value.int Go.IntKind.i64 0), (Go.Value.int Go.IntKind.i64 0), (Go.Value.int Go.IntKind.i64 0), (Go.Value.int Go.IntKind.i64 0), (Go.Value.int Go.IntKind.i64 0), (Go.Value.int Go.IntKind.i64 0), (Go.Value.int Go.IntKind.i64 0)]) := ⟨by kernel_rfl⟩
instance : Szc Tryz.prog 25 2 := ⟨by kernel_rfl⟩
instance : Bsc Tryz.prog 25 32 := ⟨by kernel_rfl⟩
instance : Und Tryz.prog 25 (Go.TypeDesc.struct #[{ name := "Num", type := 9, offset := 0, embedded := false, tag := "", pkgPath := "", byteOffset := 0 }, { name := "Den", type := 9, offset := 1, embedded := false, tag := "", pkgPath := "", byteOffset := 16 }]) := ⟨Tryz.underlying25⟩
instance : Zec Tryz.prog 25 (Go.Value.agg #[(Go.Value.string { data := #[] }), (Go.Value.string { data := #[] })]) := ⟨by kernel_rfl⟩
instance : Szc Tryz.prog 26 2 := ⟨by kernel_rfl⟩
instance : Bsc Tryz.prog 26 32 := ⟨by kernel_rfl⟩
instance : Und Tryz.prog 26 (Go.TypeDesc.struct #[{ name := "Num", type := 9, offset := 0, embedded := false, tag := "", pkgPath := "", byteOffset := 0 }, { name := "Den", type := 9, offset := 1, embedded := false, tag := "", pkgPath := "", byteOffset := 16 }]) := ⟨Tryz.underlying26⟩
instance : Zec Tryz.prog 26 (Go.Value.agg #[(Go.Value.string { data := #[] }), (Go.Value.string { data := #[] })]) := ⟨by kernel_rfl⟩
instance : Szc Tryz.prog 27 15 := ⟨by kernel_rfl⟩
instance : Bsc Tryz.prog 27 168 := ⟨by kernel_rfl⟩
instance : Und Tryz.prog 27 (Go.TypeDesc.struct #[{ name := "Name", type := 9, offset := 0, embedded := false, tag := "", pkgPath := "", byteOffset := 0 }, { name := "Symbol", type := 9, offset := 1, embedded := false, tag := "", pkgPath := "", byteOffset := 16 }, { name := "Dim", type := 24, offset := 2, embedded := false, tag := "", pkgPath := "", byteOffset := 32 }, { name := "Factor", type := 26, offset := 10, embedded := false, tag := "", pkgPath := "", byteOffset := 96 }, { name := "Offset", type := 26, offset := 12, embedded := false, tag := "", pkgPath := "", byteOffset := 128 }, { name := "Takes", type := 3, offset := 14, embedded := false, tag := "", pkgPath := "", byteOffset := 160 }]) := ⟨Tryz.underlying27⟩
instance : Zec Tryz.prog 27 (Go.Value.agg #[(Go.Value.string { data := #[] }), (Go.Value.string { data := #[] }), (Go.Value.int Go.IntKind.i64 0), (Go.Value.int Go.IntKind.i64 0), (Go.Value.int Go.IntKind.i64 0), (Go.Value.int Go.IntKind.i64 0), (Go.Value.int Go.IntKind.i64 0), (Go.Value.int Go.IntKind.i64 0), (Go.Value.int Go.IntKind.i64 0), (Go.Value.int Go.IntKind.i64 0), (Go.Value.string { data := #[] }), (Go.Value.string { data := #[] }), (Go.Value.string { data := #[] }), (Go.Value.string { data := #[] }), (Go.Value.int Go.IntKind.i64 0)]) := ⟨by kernel_rfl⟩
instance : Szc Tryz.prog 28 15 := ⟨by kernel_rfl⟩
instance : Bsc Tryz.prog 28 168 := ⟨by kernel_rfl⟩
instance : Und Tryz.prog 28 (Go.TypeDesc.struct #[{ name := "Name", type := 9, offset := 0, embedded := false, tag := "", pkgPath := "", byteOffset := 0 }, { name := "Symbol", type := 9, offset := 1, embedded := false, tag := "", pkgPath := "", byteOffset := 16 }, { name := "Dim", type := 24, offset := 2, embedded := false, tag := "", pkgPath := "", byteOffset := 32 }, { name := "Factor", type := 26, offset := 10, embedded := false, tag := "", pkgPath := "", byteOffset := 96 }, { name := "Offset", type := 26, offset := 12, embedded := false, tag := "", pkgPath := "", byteOffset := 128 }, { name := "Takes", type := 3, offset := 14, embedded := false, tag := "", pkgPath := "", byteOffset := 160 }]) := ⟨Tryz.underlying28⟩
instance : Zec Tryz.prog 28 (Go.Value.agg #[(Go.Value.string { data := #[] }), (Go.Value.string { data := #[] }), (Go.Value.int Go.IntKind.i64 0), (Go.Value.int Go.IntKind.i64 0), (Go.Value.int Go.IntKind.i64 0), (Go.Value.int Go.IntKind.i64 0), (Go.Value.int Go.IntKind.i64 0), (Go.Value.int Go.IntKind.i64 0), (Go.Value.int Go.IntKind.i64 0), (Go.Value.int Go.IntKind.i64 0), (Go.Value.string { data := #[] }), (Go.Value.string { data := #[] }), (Go.Value.string { data := #[] }), (Go.Value.string { data := #[] }), (Go.Value.int Go.IntKind.i64 0)]) := ⟨by kernel_rfl⟩
instance : Szc Tryz.prog 29 5 := ⟨by kernel_rfl⟩
instance : Bsc Tryz.prog 29 72 := ⟨by kernel_rfl⟩
instance : Und Tryz.prog 29 (Go.TypeDesc.struct #[{ name := "Name", type := 9, offset := 0, embedded := false, tag := "", pkgPath := "", byteOffset := 0 }, { name := "Symbol", type := 9, offset := 1, embedded := false, tag := "", pkgPath := "", byteOffset := 16 }, { name := "Factor", type := 26, offset := 2, embedded := false, tag := "", pkgPath := "", byteOffset := 32 }, { name := "Binary", type := 4, offset := 4, embedded := false, tag := "", pkgPath := "", byteOffset := 64 }]) := ⟨Tryz.underlying29⟩
instance : Zec Tryz.prog 29 (Go.Value.agg #[(Go.Value.string { data := #[] }), (Go.Value.string { data := #[] }), (Go.Value.string { data := #[] }), (Go.Value.string { data := #[] }), (Go.Value.bool false)]) := ⟨by kernel_rfl⟩
instance : Szc Tryz.prog 30 5 := ⟨by kernel_rfl⟩
instance : Bsc Tryz.prog 30 72 := ⟨by kernel_rfl⟩
instance : Und Tryz.prog 30 (Go.TypeDesc.struct #[{ name := "Name", type := 9, offset := 0, embedded := false, tag := "", pkgPath := "", byteOffset := 0 }, { name := "Symbol", type := 9, offset := 1, embedded := false, tag := "", pkgPath := "", byteOffset := 16 }, { name := "Factor", type := 26, offset := 2, embedded := false, tag := "", pkgPath := "", byteOffset := 32 }, { name := "Binary", type := 4, offset := 4, embedded := false, tag := "", pkgPath := "", byteOffset := 64 }]) := ⟨Tryz.underlying30⟩
instance : Zec Tryz.prog 30 (Go.Value.agg #[(Go.Value.string { data := #[] }), (Go.Value.string { data := #[] }), (Go.Value.string { data := #[] }), (Go.Value.string { data := #[] }), (Go.Value.bool false)]) := ⟨by kernel_rfl⟩
instance : Szc Tryz.prog 31 1 := ⟨by kernel_rfl⟩
instance : Bsc Tryz.prog 31 8 := ⟨by kernel_rfl⟩
instance : Und Tryz.prog 31 (Go.TypeDesc.int Go.IntKind.i64) := ⟨Tryz.underlying31⟩
instance : Zec Tryz.prog 31 (Go.Value.int Go.IntKind.i64 0) := ⟨by kernel_rfl⟩
instance : Szc Tryz.prog 32 1 := ⟨by kernel_rfl⟩
instance : Bsc Tryz.prog 32 0 := ⟨by kernel_rfl⟩
instance : Und Tryz.prog 32 (Go.TypeDesc.tuple #[30, 3, 31]) := ⟨Tryz.underlying32⟩
instance : Zec Tryz.prog 32 (Go.Value.tuple #[(Go.Value.agg #[(Go.Value.string { data := #[] }), (Go.Value.string { data := #[] }), (Go.Value.string { data := #[] }), (Go.Value.string { data := #[] }), (Go.Value.bool false)]), (Go.Value.int Go.IntKind.i64 0), (Go.Value.int Go.IntKind.i64 0)]) := ⟨by kernel_rfl⟩
instance : Szc Tryz.prog 36 1 := ⟨by kernel_rfl⟩
instance : Bsc Tryz.prog 36 0 := ⟨by kernel_rfl⟩
instance : Und Tryz.prog 36 (Go.TypeDesc.tuple #[30, 26, 31]) := ⟨Tryz.underlying36⟩
instance : Zec Tryz.prog 36 (Go.Value.tuple #[(Go.Value.agg #[(Go.Value.string { data := #[] }), (Go.Value.string { data := #[] }), (Go.Value.string { data := #[] }), (Go.Value.string { data := #[] }), (Go.Value.bool false)]), (Go.Value.agg #[(Go.Value.string { data := #[] }), (Go.Value.string { data := #[] })]), (Go.Value.int Go.IntKind.i64 0)]) := ⟨by kernel_rfl⟩
instance : Szc Tryz.prog 38 1 := ⟨by kernel_rfl⟩
instance : Bsc Tryz.prog 38 0 := ⟨by kernel_rfl⟩
instance : Und Tryz.prog 38 (Go.TypeDesc.tuple #[26, 31]) := ⟨Tryz.underlying38⟩
instance : Zec Tryz.prog 38 (Go.Value.tuple #[(Go.Value.agg #[(Go.Value.string { data := #[] }), (Go.Value.string { data := #[] })]), (Go.Value.int Go.IntKind.i64 0)]) := ⟨by kernel_rfl⟩
instance : Szc Tryz.prog 40 1 := ⟨by kernel_rfl⟩
instance : Bsc Tryz.prog 40 8 := ⟨by kernel_rfl⟩
instance : Und Tryz.prog 40 (Go.TypeDesc.func #[26, 4] #[4] false) := ⟨Tryz.underlying40⟩
instance : Zec Tryz.prog 40 (Go.Value.nilFunc) := ⟨by kernel_rfl⟩
instance : Szc Tryz.prog 41 1 := ⟨by kernel_rfl⟩
instance : Bsc Tryz.prog 41 24 := ⟨by kernel_rfl⟩
instance : Und Tryz.prog 41 (Go.TypeDesc.slice 30) := ⟨Tryz.underlying41⟩
instance : Zec Tryz.prog 41 (Go.Value.slice none 0 0) := ⟨by kernel_rfl⟩
instance : Szc Tryz.prog 44 1 := ⟨by kernel_rfl⟩
instance : Bsc Tryz.prog 44 8 := ⟨by kernel_rfl⟩
instance : Und Tryz.prog 44 (Go.TypeDesc.func #[] #[43] false) := ⟨Tryz.underlying44⟩
instance : Zec Tryz.prog 44 (Go.Value.nilFunc) := ⟨by kernel_rfl⟩
instance : Szc Tryz.prog 45 1 := ⟨by kernel_rfl⟩
instance : Bsc Tryz.prog 45 8 := ⟨by kernel_rfl⟩
instance : Und Tryz.prog 45 (Go.TypeDesc.func #[41, 9] #[30, 4] false) := ⟨Tryz.underlying45⟩
instance : Zec Tryz.prog 45 (Go.Value.nilFunc) := ⟨by kernel_rfl⟩
instance : Szc Tryz.prog 46 1 := ⟨by kernel_rfl⟩
instance : Bsc Tryz.prog 46 8 := ⟨by kernel_rfl⟩
instance : Und Tryz.prog 46 (Go.TypeDesc.func #[28] #[9] false) := ⟨Tryz.underlying46⟩
instance : Zec Tryz.prog 46 (Go.Value.nilFunc) := ⟨by kernel_rfl⟩
instance : Szc Tryz.prog 47 2 := ⟨by kernel_rfl⟩
instance : Bsc Tryz.prog 47 16 := ⟨by kernel_rfl⟩
instance : Und Tryz.prog 47 (Go.TypeDesc.struct #[{ name := "find", type := 45, offset := 0, embedded := false, tag := "", pkgPath := "cubit/prefix", byteOffset := 0 }, { name := "text", type := 46, offset := 1, embedded := false, tag := "", pkgPath := "cubit/prefix", byteOffset := 8 }]) := ⟨Tryz.underlying47⟩
instance : Zec Tryz.prog 47 (Go.Value.agg #[Go.Value.nilFunc, Go.Value.nilFunc]) := ⟨by kernel_rfl⟩
instance : Szc Tryz.prog 48 2 := ⟨by kernel_rfl⟩
instance : Bsc Tryz.prog 48 16 := ⟨by kernel_rfl⟩
instance : Und Tryz.prog 48 (Go.TypeDesc.struct #[{ name := "find", type := 45, offset := 0, embedded := false, tag := "", pkgPath := "cubit/prefix", byteOffset := 0 }, { name := "text", type := 46, offset := 1, embedded := false, tag := "", pkgPath := "cubit/prefix", byteOffset := 8 }]) := ⟨Tryz.underlying48⟩
instance : Zec Tryz.prog 48 (Go.Value.agg #[Go.Value.nilFunc, Go.Value.nilFunc]) := ⟨by kernel_rfl⟩
instance : Szc Tryz.prog 49 1 := ⟨by kernel_rfl⟩
instance : Bsc Tryz.prog 49 0 := ⟨by kernel_rfl⟩
instance : Und Tryz.prog 49 (Go.TypeDesc.tuple #[30, 4]) := ⟨Tryz.underlying49⟩
instance : Zec Tryz.prog 49 (Go.Value.tuple #[(Go.Value.agg #[(Go.Value.string { data := #[] }), (Go.Value.string { data := #[] }), (Go.Value.string { data := #[] }), (Go.Value.string { data := #[] }), (Go.Value.bool false)]), (Go.Value.bool false)]) := ⟨by kernel_rfl⟩
instance : Szc Tryz.prog 59 1 := ⟨by kernel_rfl⟩
instance : Bsc Tryz.prog 59 8 := ⟨by kernel_rfl⟩
instance : Und Tryz.prog 59 (Go.TypeDesc.pointer 90) := ⟨Tryz.underlying59⟩
instance : Zec Tryz.prog 59 (Go.Value.pointer none) := ⟨by kernel_rfl⟩
instance : Szc Tryz.prog 61 1 := ⟨by kernel_rfl⟩
instance : Bsc Tryz.prog 61 8 := ⟨by kernel_rfl⟩
instance : Und Tryz.prog 61 (Go.TypeDesc.func #[59, 59, 59] #[31] false) := ⟨Tryz.underlying61⟩
instance : Zec Tryz.prog 61 (Go.Value.nilFunc) := ⟨by kernel_rfl⟩
instance : Szc Tryz.prog 62 1 := ⟨by kernel_rfl⟩
instance : Bsc Tryz.prog 62 0 := ⟨by kernel_rfl⟩
instance : Und Tryz.prog 62 (Go.TypeDesc.tuple #[9, 9, 4, 4]) := ⟨Tryz.underlying62⟩
instance : Zec Tryz.prog 62 (Go.Value.tuple #[(Go.Value.string { data := #[] }), (Go.Value.string { data := #[] }), (Go.Value.bool false), (Go.Value.bool false)]) := ⟨by kernel_rfl⟩
instance : Szc Tryz.prog 64 1 := ⟨by kernel_rfl⟩
instance : Bsc Tryz.prog 64 8 := ⟨by kernel_rfl⟩
instance : Und Tryz.prog 64 (Go.TypeDesc.func #[9, 9, 9, 9] #[4] false) := ⟨Tryz.underlying64⟩
instance : Zec Tryz.prog 64 (Go.Value.nilFunc) := ⟨by kernel_rfl⟩
instance : Szc Tryz.prog 65 3 := ⟨by kernel_rfl⟩
instance : Bsc Tryz.prog 65 40 := ⟨by kernel_rfl⟩
instance : Und Tryz.prog 65 (Go.TypeDesc.struct #[{ name := "name", type := 9, offset := 0, embedded := false, tag := "", pkgPath := "cubit/cubitref07", byteOffset := 0 }, { name := "symbol", type := 9, offset := 1, embedded := false, tag := "", pkgPath := "cubit/cubitref07", byteOffset := 16 }, { name := "exp", type := 3, offset := 2, embedded := false, tag := "", pkgPath := "cubit/cubitref07", byteOffset := 32 }]) := ⟨Tryz.underlying65⟩
instance : Zec Tryz.prog 65 (Go.Value.agg #[(Go.Value.string { data := #[] }), (Go.Value.string { data := #[] }), (Go.Value.int Go.IntKind.i64 0)]) := ⟨by kernel_rfl⟩
instance : Szc Tryz.prog 66 3 := ⟨by kernel_rfl⟩
instance : Bsc Tryz.prog 66 40 := ⟨by kernel_rfl⟩
instance : Und Tryz.prog 66 (Go.TypeDesc.struct #[{ name := "name", type := 9, offset := 0, embedded := false, tag := "", pkgPath := "cubit/cubitref07", byteOffset := 0 }, { name := "symbol", type := 9, offset := 1, embedded := false, tag := "", pkgPath := "cubit/cubitref07", byteOffset := 16 }, { name := "exp", type := 3, offset := 2, embedded := false, tag := "", pkgPath := "cubit/cubitref07", byteOffset := 32 }]) := ⟨Tryz.underlying66⟩
instance : Zec Tryz.prog 66 (Go.Value.agg #[(Go.Value.string { data := #[] }), (Go.Value.string { data := #[] }), (Go.Value.int Go.IntKind.i64 0)]) := ⟨by kernel_rfl⟩
instance : Szc Tryz.prog 67 1 := ⟨by kernel_rfl⟩
instance : Bsc Tryz.prog 67 24 := ⟨by kernel_rfl⟩
instance : Und Tryz.prog 67 (Go.TypeDesc.slice 66) := ⟨Tryz.underlying67⟩
instance : Zec Tryz.prog 67 (Go.Value.slice none 0 0) := ⟨by kernel_rfl⟩
instance : Szc Tryz.prog 71 4 := ⟨by kernel_rfl⟩
instance : Bsc Tryz.prog 71 48 := ⟨by kernel_rfl⟩
instance : Und Tryz.prog 71 (Go.TypeDesc.struct #[{ name := "name", type := 9, offset := 0, embedded := false, tag := "", pkgPath := "cubit/prefix", byteOffset := 0 }, { name := "symbol", type := 9, offset := 1, embedded := false, tag := "", pkgPath := "cubit/prefix", byteOffset := 16 }, { name := "power", type := 3, offset := 2, embedded := false, tag := "", pkgPath := "cubit/prefix", byteOffset := 32 }, { name := "binary", type := 4, offset := 3, embedded := false, tag := "", pkgPath := "cubit/prefix", byteOffset := 40 }]) := ⟨Tryz.underlying71⟩
instance : Zec Tryz.prog 71 (Go.Value.agg #[(Go.Value.string { data := #[] }), (Go.Value.string { data := #[] }), (Go.Value.int Go.IntKind.i64 0), (Go.Value.bool false)]) := ⟨by kernel_rfl⟩
instance : Szc Tryz.prog 72 4 := ⟨by kernel_rfl⟩
instance : Bsc Tryz.prog 72 48 := ⟨by kernel_rfl⟩
instance : Und Tryz.prog 72 (Go.TypeDesc.struct #[{ name := "name", type := 9, offset := 0, embedded := false, tag := "", pkgPath := "cubit/prefix", byteOffset := 0 }, { name := "symbol", type := 9, offset := 1, embedded := false, tag := "", pkgPath := "cubit/prefix", byteOffset := 16 }, { name := "power", type := 3, offset := 2, embedded := false, tag := "", pkgPath := "cubit/prefix", byteOffset := 32 }, { name := "binary", type := 4, offset := 3, embedded := false, tag := "", pkgPath := "cubit/prefix", byteOffset := 40 }]) := ⟨Tryz.underlying72⟩
instance : Zec Tryz.prog 72 (Go.Value.agg #[(Go.Value.string { data := #[] }), (Go.Value.string { data := #[] }), (Go.Value.int Go.IntKind.i64 0), (Go.Value.bool false)]) := ⟨by kernel_rfl⟩
instance : Szc Tryz.prog 73 1 := ⟨by kernel_rfl⟩
instance : Bsc Tryz.prog 73 24 := ⟨by kernel_rfl⟩
instance : Und Tryz.prog 73 (Go.TypeDesc.slice 72) := ⟨Tryz.underlying73⟩
instance : Zec Tryz.prog 73 (Go.Value.slice none 0 0) := ⟨by kernel_rfl⟩
instance : Szc Tryz.prog 78 1 := ⟨by kernel_rfl⟩
instance : Bsc Tryz.prog 78 8 := ⟨by kernel_rfl⟩
instance : Und Tryz.prog 78 (Go.TypeDesc.pointer 88) := ⟨Tryz.underlying78⟩
instance : Zec Tryz.prog 78 (Go.Value.pointer none) := ⟨by kernel_rfl⟩
instance : Szc Tryz.prog 82 1 := ⟨by kernel_rfl⟩
instance : Bsc Tryz.prog 82 0 := ⟨by kernel_rfl⟩
instance : Und Tryz.prog 82 (Go.TypeDesc.tuple #[3, 31]) := ⟨Tryz.underlying82⟩
instance : Zec Tryz.prog 82 (Go.Value.tuple #[(Go.Value.int Go.IntKind.i64 0), (Go.Value.int Go.IntKind.i64 0)]) := ⟨by kernel_rfl⟩
instance : Szc Tryz.prog 84 1 := ⟨by kernel_rfl⟩
instance : Bsc Tryz.prog 84 24 := ⟨by kernel_rfl⟩
instance : Und Tryz.prog 84 (Go.TypeDesc.slice 59) := ⟨Tryz.underlying84⟩
instance : Zec Tryz.prog 84 (Go.Value.slice none 0 0) := ⟨by kernel_rfl⟩
instance : Szc Tryz.prog 86 1 := ⟨by kernel_rfl⟩
instance : Bsc Tryz.prog 86 24 := ⟨by kernel_rfl⟩
instance : Und Tryz.prog 86 (Go.TypeDesc.slice 116) := ⟨Tryz.underlying86⟩
instance : Zec Tryz.prog 86 (Go.Value.slice none 0 0) := ⟨by kernel_rfl⟩
instance : Szc Tryz.prog 87 2 := ⟨by kernel_rfl⟩
instance : Bsc Tryz.prog 87 32 := ⟨by kernel_rfl⟩
instance : Und Tryz.prog 87 (Go.TypeDesc.struct #[{ name := "neg", type := 4, offset := 0, embedded := false, tag := "", pkgPath := "cubit/ample", byteOffset := 0 }, { name := "w", type := 86, offset := 1, embedded := false, tag := "", pkgPath := "cubit/ample", byteOffset := 8 }]) := ⟨Tryz.underlying87⟩
instance : Zec Tryz.prog 87 (Go.Value.agg #[(Go.Value.bool false), (Go.Value.slice none 0 0)]) := ⟨by kernel_rfl⟩
instance : Szc Tryz.prog 88 2 := ⟨by kernel_rfl⟩
instance : Bsc Tryz.prog 88 32 := ⟨by kernel_rfl⟩
instance : Und Tryz.prog 88 (Go.TypeDesc.struct #[{ name := "neg", type := 4, offset := 0, embedded := false, tag := "", pkgPath := "cubit/ample", byteOffset := 0 }, { name := "w", type := 86, offset := 1, embedded := false, tag := "", pkgPath := "cubit/ample", byteOffset := 8 }]) := ⟨Tryz.underlying88⟩
instance : Zec Tryz.prog 88 (Go.Value.agg #[(Go.Value.bool false), (Go.Value.slice none 0 0)]) := ⟨by kernel_rfl⟩
instance : Szc Tryz.prog 89 4 := ⟨by kernel_rfl⟩
instance : Bsc Tryz.prog 89 64 := ⟨by kernel_rfl⟩
instance : Und Tryz.prog 89 (Go.TypeDesc.struct #[{ name := "a", type := 88, offset := 0, embedded := false, tag := "", pkgPath := "cubit/ample", byteOffset := 0 }, { name := "b", type := 88, offset := 2, embedded := false, tag := "", pkgPath := "cubit/ample", byteOffset := 32 }]) := ⟨Tryz.underlying89⟩
instance : Zec Tryz.prog 89 (Go.Value.agg #[(Go.Value.bool false), (Go.Value.slice none 0 0), (Go.Value.bool false), (Go.Value.slice none 0 0)]) := ⟨by kernel_rfl⟩
instance : Szc Tryz.prog 90 4 := ⟨by kernel_rfl⟩
instance : Bsc Tryz.prog 90 64 := ⟨by kernel_rfl⟩
instance : Und Tryz.prog 90 (Go.TypeDesc.struct #[{ name := "a", type := 88, offset := 0, embedded := false, tag := "", pkgPath := "cubit/ample", byteOffset := 0 }, { name := "b", type := 88, offset := 2, embedded := false, tag := "", pkgPath := "cubit/ample", byteOffset := 32 }]) := ⟨Tryz.underlying90⟩
instance : Zec Tryz.prog 90 (Go.Value.agg #[(Go.Value.bool false), (Go.Value.slice none 0 0), (Go.Value.bool false), (Go.Value.slice none 0 0)]) := ⟨by kernel_rfl⟩
instance : Szc Tryz.prog 95 1 := ⟨by kernel_rfl⟩
instance : Bsc Tryz.prog 95 8 := ⟨by kernel_rfl⟩
instance : Und Tryz.prog 95 (Go.TypeDesc.float Go.FloatKind.f64) := ⟨Tryz.underlying95⟩
instance : Zec Tryz.prog 95 (Go.Value.float Go.FloatKind.f64 0) := ⟨by kernel_rfl⟩
instance : Szc Tryz.prog 96 1 := ⟨by kernel_rfl⟩
instance : Bsc Tryz.prog 96 0 := ⟨by kernel_rfl⟩
instance : Und Tryz.prog 96 (Go.TypeDesc.tuple #[95, 31]) := ⟨Tryz.underlying96⟩
instance : Zec Tryz.prog 96 (Go.Value.tuple #[(Go.Value.float Go.FloatKind.f64 0), (Go.Value.int Go.IntKind.i64 0)]) := ⟨by kernel_rfl⟩
instance : Szc Tryz.prog 100 1 := ⟨by kernel_rfl⟩
instance : Bsc Tryz.prog 100 0 := ⟨by kernel_rfl⟩
instance : Und Tryz.prog 100 (Go.TypeDesc.tuple #[9, 9]) := ⟨Tryz.underlying100⟩
instance : Zec Tryz.prog 100 (Go.Value.tuple #[(Go.Value.string { data := #[] }), (Go.Value.string { data := #[] })]) := ⟨by kernel_rfl⟩
instance : Szc Tryz.prog 105 1 := ⟨by kernel_rfl⟩
instance : Bsc Tryz.prog 105 8 := ⟨by kernel_rfl⟩
instance : Und Tryz.prog 105 (Go.TypeDesc.func #[59, 59] #[31] false) := ⟨Tryz.underlying105⟩
instance : Zec Tryz.prog 105 (Go.Value.nilFunc) := ⟨by kernel_rfl⟩
instance : Szc Tryz.prog 106 1 := ⟨by kernel_rfl⟩
instance : Bsc Tryz.prog 106 16 := ⟨by kernel_rfl⟩
instance : Und Tryz.prog 106 (Go.TypeDesc.struct #[{ name := "of", type := 9, offset := 0, embedded := false, tag := "", pkgPath := "cubit/prefix", byteOffset := 0 }]) := ⟨Tryz.underlying106⟩
instance : Zec Tryz.prog 106 (Go.Value.agg #[(Go.Value.string { data := #[] })]) := ⟨by kernel_rfl⟩
instance : Szc Tryz.prog 107 1 := ⟨by kernel_rfl⟩
instance : Bsc Tryz.prog 107 16 := ⟨by kernel_rfl⟩
instance : Und Tryz.prog 107 (Go.TypeDesc.struct #[{ name := "of", type := 9, offset := 0, embedded := false, tag := "", pkgPath := "cubit/prefix", byteOffset := 0 }]) := ⟨Tryz.underlying107⟩
instance : Zec Tryz.prog 107 (Go.Value.agg #[(Go.Value.string { data := #[] })]) := ⟨by kernel_rfl⟩
instance : Szc Tryz.prog 108 1 := ⟨by kernel_rfl⟩
instance : Bsc Tryz.prog 108 0 := ⟨by kernel_rfl⟩
instance : Und Tryz.prog 108 (Go.TypeDesc.tuple #[107, 4]) := ⟨Tryz.underlying108⟩
instance : Zec Tryz.prog 108 (Go.Value.tuple #[(Go.Value.agg #[(Go.Value.string { data := #[] })]), (Go.Value.bool false)]) := ⟨by kernel_rfl⟩
instance : Szc Tryz.prog 109 1 := ⟨by kernel_rfl⟩
instance : Bsc Tryz.prog 109 8 := ⟨by kernel_rfl⟩
instance : Und Tryz.prog 109 (Go.TypeDesc.map 9 107) := ⟨Tryz.underlying109⟩
instance : Zec Tryz.prog 109 (Go.Value.map none) := ⟨by kernel_rfl⟩
instance : Szc Tryz.prog 115 1 := ⟨by kernel_rfl⟩
instance : Bsc Tryz.prog 115 24 := ⟨by kernel_rfl⟩
instance : Und Tryz.prog 115 (Go.TypeDesc.slice 5) := ⟨Tryz.underlying115⟩
instance : Zec Tryz.prog 115 (Go.Value.slice none 0 0) := ⟨by kernel_rfl⟩
instance : Szc Tryz.prog 116 1 := ⟨by kernel_rfl⟩
instance : Bsc Tryz.prog 116 4 := ⟨by kernel_rfl⟩
instance : Und Tryz.prog 116 (Go.TypeDesc.int Go.IntKind.u32) := ⟨Tryz.underlying116⟩
instance : Zec Tryz.prog 116 (Go.Value.int Go.IntKind.u32 0) := ⟨by kernel_rfl⟩
instance : Szc Tryz.prog 117 1 := ⟨by kernel_rfl⟩
instance : Bsc Tryz.prog 117 0 := ⟨by kernel_rfl⟩
instance : Und Tryz.prog 117 (Go.TypeDesc.tuple #[86, 116]) := ⟨Tryz.underlying117⟩
instance : Zec Tryz.prog 117 (Go.Value.tuple #[(Go.Value.slice none 0 0), (Go.Value.int Go.IntKind.u32 0)]) := ⟨by kernel_rfl⟩
instance : Szc Tryz.prog 123 1 := ⟨by kernel_rfl⟩
instance : Bsc Tryz.prog 123 24 := ⟨by kernel_rfl⟩
instance : Und Tryz.prog 123 (Go.TypeDesc.slice 26) := ⟨Tryz.underlying123⟩
instance : Zec Tryz.prog 123 (Go.Value.slice none 0 0) := ⟨by kernel_rfl⟩
instance : Szc Tryz.prog 125 1 := ⟨by kernel_rfl⟩
instance : Bsc Tryz.prog 125 8 := ⟨by kernel_rfl⟩
instance : Und Tryz.prog 125 (Go.TypeDesc.int Go.IntKind.u64) := ⟨Tryz.underlying125⟩
instance : Zec Tryz.prog 125 (Go.Value.int Go.IntKind.u64 0) := ⟨by kernel_rfl⟩
instance : Szc Tryz.prog 126 1 := ⟨by kernel_rfl⟩
instance : Bsc Tryz.prog 126 8 := ⟨by kernel_rfl⟩
instance : Und Tryz.prog 126 (Go.TypeDesc.int Go.IntKind.u64) := ⟨Tryz.underlying126⟩
instance : Zec Tryz.prog 126 (Go.Value.int Go.IntKind.u64 0) := ⟨by kernel_rfl⟩
instance : Szc Tryz.prog 127 3 := ⟨by kernel_rfl⟩
instance : Bsc Tryz.prog 127 40 := ⟨by kernel_rfl⟩
instance : Und Tryz.prog 127 (Go.TypeDesc.struct #[{ name := "Neg", type := 4, offset := 0, embedded := false, tag := "", pkgPath := "", byteOffset := 0 }, { name := "A", type := 9, offset := 1, embedded := false, tag := "", pkgPath := "", byteOffset := 8 }, { name := "B", type := 9, offset := 2, embedded := false, tag := "", pkgPath := "", byteOffset := 24 }]) := ⟨Tryz.underlying127⟩
instance : Zec Tryz.prog 127 (Go.Value.agg #[(Go.Value.bool false), (Go.Value.string { data := #[] }), (Go.Value.string { data := #[] })]) := ⟨by kernel_rfl⟩
instance : Szc Tryz.prog 128 3 := ⟨by kernel_rfl⟩
instance : Bsc Tryz.prog 128 40 := ⟨by kernel_rfl⟩
instance : Und Tryz.prog 128 (Go.TypeDesc.struct #[{ name := "Neg", type := 4, offset := 0, embedded := false, tag := "", pkgPath := "", byteOffset := 0 }, { name := "A", type := 9, offset := 1, embedded := false, tag := "", pkgPath := "", byteOffset := 8 }, { name := "B", type := 9, offset := 2, embedded := false, tag := "", pkgPath := "", byteOffset := 24 }]) := ⟨Tryz.underlying128⟩
instance : Zec Tryz.prog 128 (Go.Value.agg #[(Go.Value.bool false), (Go.Value.string { data := #[] }), (Go.Value.string { data := #[] })]) := ⟨by kernel_rfl⟩
instance : Szc Tryz.prog 129 1 := ⟨by kernel_rfl⟩
instance : Bsc Tryz.prog 129 0 := ⟨by kernel_rfl⟩
instance : Und Tryz.prog 129 (Go.TypeDesc.tuple #[128, 4]) := ⟨Tryz.underlying129⟩
instance : Zec Tryz.prog 129 (Go.Value.tuple #[(Go.Value.agg #[(Go.Value.bool false), (Go.Value.string { data := #[] }), (Go.Value.string { data := #[] })]), (Go.Value.bool false)]) := ⟨by kernel_rfl⟩
instance : Szc Tryz.prog 131 1 := ⟨by kernel_rfl⟩
instance : Bsc Tryz.prog 131 0 := ⟨by kernel_rfl⟩
instance : Und Tryz.prog 131 (Go.TypeDesc.tuple #[125, 4]) := ⟨Tryz.underlying131⟩
instance : Zec Tryz.prog 131 (Go.Value.tuple #[(Go.Value.int Go.IntKind.u64 0), (Go.Value.bool false)]) := ⟨by kernel_rfl⟩
instance : Szc Tryz.prog 135 1 := ⟨by kernel_rfl⟩
instance : Bsc Tryz.prog 135 24 := ⟨by kernel_rfl⟩
instance : Und Tryz.prog 135 (Go.TypeDesc.slice 3) := ⟨Tryz.underlying135⟩
instance : Zec Tryz.prog 135 (Go.Value.slice none 0 0) := ⟨by kernel_rfl⟩
instance : Szc Tryz.prog 144 1 := ⟨by kernel_rfl⟩
instance : Bsc Tryz.prog 144 0 := ⟨by kernel_rfl⟩
instance : Und Tryz.prog 144 (Go.TypeDesc.tuple #[9, 4]) := ⟨Tryz.underlying144⟩
instance : Zec Tryz.prog 144 (Go.Value.tuple #[(Go.Value.string { data := #[] }), (Go.Value.bool false)]) := ⟨by kernel_rfl⟩
instance : Szc Tryz.prog 147 1 := ⟨by kernel_rfl⟩
instance : Bsc Tryz.prog 147 0 := ⟨by kernel_rfl⟩
instance : Und Tryz.prog 147 (Go.TypeDesc.tuple #[78, 4]) := ⟨Tryz.underlying147⟩
instance : Zec Tryz.prog 147 (Go.Value.tuple #[(Go.Value.pointer none), (Go.Value.bool false)]) := ⟨by kernel_rfl⟩
instance : Szc Tryz.prog 149 1 := ⟨by kernel_rfl⟩
instance : Bsc Tryz.prog 149 0 := ⟨by kernel_rfl⟩
instance : Und Tryz.prog 149 (Go.TypeDesc.tuple #[86, 86]) := ⟨Tryz.underlying149⟩
instance : Zec Tryz.prog 149 (Go.Value.tuple #[(Go.Value.slice none 0 0), (Go.Value.slice none 0 0)]) := ⟨by kernel_rfl⟩
instance : Szc Tryz.prog 160 1 := ⟨by kernel_rfl⟩
instance : Bsc Tryz.prog 160 8 := ⟨by kernel_rfl⟩
instance : Und Tryz.prog 160 (Go.TypeDesc.func #[3] #[9] false) := ⟨Tryz.underlying160⟩
instance : Zec Tryz.prog 160 (Go.Value.nilFunc) := ⟨by kernel_rfl⟩
instance : Szc Tryz.prog 161 4 := ⟨by kernel_rfl⟩
instance : Bsc Tryz.prog 161 40 := ⟨by kernel_rfl⟩
instance : Und Tryz.prog 161 (Go.TypeDesc.struct #[{ name := "_interface", type := 17, offset := 0, embedded := false, tag := "", pkgPath := "runtime", byteOffset := 0 }, { name := "concrete", type := 17, offset := 1, embedded := false, tag := "", pkgPath := "runtime", byteOffset := 8 }, { name := "asserted", type := 17, offset := 2, embedded := false, tag := "", pkgPath := "runtime", byteOffset := 16 }, { name := "missingMethod", type := 9, offset := 3, embedded := false, tag := "", pkgPath := "runtime", byteOffset := 24 }]) := ⟨Tryz.underlying161⟩
instance : Zec Tryz.prog 161 (Go.Value.agg #[(Go.Value.pointer none), (Go.Value.pointer none), (Go.Value.pointer none), (Go.Value.string { data := #[] })]) := ⟨by kernel_rfl⟩
instance : Szc Tryz.prog 162 4 := ⟨by kernel_rfl⟩
instance : Bsc Tryz.prog 162 40 := ⟨by kernel_rfl⟩
instance : Und Tryz.prog 162 (Go.TypeDesc.struct #[{ name := "_interface", type := 17, offset := 0, embedded := false, tag := "", pkgPath := "runtime", byteOffset := 0 }, { name := "concrete", type := 17, offset := 1, embedded := false, tag := "", pkgPath := "runtime", byteOffset := 8 }, { name := "asserted", type := 17, offset := 2, embedded := false, tag := "", pkgPath := "runtime", byteOffset := 16 }, { name := "missingMethod", type := 9, offset := 3, embedded := false, tag := "", pkgPath := "runtime", byteOffset := 24 }]) := ⟨Tryz.underlying162⟩
instance : Zec Tryz.prog 162 (Go.Value.agg #[(Go.Value.pointer none), (Go.Value.pointer none), (Go.Value.pointer none), (Go.Value.string { data := #[] })]) := ⟨by kernel_rfl⟩
instance : Szc Tryz.prog 163 0 := ⟨by kernel_rfl⟩
instance : Bsc Tryz.prog 163 0 := ⟨by kernel_rfl⟩
instance : Und Tryz.prog 163 (Go.TypeDesc.array 0 16) := ⟨Tryz.underlying163⟩
instance : Zec Tryz.prog 163 (Go.Value.agg #[]) := ⟨by kernel_rfl⟩
instance : Szc Tryz.prog 164 0 := ⟨by kernel_rfl⟩
instance : Bsc Tryz.prog 164 0 := ⟨by kernel_rfl⟩
instance : Und Tryz.prog 164 (Go.TypeDesc.struct #[{ name := "_", type := 163, offset := 0, embedded := false, tag := "", pkgPath := "runtime", byteOffset := 0 }]) := ⟨Tryz.underlying164⟩
instance : Zec Tryz.prog 164 (Go.Value.agg #[]) := ⟨by kernel_rfl⟩
instance : Szc Tryz.prog 165 0 := ⟨by kernel_rfl⟩
instance : Bsc Tryz.prog 165 0 := ⟨by kernel_rfl⟩
instance : Und Tryz.prog 165 (Go.TypeDesc.struct #[{ name := "_", type := 163, offset := 0, embedded := false, tag := "", pkgPath := "runtime", byteOffset := 0 }]) := ⟨Tryz.underlying165⟩
instance : Zec Tryz.prog 165 (Go.Value.agg #[]) := ⟨by kernel_rfl⟩
instance : Szc Tryz.prog 166 1 := ⟨by kernel_rfl⟩
instance : Bsc Tryz.prog 166 1 := ⟨by kernel_rfl⟩
instance : Und Tryz.prog 166 (Go.TypeDesc.int Go.IntKind.u8) := ⟨Tryz.underlying166⟩
instance : Zec Tryz.prog 166 (Go.Value.int Go.IntKind.u8 0) := ⟨by kernel_rfl⟩
instance : Szc Tryz.prog 167 1 := ⟨by kernel_rfl⟩
instance : Bsc Tryz.prog 167 1 := ⟨by kernel_rfl⟩
instance : Und Tryz.prog 167 (Go.TypeDesc.int Go.IntKind.u8) := ⟨Tryz.underlying167⟩
instance : Zec Tryz.prog 167 (Go.Value.int Go.IntKind.u8 0) := ⟨by kernel_rfl⟩
instance : Szc Tryz.prog 168 1 := ⟨by kernel_rfl⟩
instance : Bsc Tryz.prog 168 8 := ⟨by kernel_rfl⟩
instance : Und Tryz.prog 168 (Go.TypeDesc.func #[174, 174] #[4] false) := ⟨Tryz.underlying168⟩
instance : Zec Tryz.prog 168 (Go.Value.nilFunc) := ⟨by kernel_rfl⟩
instance : Szc Tryz.prog 169 1 := ⟨by kernel_rfl⟩
instance : Bsc Tryz.prog 169 8 := ⟨by kernel_rfl⟩
instance : Und Tryz.prog 169 (Go.TypeDesc.pointer 5) := ⟨Tryz.underlying169⟩
instance : Zec Tryz.prog 169 (Go.Value.pointer none) := ⟨by kernel_rfl⟩
instance : Szc Tryz.prog 170 1 := ⟨by kernel_rfl⟩
instance : Bsc Tryz.prog 170 4 := ⟨by kernel_rfl⟩
instance : Und Tryz.prog 170 (Go.TypeDesc.int Go.IntKind.i32) := ⟨Tryz.underlying170⟩
instance : Zec Tryz.prog 170 (Go.Value.int Go.IntKind.i32 0) := ⟨by kernel_rfl⟩
instance : Szc Tryz.prog 171 1 := ⟨by kernel_rfl⟩
instance : Bsc Tryz.prog 171 4 := ⟨by kernel_rfl⟩
instance : Und Tryz.prog 171 (Go.TypeDesc.int Go.IntKind.i32) := ⟨Tryz.underlying171⟩
instance : Zec Tryz.prog 171 (Go.Value.int Go.IntKind.i32 0) := ⟨by kernel_rfl⟩
instance : Szc Tryz.prog 172 11 := ⟨by kernel_rfl⟩
instance : Bsc Tryz.prog 172 48 := ⟨by kernel_rfl⟩
instance : Und Tryz.prog 172 (Go.TypeDesc.struct #[{ name := "Size_", type := 12, offset := 0, embedded := false, tag := "", pkgPath := "", byteOffset := 0 }, { name := "PtrBytes", type := 12, offset := 1, embedded := false, tag := "", pkgPath := "", byteOffset := 8 }, { name := "Hash", type := 116, offset := 2, embedded := false, tag := "", pkgPath := "", byteOffset := 16 }, { name := "TFlag", type := 166, offset := 3, embedded := false, tag := "", pkgPath := "", byteOffset := 20 }, { name := "Align_", type := 5, offset := 4, embedded := false, tag := "", pkgPath := "", byteOffset := 21 }, { name := "FieldAlign_", type := 5, offset := 5, embedded := false, tag := "", pkgPath := "", byteOffset := 22 }, { name := "Kind_", type := 167, offset := 6, embedded := false, tag := "", pkgPath := "", byteOffset := 23 }, { name := "Equal", type := 168, offset := 7, embedded := false, tag := "", pkgPath := "", byteOffset := 24 }, { name := "GCData", type := 169, offset := 8, embedded := false, tag := "", pkgPath := "", byteOffset := 32 }, { name := "Str", type := 170, offset := 9, embedded := false, tag := "", pkgPath := "", byteOffset := 40 }, { name := "PtrToThis", type := 171, offset := 10, embedded := false, tag := "", pkgPath := "", byteOffset := 44 }]) := ⟨Tryz.underlying172⟩
instance : Zec Tryz.prog 172 (Go.Value.agg #[(Go.Value.int Go.IntKind.u64 0), (Go.Value.int Go.IntKind.u64 0), (Go.Value.int Go.IntKind.u32 0), (Go.Value.int Go.IntKind.u8 0), (Go.Value.int Go.IntKind.u8 0), (Go.Value.int Go.IntKind.u8 0), (Go.Value.int Go.IntKind.u8 0), Go.Value.nilFunc, (Go.Value.pointer none), (Go.Value.int Go.IntKind.i32 0), (Go.Value.int Go.IntKind.i32 0)]) := ⟨by kernel_rfl⟩
instance : Szc Tryz.prog 173 11 := ⟨by kernel_rfl⟩
instance : Bsc Tryz.prog 173 48 := ⟨by kernel_rfl⟩
instance : Und Tryz.prog 173 (Go.TypeDesc.struct #[{ name := "Size_", type := 12, offset := 0, embedded := false, tag := "", pkgPath := "", byteOffset := 0 }, { name := "PtrBytes", type := 12, offset := 1, embedded := false, tag := "", pkgPath := "", byteOffset := 8 }, { name := "Hash", type := 116, offset := 2, embedded := false, tag := "", pkgPath := "", byteOffset := 16 }, { name := "TFlag", type := 166, offset := 3, embedded := false, tag := "", pkgPath := "", byteOffset := 20 }, { name := "Align_", type := 5, offset := 4, embedded := false, tag := "", pkgPath := "", byteOffset := 21 }, { name := "FieldAlign_", type := 5, offset := 5, embedded := false, tag := "", pkgPath := "", byteOffset := 22 }, { name := "Kind_", type := 167, offset := 6, embedded := false, tag := "", pkgPath := "", byteOffset := 23 }, { name := "Equal", type := 168, offset := 7, embedded := false, tag := "", pkgPath := "", byteOffset := 24 }, { name := "GCData", type := 169, offset := 8, embedded := false, tag := "", pkgPath := "", byteOffset := 32 }, { name := "Str", type := 170, offset := 9, embedded := false, tag := "", pkgPath := "", byteOffset := 40 }, { name := "PtrToThis", type := 171, offset := 10, embedded := false, tag := "", pkgPath := "", byteOffset := 44 }]) := ⟨Tryz.underlying173⟩
instance : Zec Tryz.prog 173 (Go.Value.agg #[(Go.Value.int Go.IntKind.u64 0), (Go.Value.int Go.IntKind.u64 0), (Go.Value.int Go.IntKind.u32 0), (Go.Value.int Go.IntKind.u8 0), (Go.Value.int Go.IntKind.u8 0), (Go.Value.int Go.IntKind.u8 0), (Go.Value.int Go.IntKind.u8 0), Go.Value.nilFunc, (Go.Value.pointer none), (Go.Value.int Go.IntKind.i32 0), (Go.Value.int Go.IntKind.i32 0)]) := ⟨by kernel_rfl⟩
instance : Szc Tryz.prog 174 1 := ⟨by kernel_rfl⟩
instance : Bsc Tryz.prog 174 8 := ⟨by kernel_rfl⟩
instance : Und Tryz.prog 174 Go.TypeDesc.unsafePointer := ⟨Tryz.underlying174⟩
instance : Zec Tryz.prog 174 (Go.Value.pointer none) := ⟨by kernel_rfl⟩
theorem bld26_  : bldv Tryz.prog 26 [] = some (.agg #[(Go.Value.string { data := #[] }), (Go.Value.string { data := #[] })]) := by kernel_rfl
theorem bld26_0_1 (a0 : ByteArray) (a1 : ByteArray) : bldv Tryz.prog 26 [(0, (.string a0)), (1, (.string a1))] = some (.agg #[(.string a0), (.string a1)]) := by kernel_rfl
theorem bld30_  : bldv Tryz.prog 30 [] = some (.agg #[(Go.Value.string { data := #[] }), (Go.Value.string { data := #[] }), (Go.Value.string { data := #[] }), (Go.Value.string { data := #[] }), (Go.Value.bool false)]) := by kernel_rfl
theorem bld30_0_1_2_3 (a0 : ByteArray) (a1 : ByteArray) (a20 a21 : Value) (a3 : Bool) : bldv Tryz.prog 30 [(0, (.string a0)), (1, (.string a1)), (2, (.agg #[a20, a21])), (3, (.bool a3))] = some (.agg #[(.string a0), (.string a1), a20, a21, (.bool a3)]) := by kernel_rfl
theorem bld66_0_1_2 (a0 : ByteArray) (a1 : ByteArray) (a2 : Int) : bldv Tryz.prog 66 [(0, (.string a0)), (1, (.string a1)), (2, (.int Go.IntKind.i64 a2))] = some (.agg #[(.string a0), (.string a1), (.int Go.IntKind.i64 a2)]) := by kernel_rfl
theorem bld72_0_1_2_3 (a0 : ByteArray) (a1 : ByteArray) (a2 : Int) (a3 : Bool) : bldv Tryz.prog 72 [(0, (.string a0)), (1, (.string a1)), (2, (.int Go.IntKind.i64 a2)), (3, (.bool a3))] = some (.agg #[(.string a0), (.string a1), (.int Go.IntKind.i64 a2), (.bool a3)]) := by kernel_rfl
theorem bld107_0 (a0 : ByteArray) : bldv Tryz.prog 107 [(0, (.string a0))] = some (.agg #[(.string a0)]) := by kernel_rfl
theorem bld128_  : bldv Tryz.prog 128 [] = some (.agg #[(Go.Value.bool false), (Go.Value.string { data := #[] }), (Go.Value.string { data := #[] })]) := by kernel_rfl
theorem bld128_1_2 (a0 : ByteArray) (a1 : ByteArray) : bldv Tryz.prog 128 [(1, (.string a0)), (2, (.string a1))] = some (.agg #[(Go.Value.bool false), (.string a0), (.string a1)]) := by kernel_rfl
theorem mixed : Tryz.prog.follows .mixedOrders = true := by kernel_rfl
end Go.Proofs.YtnhbipachchlgaaGreat.HL
