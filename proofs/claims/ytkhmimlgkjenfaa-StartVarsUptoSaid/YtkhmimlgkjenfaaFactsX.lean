/- Facts: closed facts of the seat's types and functions, each by the kernel. No condition. -/
import Derived.Test.YtkhmimlgkjenfaaHLmX
import Derived.Test.YtkhmimlgkjenfaaProg
namespace Go.Proofs.Ytkhmimlgkjenfaa.HL
open Go
set_option linter.unusedVariables false
theorem go5 : goFn Try.prog 5 = true := by kernel_rfl
theorem go6 : goFn Try.prog 6 = true := by kernel_rfl
theorem go7 : goFn Try.prog 7 = true := by kernel_rfl
theorem go8 : goFn Try.prog 8 = true := by kernel_rfl
theorem go9 : goFn Try.prog 9 = true := by kernel_rfl
theorem go10 : goFn Try.prog 10 = true := by kernel_rfl
theorem go11 : goFn Try.prog 11 = true := by kernel_rfl
theorem go12 : goFn Try.prog 12 = true := by kernel_rfl
theorem go13 : goFn Try.prog 13 = true := by kernel_rfl
theorem go14 : goFn Try.prog 14 = true := by kernel_rfl
theorem go15 : goFn Try.prog 15 = true := by kernel_rfl
theorem go16 : goFn Try.prog 16 = true := by kernel_rfl
theorem go17 : goFn Try.prog 17 = true := by kernel_rfl
theorem go18 : goFn Try.prog 18 = true := by kernel_rfl
theorem go19 : goFn Try.prog 19 = true := by kernel_rfl
theorem go20 : goFn Try.prog 20 = true := by kernel_rfl
theorem go21 : goFn Try.prog 21 = true := by kernel_rfl
theorem go22 : goFn Try.prog 22 = true := by kernel_rfl
theorem go23 : goFn Try.prog 23 = true := by kernel_rfl
theorem go24 : goFn Try.prog 24 = true := by kernel_rfl
theorem go25 : goFn Try.prog 25 = true := by kernel_rfl
theorem go26 : goFn Try.prog 26 = true := by kernel_rfl
theorem go27 : goFn Try.prog 27 = true := by kernel_rfl
theorem go28 : goFn Try.prog 28 = true := by kernel_rfl
theorem go32 : goFn Try.prog 32 = true := by kernel_rfl
theorem go33 : goFn Try.prog 33 = true := by kernel_rfl
theorem go34 : goFn Try.prog 34 = true := by kernel_rfl
theorem go35 : goFn Try.prog 35 = true := by kernel_rfl
theorem go36 : goFn Try.prog 36 = true := by kernel_rfl
theorem go37 : goFn Try.prog 37 = true := by kernel_rfl
theorem go38 : goFn Try.prog 38 = true := by kernel_rfl
theorem go39 : goFn Try.prog 39 = true := by kernel_rfl
theorem go40 : goFn Try.prog 40 = true := by kernel_rfl
theorem go41 : goFn Try.prog 41 = true := by kernel_rfl
theorem go42 : goFn Try.prog 42 = true := by kernel_rfl
theorem go44 : goFn Try.prog 44 = true := by kernel_rfl
theorem go45 : goFn Try.prog 45 = true := by kernel_rfl
theorem go46 : goFn Try.prog 46 = true := by kernel_rfl
theorem go47 : goFn Try.prog 47 = true := by kernel_rfl
theorem go48 : goFn Try.prog 48 = true := by kernel_rfl
theorem go49 : goFn Try.prog 49 = true := by kernel_rfl
theorem go50 : goFn Try.prog 50 = true := by kernel_rfl
theorem go51 : goFn Try.prog 51 = true := by kernel_rfl
theorem go53 : goFn Try.prog 53 = true := by kernel_rfl
theorem go54 : goFn Try.prog 54 = true := by kernel_rfl
theorem go55 : goFn Try.prog 55 = true := by kernel_rfl
theorem go56 : goFn Try.prog 56 = true := by kernel_rfl
theorem go57 : goFn Try.prog 57 = true := by kernel_rfl
theorem go58 : goFn Try.prog 58 = true := by kernel_rfl
theorem go59 : goFn Try.prog 59 = true := by kernel_rfl
theorem go60 : goFn Try.prog 60 = true := by kernel_rfl
theorem go61 : goFn Try.prog 61 = true := by kernel_rfl
theorem go62 : goFn Try.prog 62 = true := by kernel_rfl
theorem go63 : goFn Try.prog 63 = true := by kernel_rfl
theorem go64 : goFn Try.prog 64 = true := by kernel_rfl
theorem go65 : goFn Try.prog 65 = true := by kernel_rfl
theorem go66 : goFn Try.prog 66 = true := by kernel_rfl
theorem go67 : goFn Try.prog 67 = true := by kernel_rfl
theorem go68 : goFn Try.prog 68 = true := by kernel_rfl
theorem go69 : goFn Try.prog 69 = true := by kernel_rfl
theorem go70 : goFn Try.prog 70 = true := by kernel_rfl
theorem go72 : goFn Try.prog 72 = true := by kernel_rfl
theorem go73 : goFn Try.prog 73 = true := by kernel_rfl
theorem go74 : goFn Try.prog 74 = true := by kernel_rfl
theorem go75 : goFn Try.prog 75 = true := by kernel_rfl
theorem go77 : goFn Try.prog 77 = true := by kernel_rfl
theorem go78 : goFn Try.prog 78 = true := by kernel_rfl
theorem go80 : goFn Try.prog 80 = true := by kernel_rfl
theorem go81 : goFn Try.prog 81 = true := by kernel_rfl
instance : Szc Try.prog 0 1 := ⟨by kernel_rfl⟩
instance : Bsc Try.prog 0 0 := ⟨by kernel_rfl⟩
instance : Und Try.prog 0 (Go.TypeDesc.tuple #[]) := ⟨Try.underlying0⟩
instance : Zec Try.prog 0 (Go.Value.tuple #[]) := ⟨by kernel_rfl⟩
instance : Szc Try.prog 1 1 := ⟨by kernel_rfl⟩
instance : Bsc Try.prog 1 8 := ⟨by kernel_rfl⟩
instance : Und Try.prog 1 (Go.TypeDesc.func #[] #[] false) := ⟨Try.underlying1⟩
instance : Zec Try.prog 1 (Go.Value.nilFunc) := ⟨by kernel_rfl⟩
instance : Szc Try.prog 2 1 := ⟨by kernel_rfl⟩
instance : Bsc Try.prog 2 8 := ⟨by kernel_rfl⟩
instance : Und Try.prog 2 (Go.TypeDesc.int Go.IntKind.i64) := ⟨Try.underlying2⟩
instance : Zec Try.prog 2 (Go.Value.int Go.IntKind.i64 0) := ⟨by kernel_rfl⟩
instance : Szc Try.prog 3 1 := ⟨by kernel_rfl⟩
instance : Bsc Try.prog 3 8 := ⟨by kernel_rfl⟩
instance : Und Try.prog 3 (Go.TypeDesc.int Go.IntKind.i64) := ⟨Try.underlying3⟩
instance : Zec Try.prog 3 (Go.Value.int Go.IntKind.i64 0) := ⟨by kernel_rfl⟩
instance : Szc Try.prog 4 1 := ⟨by kernel_rfl⟩
instance : Bsc Try.prog 4 1 := ⟨by kernel_rfl⟩
instance : Und Try.prog 4 Go.TypeDesc.bool := ⟨Try.underlying4⟩
instance : Zec Try.prog 4 (Go.Value.bool false) := ⟨by kernel_rfl⟩
instance : Szc Try.prog 5 1 := ⟨by kernel_rfl⟩
instance : Bsc Try.prog 5 1 := ⟨by kernel_rfl⟩
instance : Und Try.prog 5 (Go.TypeDesc.int Go.IntKind.u8) := ⟨Try.underlying5⟩
instance : Zec Try.prog 5 (Go.Value.int Go.IntKind.u8 0) := ⟨by kernel_rfl⟩
instance : Szc Try.prog 6 1 := ⟨by kernel_rfl⟩
instance : Bsc Try.prog 6 1 := ⟨by kernel_rfl⟩
instance : Und Try.prog 6 (Go.TypeDesc.int Go.IntKind.u8) := ⟨Try.underlying6⟩
instance : Zec Try.prog 6 (Go.Value.int Go.IntKind.u8 0) := ⟨by kernel_rfl⟩
instance : Szc Try.prog 7 4 := ⟨by kernel_rfl⟩
instance : Bsc Try.prog 7 24 := ⟨by kernel_rfl⟩
instance : Und Try.prog 7 (Go.TypeDesc.struct #[{ name := "x", type := 2, offset := 0, embedded := false, tag := "", pkgPath := "runtime", byteOffset := 0 }, { name := "y", type := 3, offset := 1, embedded := false, tag := "", pkgPath := "runtime", byteOffset := 8 }, { name := "signed", type := 4, offset := 2, embedded := false, tag := "", pkgPath := "runtime", byteOffset := 16 }, { name := "code", type := 6, offset := 3, embedded := false, tag := "", pkgPath := "runtime", byteOffset := 17 }]) := ⟨Try.underlying7⟩
instance : Zec Try.prog 7 (Go.Value.agg #[(Go.Value.int Go.IntKind.i64 0), (Go.Value.int Go.IntKind.i64 0), (Go.Value.bool false), (Go.Value.int Go.IntKind.u8 0)]) := ⟨by kernel_rfl⟩
instance : Szc Try.prog 8 4 := ⟨by kernel_rfl⟩
instance : Bsc Try.prog 8 24 := ⟨by kernel_rfl⟩
instance : Und Try.prog 8 (Go.TypeDesc.struct #[{ name := "x", type := 2, offset := 0, embedded := false, tag := "", pkgPath := "runtime", byteOffset := 0 }, { name := "y", type := 3, offset := 1, embedded := false, tag := "", pkgPath := "runtime", byteOffset := 8 }, { name := "signed", type := 4, offset := 2, embedded := false, tag := "", pkgPath := "runtime", byteOffset := 16 }, { name := "code", type := 6, offset := 3, embedded := false, tag := "", pkgPath := "runtime", byteOffset := 17 }]) := ⟨Try.underlying8⟩
instance : Zec Try.prog 8 (Go.Value.agg #[(Go.Value.int Go.IntKind.i64 0), (Go.Value.int Go.IntKind.i64 0), (Go.Value.bool false), (Go.Value.int Go.IntKind.u8 0)]) := ⟨by kernel_rfl⟩
instance : Szc Try.prog 9 1 := ⟨by kernel_rfl⟩
instance : Bsc Try.prog 9 16 := ⟨by kernel_rfl⟩
instance : Und Try.prog 9 Go.TypeDesc.string := ⟨Try.underlying9⟩
instance : Zec Try.prog 9 (Go.Value.string { data := #[] }) := ⟨by kernel_rfl⟩
instance : Szc Try.prog 10 1 := ⟨by kernel_rfl⟩
instance : Bsc Try.prog 10 16 := ⟨by kernel_rfl⟩
instance : Und Try.prog 10 Go.TypeDesc.string := ⟨Try.underlying10⟩
instance : Zec Try.prog 10 (Go.Value.string { data := #[] }) := ⟨by kernel_rfl⟩
instance : Szc Try.prog 11 1 := ⟨by kernel_rfl⟩
instance : Bsc Try.prog 11 16 := ⟨by kernel_rfl⟩
instance : Und Try.prog 11 Go.TypeDesc.string := ⟨Try.underlying11⟩
instance : Zec Try.prog 11 (Go.Value.string { data := #[] }) := ⟨by kernel_rfl⟩
instance : Szc Try.prog 12 1 := ⟨by kernel_rfl⟩
instance : Bsc Try.prog 12 8 := ⟨by kernel_rfl⟩
instance : Und Try.prog 12 (Go.TypeDesc.int Go.IntKind.u64) := ⟨Try.underlying12⟩
instance : Zec Try.prog 12 (Go.Value.int Go.IntKind.u64 0) := ⟨by kernel_rfl⟩
instance : Szc Try.prog 16 1 := ⟨by kernel_rfl⟩
instance : Bsc Try.prog 16 8 := ⟨by kernel_rfl⟩
instance : Und Try.prog 16 (Go.TypeDesc.pointer 127) := ⟨Try.underlying16⟩
instance : Zec Try.prog 16 (Go.Value.pointer none) := ⟨by kernel_rfl⟩
instance : Szc Try.prog 17 1 := ⟨by kernel_rfl⟩
instance : Bsc Try.prog 17 8 := ⟨by kernel_rfl⟩
instance : Und Try.prog 17 (Go.TypeDesc.pointer 137) := ⟨Try.underlying17⟩
instance : Zec Try.prog 17 (Go.Value.pointer none) := ⟨by kernel_rfl⟩
instance : Szc Try.prog 20 1 := ⟨by kernel_rfl⟩
instance : Bsc Try.prog 20 16 := ⟨by kernel_rfl⟩
instance : Und Try.prog 20 (Go.TypeDesc.interface #[]) := ⟨Try.underlying20⟩
instance : Zec Try.prog 20 (Go.Value.nilIface) := ⟨by kernel_rfl⟩
instance : Szc Try.prog 21 1 := ⟨by kernel_rfl⟩
instance : Bsc Try.prog 21 4 := ⟨by kernel_rfl⟩
instance : Und Try.prog 21 (Go.TypeDesc.int Go.IntKind.i32) := ⟨Try.underlying21⟩
instance : Zec Try.prog 21 (Go.Value.int Go.IntKind.i32 0) := ⟨by kernel_rfl⟩
instance : Szc Try.prog 22 1 := ⟨by kernel_rfl⟩
instance : Bsc Try.prog 22 24 := ⟨by kernel_rfl⟩
instance : Und Try.prog 22 (Go.TypeDesc.slice 9) := ⟨Try.underlying22⟩
instance : Zec Try.prog 22 (Go.Value.slice none 0 0) := ⟨by kernel_rfl⟩
instance : Szc Try.prog 23 1 := ⟨by kernel_rfl⟩
instance : Bsc Try.prog 23 24 := ⟨by kernel_rfl⟩
instance : Und Try.prog 23 (Go.TypeDesc.slice 38) := ⟨Try.underlying23⟩
instance : Zec Try.prog 23 (Go.Value.slice none 0 0) := ⟨by kernel_rfl⟩
instance : Szc Try.prog 24 3 := ⟨by kernel_rfl⟩
instance : Bsc Try.prog 24 64 := ⟨by kernel_rfl⟩
instance : Und Try.prog 24 (Go.TypeDesc.struct #[{ name := "Path", type := 9, offset := 0, embedded := false, tag := "", pkgPath := "", byteOffset := 0 }, { name := "Imports", type := 22, offset := 1, embedded := false, tag := "", pkgPath := "", byteOffset := 16 }, { name := "Files", type := 23, offset := 2, embedded := false, tag := "", pkgPath := "", byteOffset := 40 }]) := ⟨Try.underlying24⟩
instance : Zec Try.prog 24 (Go.Value.agg #[(Go.Value.string { data := #[] }), (Go.Value.slice none 0 0), (Go.Value.slice none 0 0)]) := ⟨by kernel_rfl⟩
instance : Szc Try.prog 25 3 := ⟨by kernel_rfl⟩
instance : Bsc Try.prog 25 64 := ⟨by kernel_rfl⟩
instance : Und Try.prog 25 (Go.TypeDesc.struct #[{ name := "Path", type := 9, offset := 0, embedded := false, tag := "", pkgPath := "", byteOffset := 0 }, { name := "Imports", type := 22, offset := 1, embedded := false, tag := "", pkgPath := "", byteOffset := 16 }, { name := "Files", type := 23, offset := 2, embedded := false, tag := "", pkgPath := "", byteOffset := 40 }]) := ⟨Try.underlying25⟩
instance : Zec Try.prog 25 (Go.Value.agg #[(Go.Value.string { data := #[] }), (Go.Value.slice none 0 0), (Go.Value.slice none 0 0)]) := ⟨by kernel_rfl⟩
instance : Szc Try.prog 26 1 := ⟨by kernel_rfl⟩
instance : Bsc Try.prog 26 24 := ⟨by kernel_rfl⟩
instance : Und Try.prog 26 (Go.TypeDesc.slice 25) := ⟨Try.underlying26⟩
instance : Zec Try.prog 26 (Go.Value.slice none 0 0) := ⟨by kernel_rfl⟩
instance : Szc Try.prog 28 1 := ⟨by kernel_rfl⟩
instance : Bsc Try.prog 28 8 := ⟨by kernel_rfl⟩
instance : Und Try.prog 28 (Go.TypeDesc.int Go.IntKind.i64) := ⟨Try.underlying28⟩
instance : Zec Try.prog 28 (Go.Value.int Go.IntKind.i64 0) := ⟨by kernel_rfl⟩
instance : Szc Try.prog 29 1 := ⟨by kernel_rfl⟩
instance : Bsc Try.prog 29 0 := ⟨by kernel_rfl⟩
instance : Und Try.prog 29 (Go.TypeDesc.tuple #[22, 28, 22]) := ⟨Try.underlying29⟩
instance : Zec Try.prog 29 (Go.Value.tuple #[(Go.Value.slice none 0 0), (Go.Value.int Go.IntKind.i64 0), (Go.Value.slice none 0 0)]) := ⟨by kernel_rfl⟩
instance : Szc Try.prog 32 1 := ⟨by kernel_rfl⟩
instance : Bsc Try.prog 32 8 := ⟨by kernel_rfl⟩
instance : Und Try.prog 32 (Go.TypeDesc.func #[26, 26] #[4] false) := ⟨Try.underlying32⟩
instance : Zec Try.prog 32 (Go.Value.nilFunc) := ⟨by kernel_rfl⟩
instance : Szc Try.prog 34 1 := ⟨by kernel_rfl⟩
instance : Bsc Try.prog 34 8 := ⟨by kernel_rfl⟩
instance : Und Try.prog 34 (Go.TypeDesc.func #[25] #[4] false) := ⟨Try.underlying34⟩
instance : Zec Try.prog 34 (Go.Value.nilFunc) := ⟨by kernel_rfl⟩
instance : Szc Try.prog 35 1 := ⟨by kernel_rfl⟩
instance : Bsc Try.prog 35 24 := ⟨by kernel_rfl⟩
instance : Und Try.prog 35 (Go.TypeDesc.slice 40) := ⟨Try.underlying35⟩
instance : Zec Try.prog 35 (Go.Value.slice none 0 0) := ⟨by kernel_rfl⟩
instance : Szc Try.prog 36 1 := ⟨by kernel_rfl⟩
instance : Bsc Try.prog 36 24 := ⟨by kernel_rfl⟩
instance : Und Try.prog 36 (Go.TypeDesc.slice 43) := ⟨Try.underlying36⟩
instance : Zec Try.prog 36 (Go.Value.slice none 0 0) := ⟨by kernel_rfl⟩
instance : Szc Try.prog 37 4 := ⟨by kernel_rfl⟩
instance : Bsc Try.prog 37 72 := ⟨by kernel_rfl⟩
instance : Und Try.prog 37 (Go.TypeDesc.struct #[{ name := "Name", type := 9, offset := 0, embedded := false, tag := "", pkgPath := "", byteOffset := 0 }, { name := "Vars", type := 35, offset := 1, embedded := false, tag := "", pkgPath := "", byteOffset := 16 }, { name := "Funcs", type := 36, offset := 2, embedded := false, tag := "", pkgPath := "", byteOffset := 40 }, { name := "Inits", type := 3, offset := 3, embedded := false, tag := "", pkgPath := "", byteOffset := 64 }]) := ⟨Try.underlying37⟩
instance : Zec Try.prog 37 (Go.Value.agg #[(Go.Value.string { data := #[] }), (Go.Value.slice none 0 0), (Go.Value.slice none 0 0), (Go.Value.int Go.IntKind.i64 0)]) := ⟨by kernel_rfl⟩
instance : Szc Try.prog 38 4 := ⟨by kernel_rfl⟩
instance : Bsc Try.prog 38 72 := ⟨by kernel_rfl⟩
instance : Und Try.prog 38 (Go.TypeDesc.struct #[{ name := "Name", type := 9, offset := 0, embedded := false, tag := "", pkgPath := "", byteOffset := 0 }, { name := "Vars", type := 35, offset := 1, embedded := false, tag := "", pkgPath := "", byteOffset := 16 }, { name := "Funcs", type := 36, offset := 2, embedded := false, tag := "", pkgPath := "", byteOffset := 40 }, { name := "Inits", type := 3, offset := 3, embedded := false, tag := "", pkgPath := "", byteOffset := 64 }]) := ⟨Try.underlying38⟩
instance : Zec Try.prog 38 (Go.Value.agg #[(Go.Value.string { data := #[] }), (Go.Value.slice none 0 0), (Go.Value.slice none 0 0), (Go.Value.int Go.IntKind.i64 0)]) := ⟨by kernel_rfl⟩
instance : Szc Try.prog 39 2 := ⟨by kernel_rfl⟩
instance : Bsc Try.prog 39 40 := ⟨by kernel_rfl⟩
instance : Und Try.prog 39 (Go.TypeDesc.struct #[{ name := "Name", type := 9, offset := 0, embedded := false, tag := "", pkgPath := "", byteOffset := 0 }, { name := "Uses", type := 22, offset := 1, embedded := false, tag := "", pkgPath := "", byteOffset := 16 }]) := ⟨Try.underlying39⟩
instance : Zec Try.prog 39 (Go.Value.agg #[(Go.Value.string { data := #[] }), (Go.Value.slice none 0 0)]) := ⟨by kernel_rfl⟩
instance : Szc Try.prog 40 2 := ⟨by kernel_rfl⟩
instance : Bsc Try.prog 40 40 := ⟨by kernel_rfl⟩
instance : Und Try.prog 40 (Go.TypeDesc.struct #[{ name := "Name", type := 9, offset := 0, embedded := false, tag := "", pkgPath := "", byteOffset := 0 }, { name := "Uses", type := 22, offset := 1, embedded := false, tag := "", pkgPath := "", byteOffset := 16 }]) := ⟨Try.underlying40⟩
instance : Zec Try.prog 40 (Go.Value.agg #[(Go.Value.string { data := #[] }), (Go.Value.slice none 0 0)]) := ⟨by kernel_rfl⟩
instance : Szc Try.prog 43 2 := ⟨by kernel_rfl⟩
instance : Bsc Try.prog 43 40 := ⟨by kernel_rfl⟩
instance : Und Try.prog 43 (Go.TypeDesc.struct #[{ name := "Name", type := 9, offset := 0, embedded := false, tag := "", pkgPath := "", byteOffset := 0 }, { name := "Uses", type := 22, offset := 1, embedded := false, tag := "", pkgPath := "", byteOffset := 16 }]) := ⟨Try.underlying43⟩
instance : Zec Try.prog 43 (Go.Value.agg #[(Go.Value.string { data := #[] }), (Go.Value.slice none 0 0)]) := ⟨by kernel_rfl⟩
instance : Szc Try.prog 44 1 := ⟨by kernel_rfl⟩
instance : Bsc Try.prog 44 8 := ⟨by kernel_rfl⟩
instance : Und Try.prog 44 (Go.TypeDesc.func #[26] #[47] false) := ⟨Try.underlying44⟩
instance : Zec Try.prog 44 (Go.Value.nilFunc) := ⟨by kernel_rfl⟩
instance : Szc Try.prog 45 1 := ⟨by kernel_rfl⟩
instance : Bsc Try.prog 45 24 := ⟨by kernel_rfl⟩
instance : Und Try.prog 45 (Go.TypeDesc.slice 44) := ⟨Try.underlying45⟩
instance : Zec Try.prog 45 (Go.Value.slice none 0 0) := ⟨by kernel_rfl⟩
instance : Szc Try.prog 46 3 := ⟨by kernel_rfl⟩
instance : Bsc Try.prog 46 48 := ⟨by kernel_rfl⟩
instance : Und Try.prog 46 (Go.TypeDesc.struct #[{ name := "err", type := 28, offset := 0, embedded := false, tag := "", pkgPath := "cubit/start", byteOffset := 0 }, { name := "what", type := 9, offset := 1, embedded := false, tag := "", pkgPath := "cubit/start", byteOffset := 8 }, { name := "many", type := 22, offset := 2, embedded := false, tag := "", pkgPath := "cubit/start", byteOffset := 24 }]) := ⟨Try.underlying46⟩
instance : Zec Try.prog 46 (Go.Value.agg #[(Go.Value.int Go.IntKind.i64 0), (Go.Value.string { data := #[] }), (Go.Value.slice none 0 0)]) := ⟨by kernel_rfl⟩
instance : Szc Try.prog 47 3 := ⟨by kernel_rfl⟩
instance : Bsc Try.prog 47 48 := ⟨by kernel_rfl⟩
instance : Und Try.prog 47 (Go.TypeDesc.struct #[{ name := "err", type := 28, offset := 0, embedded := false, tag := "", pkgPath := "cubit/start", byteOffset := 0 }, { name := "what", type := 9, offset := 1, embedded := false, tag := "", pkgPath := "cubit/start", byteOffset := 8 }, { name := "many", type := 22, offset := 2, embedded := false, tag := "", pkgPath := "cubit/start", byteOffset := 24 }]) := ⟨Try.underlying47⟩
instance : Zec Try.prog 47 (Go.Value.agg #[(Go.Value.int Go.IntKind.i64 0), (Go.Value.string { data := #[] }), (Go.Value.slice none 0 0)]) := ⟨by kernel_rfl⟩
instance : Szc Try.prog 48 1 := ⟨by kernel_rfl⟩
instance : Bsc Try.prog 48 8 := ⟨by kernel_rfl⟩
instance : Und Try.prog 48 (Go.TypeDesc.func #[] #[22] false) := ⟨Try.underlying48⟩
instance : Zec Try.prog 48 (Go.Value.nilFunc) := ⟨by kernel_rfl⟩
instance : Szc Try.prog 50 1 := ⟨by kernel_rfl⟩
instance : Bsc Try.prog 50 0 := ⟨by kernel_rfl⟩
instance : Und Try.prog 50 (Go.TypeDesc.tuple #[22, 22]) := ⟨Try.underlying50⟩
instance : Zec Try.prog 50 (Go.Value.tuple #[(Go.Value.slice none 0 0), (Go.Value.slice none 0 0)]) := ⟨by kernel_rfl⟩
instance : Szc Try.prog 52 2 := ⟨by kernel_rfl⟩
instance : Bsc Try.prog 52 32 := ⟨by kernel_rfl⟩
instance : Und Try.prog 52 (Go.TypeDesc.struct #[{ name := "E", type := 28, offset := 0, embedded := false, tag := "", pkgPath := "", byteOffset := 0 }, { name := "Them", type := 22, offset := 1, embedded := false, tag := "", pkgPath := "", byteOffset := 8 }]) := ⟨Try.underlying52⟩
instance : Zec Try.prog 52 (Go.Value.agg #[(Go.Value.int Go.IntKind.i64 0), (Go.Value.slice none 0 0)]) := ⟨by kernel_rfl⟩
instance : Szc Try.prog 53 2 := ⟨by kernel_rfl⟩
instance : Bsc Try.prog 53 32 := ⟨by kernel_rfl⟩
instance : Und Try.prog 53 (Go.TypeDesc.struct #[{ name := "E", type := 28, offset := 0, embedded := false, tag := "", pkgPath := "", byteOffset := 0 }, { name := "Them", type := 22, offset := 1, embedded := false, tag := "", pkgPath := "", byteOffset := 8 }]) := ⟨Try.underlying53⟩
instance : Zec Try.prog 53 (Go.Value.agg #[(Go.Value.int Go.IntKind.i64 0), (Go.Value.slice none 0 0)]) := ⟨by kernel_rfl⟩
instance : Szc Try.prog 56 1 := ⟨by kernel_rfl⟩
instance : Bsc Try.prog 56 24 := ⟨by kernel_rfl⟩
instance : Und Try.prog 56 (Go.TypeDesc.slice 86) := ⟨Try.underlying56⟩
instance : Zec Try.prog 56 (Go.Value.slice none 0 0) := ⟨by kernel_rfl⟩
instance : Szc Try.prog 58 1 := ⟨by kernel_rfl⟩
instance : Bsc Try.prog 58 24 := ⟨by kernel_rfl⟩
instance : Und Try.prog 58 (Go.TypeDesc.slice 89) := ⟨Try.underlying58⟩
instance : Zec Try.prog 58 (Go.Value.slice none 0 0) := ⟨by kernel_rfl⟩
instance : Szc Try.prog 62 1 := ⟨by kernel_rfl⟩
instance : Bsc Try.prog 62 24 := ⟨by kernel_rfl⟩
instance : Und Try.prog 62 (Go.TypeDesc.slice 65) := ⟨Try.underlying62⟩
instance : Zec Try.prog 62 (Go.Value.slice none 0 0) := ⟨by kernel_rfl⟩
instance : Szc Try.prog 64 3 := ⟨by kernel_rfl⟩
instance : Bsc Try.prog 64 48 := ⟨by kernel_rfl⟩
instance : Und Try.prog 64 (Go.TypeDesc.struct #[{ name := "name", type := 9, offset := 0, embedded := false, tag := "", pkgPath := "cubit/start", byteOffset := 0 }, { name := "variable", type := 4, offset := 1, embedded := false, tag := "", pkgPath := "cubit/start", byteOffset := 16 }, { name := "uses", type := 22, offset := 2, embedded := false, tag := "", pkgPath := "cubit/start", byteOffset := 24 }]) := ⟨Try.underlying64⟩
instance : Zec Try.prog 64 (Go.Value.agg #[(Go.Value.string { data := #[] }), (Go.Value.bool false), (Go.Value.slice none 0 0)]) := ⟨by kernel_rfl⟩
instance : Szc Try.prog 65 3 := ⟨by kernel_rfl⟩
instance : Bsc Try.prog 65 48 := ⟨by kernel_rfl⟩
instance : Und Try.prog 65 (Go.TypeDesc.struct #[{ name := "name", type := 9, offset := 0, embedded := false, tag := "", pkgPath := "cubit/start", byteOffset := 0 }, { name := "variable", type := 4, offset := 1, embedded := false, tag := "", pkgPath := "cubit/start", byteOffset := 16 }, { name := "uses", type := 22, offset := 2, embedded := false, tag := "", pkgPath := "cubit/start", byteOffset := 24 }]) := ⟨Try.underlying65⟩
instance : Zec Try.prog 65 (Go.Value.agg #[(Go.Value.string { data := #[] }), (Go.Value.bool false), (Go.Value.slice none 0 0)]) := ⟨by kernel_rfl⟩
instance : Szc Try.prog 68 1 := ⟨by kernel_rfl⟩
instance : Bsc Try.prog 68 8 := ⟨by kernel_rfl⟩
instance : Und Try.prog 68 (Go.TypeDesc.func #[9] #[4] false) := ⟨Try.underlying68⟩
instance : Zec Try.prog 68 (Go.Value.nilFunc) := ⟨by kernel_rfl⟩
instance : Szc Try.prog 72 1 := ⟨by kernel_rfl⟩
instance : Bsc Try.prog 72 8 := ⟨by kernel_rfl⟩
instance : Und Try.prog 72 (Go.TypeDesc.func #[25, 62, 9, 26] #[47] false) := ⟨Try.underlying72⟩
instance : Zec Try.prog 72 (Go.Value.nilFunc) := ⟨by kernel_rfl⟩
instance : Szc Try.prog 73 1 := ⟨by kernel_rfl⟩
instance : Bsc Try.prog 73 24 := ⟨by kernel_rfl⟩
instance : Und Try.prog 73 (Go.TypeDesc.slice 80) := ⟨Try.underlying73⟩
instance : Zec Try.prog 73 (Go.Value.slice none 0 0) := ⟨by kernel_rfl⟩
instance : Szc Try.prog 74 1 := ⟨by kernel_rfl⟩
instance : Bsc Try.prog 74 24 := ⟨by kernel_rfl⟩
instance : Und Try.prog 74 (Go.TypeDesc.slice 4) := ⟨Try.underlying74⟩
instance : Zec Try.prog 74 (Go.Value.slice none 0 0) := ⟨by kernel_rfl⟩
instance : Szc Try.prog 75 3 := ⟨by kernel_rfl⟩
instance : Bsc Try.prog 75 72 := ⟨by kernel_rfl⟩
instance : Und Try.prog 75 (Go.TypeDesc.struct #[{ name := "names", type := 22, offset := 0, embedded := false, tag := "", pkgPath := "cubit/start", byteOffset := 0 }, { name := "next", type := 73, offset := 1, embedded := false, tag := "", pkgPath := "cubit/start", byteOffset := 24 }, { name := "marked", type := 74, offset := 2, embedded := false, tag := "", pkgPath := "cubit/start", byteOffset := 48 }]) := ⟨Try.underlying75⟩
instance : Zec Try.prog 75 (Go.Value.agg #[(Go.Value.slice none 0 0), (Go.Value.slice none 0 0), (Go.Value.slice none 0 0)]) := ⟨by kernel_rfl⟩
instance : Szc Try.prog 76 3 := ⟨by kernel_rfl⟩
instance : Bsc Try.prog 76 72 := ⟨by kernel_rfl⟩
instance : Und Try.prog 76 (Go.TypeDesc.struct #[{ name := "names", type := 22, offset := 0, embedded := false, tag := "", pkgPath := "cubit/start", byteOffset := 0 }, { name := "next", type := 73, offset := 1, embedded := false, tag := "", pkgPath := "cubit/start", byteOffset := 24 }, { name := "marked", type := 74, offset := 2, embedded := false, tag := "", pkgPath := "cubit/start", byteOffset := 48 }]) := ⟨Try.underlying76⟩
instance : Zec Try.prog 76 (Go.Value.agg #[(Go.Value.slice none 0 0), (Go.Value.slice none 0 0), (Go.Value.slice none 0 0)]) := ⟨by kernel_rfl⟩
instance : Szc Try.prog 80 1 := ⟨by kernel_rfl⟩
instance : Bsc Try.prog 80 24 := ⟨by kernel_rfl⟩
instance : Und Try.prog 80 (Go.TypeDesc.slice 3) := ⟨Try.underlying80⟩
instance : Zec Try.prog 80 (Go.Value.slice none 0 0) := ⟨by kernel_rfl⟩
instance : Szc Try.prog 81 1 := ⟨by kernel_rfl⟩
instance : Bsc Try.prog 81 8 := ⟨by kernel_rfl⟩
instance : Und Try.prog 81 (Go.TypeDesc.func #[3] #[4] false) := ⟨Try.underlying81⟩
instance : Zec Try.prog 81 (Go.Value.nilFunc) := ⟨by kernel_rfl⟩
instance : Szc Try.prog 85 3 := ⟨by kernel_rfl⟩
instance : Bsc Try.prog 85 48 := ⟨by kernel_rfl⟩
instance : Und Try.prog 85 (Go.TypeDesc.struct #[{ name := "name", type := 9, offset := 0, embedded := false, tag := "", pkgPath := "cubit/cubitref15", byteOffset := 0 }, { name := "from", type := 4, offset := 1, embedded := false, tag := "", pkgPath := "cubit/cubitref15", byteOffset := 16 }, { name := "to", type := 80, offset := 2, embedded := false, tag := "", pkgPath := "cubit/cubitref15", byteOffset := 24 }]) := ⟨Try.underlying85⟩
instance : Zec Try.prog 85 (Go.Value.agg #[(Go.Value.string { data := #[] }), (Go.Value.bool false), (Go.Value.slice none 0 0)]) := ⟨by kernel_rfl⟩
instance : Szc Try.prog 86 3 := ⟨by kernel_rfl⟩
instance : Bsc Try.prog 86 48 := ⟨by kernel_rfl⟩
instance : Und Try.prog 86 (Go.TypeDesc.struct #[{ name := "name", type := 9, offset := 0, embedded := false, tag := "", pkgPath := "cubit/cubitref15", byteOffset := 0 }, { name := "from", type := 4, offset := 1, embedded := false, tag := "", pkgPath := "cubit/cubitref15", byteOffset := 16 }, { name := "to", type := 80, offset := 2, embedded := false, tag := "", pkgPath := "cubit/cubitref15", byteOffset := 24 }]) := ⟨Try.underlying86⟩
instance : Zec Try.prog 86 (Go.Value.agg #[(Go.Value.string { data := #[] }), (Go.Value.bool false), (Go.Value.slice none 0 0)]) := ⟨by kernel_rfl⟩
instance : Szc Try.prog 88 3 := ⟨by kernel_rfl⟩
instance : Bsc Try.prog 88 48 := ⟨by kernel_rfl⟩
instance : Und Try.prog 88 (Go.TypeDesc.struct #[{ name := "name", type := 9, offset := 0, embedded := false, tag := "", pkgPath := "cubit/cubitref15", byteOffset := 0 }, { name := "is", type := 4, offset := 1, embedded := false, tag := "", pkgPath := "cubit/cubitref15", byteOffset := 16 }, { name := "uses", type := 22, offset := 2, embedded := false, tag := "", pkgPath := "cubit/cubitref15", byteOffset := 24 }]) := ⟨Try.underlying88⟩
instance : Zec Try.prog 88 (Go.Value.agg #[(Go.Value.string { data := #[] }), (Go.Value.bool false), (Go.Value.slice none 0 0)]) := ⟨by kernel_rfl⟩
instance : Szc Try.prog 89 3 := ⟨by kernel_rfl⟩
instance : Bsc Try.prog 89 48 := ⟨by kernel_rfl⟩
instance : Und Try.prog 89 (Go.TypeDesc.struct #[{ name := "name", type := 9, offset := 0, embedded := false, tag := "", pkgPath := "cubit/cubitref15", byteOffset := 0 }, { name := "is", type := 4, offset := 1, embedded := false, tag := "", pkgPath := "cubit/cubitref15", byteOffset := 16 }, { name := "uses", type := 22, offset := 2, embedded := false, tag := "", pkgPath := "cubit/cubitref15", byteOffset := 24 }]) := ⟨Try.underlying89⟩
instance : Zec Try.prog 89 (Go.Value.agg #[(Go.Value.string { data := #[] }), (Go.Value.bool false), (Go.Value.slice none 0 0)]) := ⟨by kernel_rfl⟩
instance : Szc Try.prog 94 1 := ⟨by kernel_rfl⟩
instance : Bsc Try.prog 94 24 := ⟨by kernel_rfl⟩
instance : Und Try.prog 94 (Go.TypeDesc.slice 74) := ⟨Try.underlying94⟩
instance : Zec Try.prog 94 (Go.Value.slice none 0 0) := ⟨by kernel_rfl⟩
instance : Szc Try.prog 96 1 := ⟨by kernel_rfl⟩
instance : Bsc Try.prog 96 24 := ⟨by kernel_rfl⟩
instance : Und Try.prog 96 (Go.TypeDesc.slice 5) := ⟨Try.underlying96⟩
instance : Zec Try.prog 96 (Go.Value.slice none 0 0) := ⟨by kernel_rfl⟩
instance : Szc Try.prog 97 1 := ⟨by kernel_rfl⟩
instance : Bsc Try.prog 97 8 := ⟨by kernel_rfl⟩
instance : Und Try.prog 97 (Go.TypeDesc.map 9 3) := ⟨Try.underlying97⟩
instance : Zec Try.prog 97 (Go.Value.map none) := ⟨by kernel_rfl⟩
instance : Szc Try.prog 102 1 := ⟨by kernel_rfl⟩
instance : Bsc Try.prog 102 8 := ⟨by kernel_rfl⟩
instance : Und Try.prog 102 (Go.TypeDesc.func #[38, 38] #[3] false) := ⟨Try.underlying102⟩
instance : Zec Try.prog 102 (Go.Value.nilFunc) := ⟨by kernel_rfl⟩
instance : Szc Try.prog 107 1 := ⟨by kernel_rfl⟩
instance : Bsc Try.prog 107 8 := ⟨by kernel_rfl⟩
instance : Und Try.prog 107 (Go.TypeDesc.func #[3] #[] false) := ⟨Try.underlying107⟩
instance : Zec Try.prog 107 (Go.Value.nilFunc) := ⟨by kernel_rfl⟩
instance : Szc Try.prog 116 1 := ⟨by kernel_rfl⟩
instance : Bsc Try.prog 116 8 := ⟨by kernel_rfl⟩
instance : Und Try.prog 116 (Go.TypeDesc.func #[65] #[4] false) := ⟨Try.underlying116⟩
instance : Zec Try.prog 116 (Go.Value.nilFunc) := ⟨by kernel_rfl⟩
instance : Szc Try.prog 121 1 := ⟨by kernel_rfl⟩
instance : Bsc Try.prog 121 8 := ⟨by kernel_rfl⟩
instance : Und Try.prog 121 (Go.TypeDesc.int Go.IntKind.u64) := ⟨Try.underlying121⟩
instance : Zec Try.prog 121 (Go.Value.int Go.IntKind.u64 0) := ⟨by kernel_rfl⟩
instance : Szc Try.prog 125 0 := ⟨by kernel_rfl⟩
instance : Bsc Try.prog 125 0 := ⟨by kernel_rfl⟩
instance : Und Try.prog 125 (Go.TypeDesc.array 0 16) := ⟨Try.underlying125⟩
instance : Zec Try.prog 125 (Go.Value.agg #[]) := ⟨by kernel_rfl⟩
instance : Szc Try.prog 126 0 := ⟨by kernel_rfl⟩
instance : Bsc Try.prog 126 0 := ⟨by kernel_rfl⟩
instance : Und Try.prog 126 (Go.TypeDesc.struct #[{ name := "_", type := 125, offset := 0, embedded := false, tag := "", pkgPath := "runtime", byteOffset := 0 }]) := ⟨Try.underlying126⟩
instance : Zec Try.prog 126 (Go.Value.agg #[]) := ⟨by kernel_rfl⟩
instance : Szc Try.prog 127 0 := ⟨by kernel_rfl⟩
instance : Bsc Try.prog 127 0 := ⟨by kernel_rfl⟩
instance : Und Try.prog 127 (Go.TypeDesc.struct #[{ name := "_", type := 125, offset := 0, embedded := false, tag := "", pkgPath := "runtime", byteOffset := 0 }]) := ⟨Try.underlying127⟩
instance : Zec Try.prog 127 (Go.Value.agg #[]) := ⟨by kernel_rfl⟩
instance : Szc Try.prog 129 1 := ⟨by kernel_rfl⟩
instance : Bsc Try.prog 129 4 := ⟨by kernel_rfl⟩
instance : Und Try.prog 129 (Go.TypeDesc.int Go.IntKind.u32) := ⟨Try.underlying129⟩
instance : Zec Try.prog 129 (Go.Value.int Go.IntKind.u32 0) := ⟨by kernel_rfl⟩
instance : Szc Try.prog 130 1 := ⟨by kernel_rfl⟩
instance : Bsc Try.prog 130 1 := ⟨by kernel_rfl⟩
instance : Und Try.prog 130 (Go.TypeDesc.int Go.IntKind.u8) := ⟨Try.underlying130⟩
instance : Zec Try.prog 130 (Go.Value.int Go.IntKind.u8 0) := ⟨by kernel_rfl⟩
instance : Szc Try.prog 131 1 := ⟨by kernel_rfl⟩
instance : Bsc Try.prog 131 1 := ⟨by kernel_rfl⟩
instance : Und Try.prog 131 (Go.TypeDesc.int Go.IntKind.u8) := ⟨Try.underlying131⟩
instance : Zec Try.prog 131 (Go.Value.int Go.IntKind.u8 0) := ⟨by kernel_rfl⟩
instance : Szc Try.prog 132 1 := ⟨by kernel_rfl⟩
instance : Bsc Try.prog 132 8 := ⟨by kernel_rfl⟩
instance : Und Try.prog 132 (Go.TypeDesc.func #[138, 138] #[4] false) := ⟨Try.underlying132⟩
instance : Zec Try.prog 132 (Go.Value.nilFunc) := ⟨by kernel_rfl⟩
instance : Szc Try.prog 133 1 := ⟨by kernel_rfl⟩
instance : Bsc Try.prog 133 8 := ⟨by kernel_rfl⟩
instance : Und Try.prog 133 (Go.TypeDesc.pointer 5) := ⟨Try.underlying133⟩
instance : Zec Try.prog 133 (Go.Value.pointer none) := ⟨by kernel_rfl⟩
instance : Szc Try.prog 134 1 := ⟨by kernel_rfl⟩
instance : Bsc Try.prog 134 4 := ⟨by kernel_rfl⟩
instance : Und Try.prog 134 (Go.TypeDesc.int Go.IntKind.i32) := ⟨Try.underlying134⟩
instance : Zec Try.prog 134 (Go.Value.int Go.IntKind.i32 0) := ⟨by kernel_rfl⟩
instance : Szc Try.prog 135 1 := ⟨by kernel_rfl⟩
instance : Bsc Try.prog 135 4 := ⟨by kernel_rfl⟩
instance : Und Try.prog 135 (Go.TypeDesc.int Go.IntKind.i32) := ⟨Try.underlying135⟩
instance : Zec Try.prog 135 (Go.Value.int Go.IntKind.i32 0) := ⟨by kernel_rfl⟩
instance : Szc Try.prog 136 11 := ⟨by kernel_rfl⟩
instance : Bsc Try.prog 136 48 := ⟨by kernel_rfl⟩
instance : Und Try.prog 136 (Go.TypeDesc.struct #[{ name := "Size_", type := 12, offset := 0, embedded := false, tag := "", pkgPath := "", byteOffset := 0 }, { name := "PtrBytes", type := 12, offset := 1, embedded := false, tag := "", pkgPath := "", byteOffset := 8 }, { name := "Hash", type := 129, offset := 2, embedded := false, tag := "", pkgPath := "", byteOffset := 16 }, { name := "TFlag", type := 130, offset := 3, embedded := false, tag := "", pkgPath := "", byteOffset := 20 }, { name := "Align_", type := 5, offset := 4, embedded := false, tag := "", pkgPath := "", byteOffset := 21 }, { name := "FieldAlign_", type := 5, offset := 5, embedded := false, tag := "", pkgPath := "", byteOffset := 22 }, { name := "Kind_", type := 131, offset := 6, embedded := false, tag := "", pkgPath := "", byteOffset := 23 }, { name := "Equal", type := 132, offset := 7, embedded := false, tag := "", pkgPath := "", byteOffset := 24 }, { name := "GCData", type := 133, offset := 8, embedded := false, tag := "", pkgPath := "", byteOffset := 32 }, { name := "Str", type := 134, offset := 9, embedded := false, tag := "", pkgPath := "", byteOffset := 40 }, { name := "PtrToThis", type := 135, offset := 10, embedded := false, tag := "", pkgPath := "", byteOffset := 44 }]) := ⟨Try.underlying136⟩
instance : Zec Try.prog 136 (Go.Value.agg #[(Go.Value.int Go.IntKind.u64 0), (Go.Value.int Go.IntKind.u64 0), (Go.Value.int Go.IntKind.u32 0), (Go.Value.int Go.IntKind.u8 0), (Go.Value.int Go.IntKind.u8 0), (Go.Value.int Go.IntKind.u8 0), (Go.Value.int Go.IntKind.u8 0), Go.Value.nilFunc, (Go.Value.pointer none), (Go.Value.int Go.IntKind.i32 0), (Go.Value.int Go.IntKind.i32 0)]) := ⟨by kernel_rfl⟩
instance : Szc Try.prog 137 11 := ⟨by kernel_rfl⟩
instance : Bsc Try.prog 137 48 := ⟨by kernel_rfl⟩
instance : Und Try.prog 137 (Go.TypeDesc.struct #[{ name := "Size_", type := 12, offset := 0, embedded := false, tag := "", pkgPath := "", byteOffset := 0 }, { name := "PtrBytes", type := 12, offset := 1, embedded := false, tag := "", pkgPath := "", byteOffset := 8 }, { name := "Hash", type := 129, offset := 2, embedded := false, tag := "", pkgPath := "", byteOffset := 16 }, { name := "TFlag", type := 130, offset := 3, embedded := false, tag := "", pkgPath := "", byteOffset := 20 }, { name := "Align_", type := 5, offset := 4, embedded := false, tag := "", pkgPath := "", byteOffset := 21 }, { name := "FieldAlign_", type := 5, offset := 5, embedded := false, tag := "", pkgPath := "", byteOffset := 22 }, { name := "Kind_", type := 131, offset := 6, embedded := false, tag := "", pkgPath := "", byteOffset := 23 }, { name := "Equal", type := 132, offset := 7, embedded := false, tag := "", pkgPath := "", byteOffset := 24 }, { name := "GCData", type := 133, offset := 8, embedded := false, tag := "", pkgPath := "", byteOffset := 32 }, { name := "Str", type := 134, offset := 9, embedded := false, tag := "", pkgPath := "", byteOffset := 40 }, { name := "PtrToThis", type := 135, offset := 10, embedded := false, tag := "", pkgPath := "", byteOffset := 44 }]) := ⟨Try.underlying137⟩
instance : Zec Try.prog 137 (Go.Value.agg #[(Go.Value.int Go.IntKind.u64 0), (Go.Value.int Go.IntKind.u64 0), (Go.Value.int Go.IntKind.u32 0), (Go.Value.int Go.IntKind.u8 0), (Go.Value.int Go.IntKind.u8 0), (Go.Value.int Go.IntKind.u8 0), (Go.Value.int Go.IntKind.u8 0), Go.Value.nilFunc, (Go.Value.pointer none), (Go.Value.int Go.IntKind.i32 0), (Go.Value.int Go.IntKind.i32 0)]) := ⟨by kernel_rfl⟩
instance : Szc Try.prog 138 1 := ⟨by kernel_rfl⟩
instance : Bsc Try.prog 138 8 := ⟨by kernel_rfl⟩
instance : Und Try.prog 138 Go.TypeDesc.unsafePointer := ⟨Try.underlying138⟩
instance : Zec Try.prog 138 (Go.Value.pointer none) := ⟨by kernel_rfl⟩
theorem bld25_0 (a0 : ByteArray) : bldv Try.prog 25 [(0, (.string a0))] = some (.agg #[(.string a0), (Go.Value.slice none 0 0), (Go.Value.slice none 0 0)]) := by kernel_rfl
theorem bld25_0_2 (a0 : ByteArray) (a1 : Option Addr) (a1n a1c : Nat) : bldv Try.prog 25 [(0, (.string a0)), (2, (.slice a1 a1n a1c))] = some (.agg #[(.string a0), (Go.Value.slice none 0 0), (.slice a1 a1n a1c)]) := by kernel_rfl
theorem bld38_0_1 (a0 : ByteArray) (a1 : Option Addr) (a1n a1c : Nat) : bldv Try.prog 38 [(0, (.string a0)), (1, (.slice a1 a1n a1c))] = some (.agg #[(.string a0), (.slice a1 a1n a1c), (Go.Value.slice none 0 0), (Go.Value.int Go.IntKind.i64 0)]) := by kernel_rfl
theorem bld40_0 (a0 : ByteArray) : bldv Try.prog 40 [(0, (.string a0))] = some (.agg #[(.string a0), (Go.Value.slice none 0 0)]) := by kernel_rfl
theorem bld40_0_1 (a0 : ByteArray) (a1 : Option Addr) (a1n a1c : Nat) : bldv Try.prog 40 [(0, (.string a0)), (1, (.slice a1 a1n a1c))] = some (.agg #[(.string a0), (.slice a1 a1n a1c)]) := by kernel_rfl
theorem bld43_0_1 (a0 : ByteArray) (a1 : Option Addr) (a1n a1c : Nat) : bldv Try.prog 43 [(0, (.string a0)), (1, (.slice a1 a1n a1c))] = some (.agg #[(.string a0), (.slice a1 a1n a1c)]) := by kernel_rfl
theorem bld47_  : bldv Try.prog 47 [] = some (.agg #[(Go.Value.int Go.IntKind.i64 0), (Go.Value.string { data := #[] }), (Go.Value.slice none 0 0)]) := by kernel_rfl
theorem bld47_0 (a0 : Int) : bldv Try.prog 47 [(0, (.int Go.IntKind.i64 a0))] = some (.agg #[(.int Go.IntKind.i64 a0), (Go.Value.string { data := #[] }), (Go.Value.slice none 0 0)]) := by kernel_rfl
theorem bld47_0_1 (a0 : Int) (a1 : ByteArray) : bldv Try.prog 47 [(0, (.int Go.IntKind.i64 a0)), (1, (.string a1))] = some (.agg #[(.int Go.IntKind.i64 a0), (.string a1), (Go.Value.slice none 0 0)]) := by kernel_rfl
theorem bld53_  : bldv Try.prog 53 [] = some (.agg #[(Go.Value.int Go.IntKind.i64 0), (Go.Value.slice none 0 0)]) := by kernel_rfl
theorem bld53_0 (a0 : Int) : bldv Try.prog 53 [(0, (.int Go.IntKind.i64 a0))] = some (.agg #[(.int Go.IntKind.i64 a0), (Go.Value.slice none 0 0)]) := by kernel_rfl
theorem bld53_0_1 (a0 : Int) (a1 : Option Addr) (a1n a1c : Nat) : bldv Try.prog 53 [(0, (.int Go.IntKind.i64 a0)), (1, (.slice a1 a1n a1c))] = some (.agg #[(.int Go.IntKind.i64 a0), (.slice a1 a1n a1c)]) := by kernel_rfl
theorem bld65_0_1_2 (a0 : ByteArray) (a1 : Bool) (a2 : Option Addr) (a2n a2c : Nat) : bldv Try.prog 65 [(0, (.string a0)), (1, (.bool a1)), (2, (.slice a2 a2n a2c))] = some (.agg #[(.string a0), (.bool a1), (.slice a2 a2n a2c)]) := by kernel_rfl
theorem bld86_0_1 (a0 : ByteArray) (a1 : Bool) : bldv Try.prog 86 [(0, (.string a0)), (1, (.bool a1))] = some (.agg #[(.string a0), (.bool a1), (Go.Value.slice none 0 0)]) := by kernel_rfl
theorem bld89_0_1_2 (a0 : ByteArray) (a1 : Bool) (a2 : Option Addr) (a2n a2c : Nat) : bldv Try.prog 89 [(0, (.string a0)), (1, (.bool a1)), (2, (.slice a2 a2n a2c))] = some (.agg #[(.string a0), (.bool a1), (.slice a2 a2n a2c)]) := by kernel_rfl
theorem mixed : Try.prog.follows .mixedOrders = true := by kernel_rfl
end Go.Proofs.Ytkhmimlgkjenfaa.HL
