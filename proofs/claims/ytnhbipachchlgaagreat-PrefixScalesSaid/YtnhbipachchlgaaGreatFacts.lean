/- Facts: closed facts of the seat's types and functions, each by the kernel. No condition. -/
import Derived.Test.YtnhbipachchlgaaGreatHLm
import Derived.Test.YtnhbipachchlgaaGreatProg
namespace Go.Proofs.YtnhbipachchlgaaGreat.HL
open Go
set_option linter.unusedVariables false
theorem sz0 : szOf Tryz.prog 0 = some 1 := by kernel_rfl
theorem bs0 : bsOf Tryz.prog 0 = some 0 := by kernel_rfl
theorem ze0 : zeroOf Tryz.prog 0 = some (Go.Value.tuple #[]) := by kernel_rfl
theorem sz1 : szOf Tryz.prog 1 = some 1 := by kernel_rfl
theorem bs1 : bsOf Tryz.prog 1 = some 8 := by kernel_rfl
theorem ze1 : zeroOf Tryz.prog 1 = some Go.Value.nilFunc := by kernel_rfl
theorem sz2 : szOf Tryz.prog 2 = some 1 := by kernel_rfl
theorem bs2 : bsOf Tryz.prog 2 = some 8 := by kernel_rfl
theorem ze2 : zeroOf Tryz.prog 2 = some (Go.Value.int Go.IntKind.i64 0) := by kernel_rfl
theorem sz3 : szOf Tryz.prog 3 = some 1 := by kernel_rfl
theorem bs3 : bsOf Tryz.prog 3 = some 8 := by kernel_rfl
theorem ze3 : zeroOf Tryz.prog 3 = some (Go.Value.int Go.IntKind.i64 0) := by kernel_rfl
theorem sz4 : szOf Tryz.prog 4 = some 1 := by kernel_rfl
theorem bs4 : bsOf Tryz.prog 4 = some 1 := by kernel_rfl
theorem ze4 : zeroOf Tryz.prog 4 = some (Go.Value.bool false) := by kernel_rfl
theorem sz5 : szOf Tryz.prog 5 = some 1 := by kernel_rfl
theorem bs5 : bsOf Tryz.prog 5 = some 1 := by kernel_rfl
theorem ze5 : zeroOf Tryz.prog 5 = some (Go.Value.int Go.IntKind.u8 0) := by kernel_rfl
theorem sz6 : szOf Tryz.prog 6 = some 1 := by kernel_rfl
theorem bs6 : bsOf Tryz.prog 6 = some 1 := by kernel_rfl
theorem ze6 : zeroOf Tryz.prog 6 = some (Go.Value.int Go.IntKind.u8 0) := by kernel_rfl
theorem sz7 : szOf Tryz.prog 7 = some 4 := by kernel_rfl
theorem bs7 : bsOf Tryz.prog 7 = some 24 := by kernel_rfl
theorem ze7 : zeroOf Tryz.prog 7 = some (Go.Value.agg #[(Go.Value.int Go.IntKind.i64 0), (Go.Value.int Go.IntKind.i64 0), (Go.Value.bool false), (Go.Value.int Go.IntKind.u8 0)]) := by kernel_rfl
theorem sz8 : szOf Tryz.prog 8 = some 4 := by kernel_rfl
theorem bs8 : bsOf Tryz.prog 8 = some 24 := by kernel_rfl
theorem ze8 : zeroOf Tryz.prog 8 = some (Go.Value.agg #[(Go.Value.int Go.IntKind.i64 0), (Go.Value.int Go.IntKind.i64 0), (Go.Value.bool false), (Go.Value.int Go.IntKind.u8 0)]) := by kernel_rfl
theorem sz9 : szOf Tryz.prog 9 = some 1 := by kernel_rfl
theorem bs9 : bsOf Tryz.prog 9 = some 16 := by kernel_rfl
theorem ze9 : zeroOf Tryz.prog 9 = some (Go.Value.string { data := #[] }) := by kernel_rfl
theorem sz10 : szOf Tryz.prog 10 = some 1 := by kernel_rfl
theorem bs10 : bsOf Tryz.prog 10 = some 16 := by kernel_rfl
theorem ze10 : zeroOf Tryz.prog 10 = some (Go.Value.string { data := #[] }) := by kernel_rfl
theorem sz11 : szOf Tryz.prog 11 = some 1 := by kernel_rfl
theorem bs11 : bsOf Tryz.prog 11 = some 16 := by kernel_rfl
theorem ze11 : zeroOf Tryz.prog 11 = some (Go.Value.string { data := #[] }) := by kernel_rfl
theorem sz12 : szOf Tryz.prog 12 = some 1 := by kernel_rfl
theorem bs12 : bsOf Tryz.prog 12 = some 8 := by kernel_rfl
theorem ze12 : zeroOf Tryz.prog 12 = some (Go.Value.int Go.IntKind.u64 0) := by kernel_rfl
theorem sz13 : szOf Tryz.prog 13 = some 2 := by kernel_rfl
theorem bs13 : bsOf Tryz.prog 13 = some 24 := by kernel_rfl
theorem ze13 : zeroOf Tryz.prog 13 = some (Go.Value.agg #[(Go.Value.string { data := #[] }), (Go.Value.int Go.IntKind.u64 0)]) := by kernel_rfl
theorem sz14 : szOf Tryz.prog 14 = some 2 := by kernel_rfl
theorem bs14 : bsOf Tryz.prog 14 = some 24 := by kernel_rfl
theorem ze14 : zeroOf Tryz.prog 14 = some (Go.Value.agg #[(Go.Value.string { data := #[] }), (Go.Value.int Go.IntKind.u64 0)]) := by kernel_rfl
theorem sz15 : szOf Tryz.prog 15 = some 1 := by kernel_rfl
theorem bs15 : bsOf Tryz.prog 15 = some 8 := by kernel_rfl
theorem ze15 : zeroOf Tryz.prog 15 = some (Go.Value.pointer none) := by kernel_rfl
theorem sz16 : szOf Tryz.prog 16 = some 1 := by kernel_rfl
theorem bs16 : bsOf Tryz.prog 16 = some 8 := by kernel_rfl
theorem ze16 : zeroOf Tryz.prog 16 = some (Go.Value.pointer none) := by kernel_rfl
theorem sz17 : szOf Tryz.prog 17 = some 1 := by kernel_rfl
theorem bs17 : bsOf Tryz.prog 17 = some 8 := by kernel_rfl
theorem ze17 : zeroOf Tryz.prog 17 = some (Go.Value.pointer none) := by kernel_rfl
theorem sz18 : szOf Tryz.prog 18 = some 1 := by kernel_rfl
theorem bs18 : bsOf Tryz.prog 18 = some 8 := by kernel_rfl
theorem ze18 : zeroOf Tryz.prog 18 = some (Go.Value.agg #[(Go.Value.pointer none)]) := by kernel_rfl
theorem sz19 : szOf Tryz.prog 19 = some 1 := by kernel_rfl
theorem bs19 : bsOf Tryz.prog 19 = some 8 := by kernel_rfl
theorem ze19 : zeroOf Tryz.prog 19 = some (Go.Value.agg #[(Go.Value.pointer none)]) := by kernel_rfl
theorem sz20 : szOf Tryz.prog 20 = some 1 := by kernel_rfl
theorem bs20 : bsOf Tryz.prog 20 = some 16 := by kernel_rfl
theorem ze20 : zeroOf Tryz.prog 20 = some Go.Value.nilIface := by kernel_rfl
theorem sz21 : szOf Tryz.prog 21 = some 1 := by kernel_rfl
theorem bs21 : bsOf Tryz.prog 21 = some 4 := by kernel_rfl
theorem ze21 : zeroOf Tryz.prog 21 = some (Go.Value.int Go.IntKind.i32 0) := by kernel_rfl
theorem sz22 : szOf Tryz.prog 22 = some 1 := by kernel_rfl
theorem bs22 : bsOf Tryz.prog 22 = some 24 := by kernel_rfl
theorem ze22 : zeroOf Tryz.prog 22 = some (Go.Value.slice none 0 0) := by kernel_rfl
theorem sz23 : szOf Tryz.prog 23 = some 8 := by kernel_rfl
theorem bs23 : bsOf Tryz.prog 23 = some 64 := by kernel_rfl
theorem ze23 : zeroOf Tryz.prog 23 = some (Go.Value.agg #[(Go.Value.int Go.IntKind.i64 0), (Go.Value.int Go.IntKind.i64 0), (Go.Value.int Go.IntKind.i64 0), (Go.Value.int Go.IntKind.i64 0), (Go.Value.int Go.IntKind.i64 0), (Go.Value.int Go.IntKind.i64 0), (Go.Value.int Go.IntKind.i64 0), (Go.Value.int Go.IntKind.i64 0)]) := by kernel_rfl
theorem sz24 : szOf Tryz.prog 24 = some 8 := by kernel_rfl
theorem bs24 : bsOf Tryz.prog 24 = some 64 := by kernel_rfl
theorem ze24 : zeroOf Tryz.prog 24 = some (Go.Value.agg #[(Go.Value.int Go.IntKind.i64 0), (Go.Value.int Go.IntKind.i64 0), (Go.Value.int Go.IntKind.i64 0), (Go.Value.int Go.IntKind.i64 0), (Go.Value.int Go.IntKind.i64 0), (Go.Value.int Go.IntKind.i64 0), (Go.Value.int Go.IntKind.i64 0), (Go.Value.int Go.IntKind.i64 0)]) := by kernel_rfl
theorem sz25 : szOf Tryz.prog 25 = some 2 := by kernel_rfl
theorem bs25 : bsOf Tryz.prog 25 = some 32 := by kernel_rfl
theorem ze25 : zeroOf Tryz.prog 25 = some (Go.Value.agg #[(Go.Value.string { data := #[] }), (Go.Value.string { data := #[] })]) := by kernel_rfl
theorem sz26 : szOf Tryz.prog 26 = some 2 := by kernel_rfl
theorem bs26 : bsOf Tryz.prog 26 = some 32 := by kernel_rfl
theorem ze26 : zeroOf Tryz.prog 26 = some (Go.Value.agg #[(Go.Value.string { data := #[] }), (Go.Value.string { data := #[] })]) := by kernel_rfl
theorem sz27 : szOf Tryz.prog 27 = some 15 := by kernel_rfl
theorem bs27 : bsOf Tryz.prog 27 = some 168 := by kernel_rfl
theorem ze27 : zeroOf Tryz.prog 27 = some (Go.Value.agg #[(Go.Value.string { data := #[] }), (Go.Value.string { data := #[] }), (Go.Value.int Go.IntKind.i64 0), (Go.Value.int Go.IntKind.i64 0), (Go.Value.int Go.IntKind.i64 0), (Go.Value.int Go.IntKind.i64 0), (Go.Value.int Go.IntKind.i64 0), (Go.Value.int Go.IntKind.i64 0), (Go.Value.int Go.IntKind.i64 0), (Go.Value.int Go.IntKind.i64 0), (Go.Value.string { data := #[] }), (Go.Value.string { data := #[] }), (Go.Value.string { data := #[] }), (Go.Value.string { data := #[] }), (Go.Value.int Go.IntKind.i64 0)]) := by kernel_rfl
theorem sz28 : szOf Tryz.prog 28 = some 15 := by kernel_rfl
theorem bs28 : bsOf Tryz.prog 28 = some 168 := by kernel_rfl
theorem ze28 : zeroOf Tryz.prog 28 = some (Go.Value.agg #[(Go.Value.string { data := #[] }), (Go.Value.string { data := #[] }), (Go.Value.int Go.IntKind.i64 0), (Go.Value.int Go.IntKind.i64 0), (Go.Value.int Go.IntKind.i64 0), (Go.Value.int Go.IntKind.i64 0), (Go.Value.int Go.IntKind.i64 0), (Go.Value.int Go.IntKind.i64 0), (Go.Value.int Go.IntKind.i64 0), (Go.Value.int Go.IntKind.i64 0), (Go.Value.string { data := #[] }), (Go.Value.string { data := #[] }), (Go.Value.string { data := #[] }), (Go.Value.string { data := #[] }), (Go.Value.int Go.IntKind.i64 0)]) := by kernel_rfl
theorem sz29 : szOf Tryz.prog 29 = some 5 := by kernel_rfl
theorem bs29 : bsOf Tryz.prog 29 = some 72 := by kernel_rfl
theorem ze29 : zeroOf Tryz.prog 29 = some (Go.Value.agg #[(Go.Value.string { data := #[] }), (Go.Value.string { data := #[] }), (Go.Value.string { data := #[] }), (Go.Value.string { data := #[] }), (Go.Value.bool false)]) := by kernel_rfl
theorem sz30 : szOf Tryz.prog 30 = some 5 := by kernel_rfl
theorem bs30 : bsOf Tryz.prog 30 = some 72 := by kernel_rfl
theorem ze30 : zeroOf Tryz.prog 30 = some (Go.Value.agg #[(Go.Value.string { data := #[] }), (Go.Value.string { data := #[] }), (Go.Value.string { data := #[] }), (Go.Value.string { data := #[] }), (Go.Value.bool false)]) := by kernel_rfl
theorem sz31 : szOf Tryz.prog 31 = some 1 := by kernel_rfl
theorem bs31 : bsOf Tryz.prog 31 = some 8 := by kernel_rfl
theorem ze31 : zeroOf Tryz.prog 31 = some (Go.Value.int Go.IntKind.i64 0) := by kernel_rfl
theorem sz32 : szOf Tryz.prog 32 = some 1 := by kernel_rfl
theorem bs32 : bsOf Tryz.prog 32 = some 0 := by kernel_rfl
theorem ze32 : zeroOf Tryz.prog 32 = some (Go.Value.tuple #[(Go.Value.agg #[(Go.Value.string { data := #[] }), (Go.Value.string { data := #[] }), (Go.Value.string { data := #[] }), (Go.Value.string { data := #[] }), (Go.Value.bool false)]), (Go.Value.int Go.IntKind.i64 0), (Go.Value.int Go.IntKind.i64 0)]) := by kernel_rfl
theorem sz33 : szOf Tryz.prog 33 = some 1 := by kernel_rfl
theorem bs33 : bsOf Tryz.prog 33 = some 8 := by kernel_rfl
theorem ze33 : zeroOf Tryz.prog 33 = some Go.Value.nilFunc := by kernel_rfl
theorem sz34 : szOf Tryz.prog 34 = some 1 := by kernel_rfl
theorem bs34 : bsOf Tryz.prog 34 = some 8 := by kernel_rfl
theorem ze34 : zeroOf Tryz.prog 34 = some Go.Value.nilFunc := by kernel_rfl
theorem sz35 : szOf Tryz.prog 35 = some 1 := by kernel_rfl
theorem bs35 : bsOf Tryz.prog 35 = some 8 := by kernel_rfl
theorem ze35 : zeroOf Tryz.prog 35 = some Go.Value.nilFunc := by kernel_rfl
theorem sz36 : szOf Tryz.prog 36 = some 1 := by kernel_rfl
theorem bs36 : bsOf Tryz.prog 36 = some 0 := by kernel_rfl
theorem ze36 : zeroOf Tryz.prog 36 = some (Go.Value.tuple #[(Go.Value.agg #[(Go.Value.string { data := #[] }), (Go.Value.string { data := #[] }), (Go.Value.string { data := #[] }), (Go.Value.string { data := #[] }), (Go.Value.bool false)]), (Go.Value.agg #[(Go.Value.string { data := #[] }), (Go.Value.string { data := #[] })]), (Go.Value.int Go.IntKind.i64 0)]) := by kernel_rfl
theorem sz37 : szOf Tryz.prog 37 = some 1 := by kernel_rfl
theorem bs37 : bsOf Tryz.prog 37 = some 8 := by kernel_rfl
theorem ze37 : zeroOf Tryz.prog 37 = some Go.Value.nilFunc := by kernel_rfl
theorem sz38 : szOf Tryz.prog 38 = some 1 := by kernel_rfl
theorem bs38 : bsOf Tryz.prog 38 = some 0 := by kernel_rfl
theorem ze38 : zeroOf Tryz.prog 38 = some (Go.Value.tuple #[(Go.Value.agg #[(Go.Value.string { data := #[] }), (Go.Value.string { data := #[] })]), (Go.Value.int Go.IntKind.i64 0)]) := by kernel_rfl
theorem sz39 : szOf Tryz.prog 39 = some 1 := by kernel_rfl
theorem bs39 : bsOf Tryz.prog 39 = some 8 := by kernel_rfl
theorem ze39 : zeroOf Tryz.prog 39 = some Go.Value.nilFunc := by kernel_rfl
theorem sz40 : szOf Tryz.prog 40 = some 1 := by kernel_rfl
theorem bs40 : bsOf Tryz.prog 40 = some 8 := by kernel_rfl
theorem ze40 : zeroOf Tryz.prog 40 = some Go.Value.nilFunc := by kernel_rfl
theorem sz41 : szOf Tryz.prog 41 = some 1 := by kernel_rfl
theorem bs41 : bsOf Tryz.prog 41 = some 24 := by kernel_rfl
theorem ze41 : zeroOf Tryz.prog 41 = some (Go.Value.slice none 0 0) := by kernel_rfl
theorem sz42 : szOf Tryz.prog 42 = some 1 := by kernel_rfl
theorem bs42 : bsOf Tryz.prog 42 = some 8 := by kernel_rfl
theorem ze42 : zeroOf Tryz.prog 42 = some Go.Value.nilFunc := by kernel_rfl
theorem sz43 : szOf Tryz.prog 43 = some 1 := by kernel_rfl
theorem bs43 : bsOf Tryz.prog 43 = some 24 := by kernel_rfl
theorem ze43 : zeroOf Tryz.prog 43 = some (Go.Value.slice none 0 0) := by kernel_rfl
theorem sz44 : szOf Tryz.prog 44 = some 1 := by kernel_rfl
theorem bs44 : bsOf Tryz.prog 44 = some 8 := by kernel_rfl
theorem ze44 : zeroOf Tryz.prog 44 = some Go.Value.nilFunc := by kernel_rfl
theorem sz45 : szOf Tryz.prog 45 = some 1 := by kernel_rfl
theorem bs45 : bsOf Tryz.prog 45 = some 8 := by kernel_rfl
theorem ze45 : zeroOf Tryz.prog 45 = some Go.Value.nilFunc := by kernel_rfl
theorem sz46 : szOf Tryz.prog 46 = some 1 := by kernel_rfl
theorem bs46 : bsOf Tryz.prog 46 = some 8 := by kernel_rfl
theorem ze46 : zeroOf Tryz.prog 46 = some Go.Value.nilFunc := by kernel_rfl
theorem sz47 : szOf Tryz.prog 47 = some 2 := by kernel_rfl
theorem bs47 : bsOf Tryz.prog 47 = some 16 := by kernel_rfl
theorem ze47 : zeroOf Tryz.prog 47 = some (Go.Value.agg #[Go.Value.nilFunc, Go.Value.nilFunc]) := by kernel_rfl
theorem sz48 : szOf Tryz.prog 48 = some 2 := by kernel_rfl
theorem bs48 : bsOf Tryz.prog 48 = some 16 := by kernel_rfl
theorem ze48 : zeroOf Tryz.prog 48 = some (Go.Value.agg #[Go.Value.nilFunc, Go.Value.nilFunc]) := by kernel_rfl
theorem sz49 : szOf Tryz.prog 49 = some 1 := by kernel_rfl
theorem bs49 : bsOf Tryz.prog 49 = some 0 := by kernel_rfl
theorem ze49 : zeroOf Tryz.prog 49 = some (Go.Value.tuple #[(Go.Value.agg #[(Go.Value.string { data := #[] }), (Go.Value.string { data := #[] }), (Go.Value.string { data := #[] }), (Go.Value.string { data := #[] }), (Go.Value.bool false)]), (Go.Value.bool false)]) := by kernel_rfl
theorem sz50 : szOf Tryz.prog 50 = some 1 := by kernel_rfl
theorem bs50 : bsOf Tryz.prog 50 = some 8 := by kernel_rfl
theorem ze50 : zeroOf Tryz.prog 50 = some Go.Value.nilFunc := by kernel_rfl
theorem sz51 : szOf Tryz.prog 51 = some 1 := by kernel_rfl
theorem bs51 : bsOf Tryz.prog 51 = some 8 := by kernel_rfl
theorem ze51 : zeroOf Tryz.prog 51 = some Go.Value.nilFunc := by kernel_rfl
theorem sz52 : szOf Tryz.prog 52 = some 1 := by kernel_rfl
theorem bs52 : bsOf Tryz.prog 52 = some 8 := by kernel_rfl
theorem ze52 : zeroOf Tryz.prog 52 = some Go.Value.nilFunc := by kernel_rfl
theorem sz53 : szOf Tryz.prog 53 = some 1 := by kernel_rfl
theorem bs53 : bsOf Tryz.prog 53 = some 8 := by kernel_rfl
theorem ze53 : zeroOf Tryz.prog 53 = some Go.Value.nilFunc := by kernel_rfl
theorem sz54 : szOf Tryz.prog 54 = some 1 := by kernel_rfl
theorem bs54 : bsOf Tryz.prog 54 = some 8 := by kernel_rfl
theorem ze54 : zeroOf Tryz.prog 54 = some Go.Value.nilFunc := by kernel_rfl
theorem sz55 : szOf Tryz.prog 55 = some 1 := by kernel_rfl
theorem bs55 : bsOf Tryz.prog 55 = some 8 := by kernel_rfl
theorem ze55 : zeroOf Tryz.prog 55 = some Go.Value.nilFunc := by kernel_rfl
theorem sz56 : szOf Tryz.prog 56 = some 1 := by kernel_rfl
theorem bs56 : bsOf Tryz.prog 56 = some 8 := by kernel_rfl
theorem ze56 : zeroOf Tryz.prog 56 = some Go.Value.nilFunc := by kernel_rfl
theorem sz57 : szOf Tryz.prog 57 = some 1 := by kernel_rfl
theorem bs57 : bsOf Tryz.prog 57 = some 8 := by kernel_rfl
theorem ze57 : zeroOf Tryz.prog 57 = some Go.Value.nilFunc := by kernel_rfl
theorem sz58 : szOf Tryz.prog 58 = some 1 := by kernel_rfl
theorem bs58 : bsOf Tryz.prog 58 = some 8 := by kernel_rfl
theorem ze58 : zeroOf Tryz.prog 58 = some Go.Value.nilFunc := by kernel_rfl
theorem sz59 : szOf Tryz.prog 59 = some 1 := by kernel_rfl
theorem bs59 : bsOf Tryz.prog 59 = some 8 := by kernel_rfl
theorem ze59 : zeroOf Tryz.prog 59 = some (Go.Value.pointer none) := by kernel_rfl
theorem sz60 : szOf Tryz.prog 60 = some 1 := by kernel_rfl
theorem bs60 : bsOf Tryz.prog 60 = some 8 := by kernel_rfl
theorem ze60 : zeroOf Tryz.prog 60 = some Go.Value.nilFunc := by kernel_rfl
theorem sz61 : szOf Tryz.prog 61 = some 1 := by kernel_rfl
theorem bs61 : bsOf Tryz.prog 61 = some 8 := by kernel_rfl
theorem ze61 : zeroOf Tryz.prog 61 = some Go.Value.nilFunc := by kernel_rfl
theorem sz62 : szOf Tryz.prog 62 = some 1 := by kernel_rfl
theorem bs62 : bsOf Tryz.prog 62 = some 0 := by kernel_rfl
theorem ze62 : zeroOf Tryz.prog 62 = some (Go.Value.tuple #[(Go.Value.string { data := #[] }), (Go.Value.string { data := #[] }), (Go.Value.bool false), (Go.Value.bool false)]) := by kernel_rfl
theorem sz63 : szOf Tryz.prog 63 = some 1 := by kernel_rfl
theorem bs63 : bsOf Tryz.prog 63 = some 8 := by kernel_rfl
theorem ze63 : zeroOf Tryz.prog 63 = some Go.Value.nilFunc := by kernel_rfl
theorem sz64 : szOf Tryz.prog 64 = some 1 := by kernel_rfl
theorem bs64 : bsOf Tryz.prog 64 = some 8 := by kernel_rfl
theorem ze64 : zeroOf Tryz.prog 64 = some Go.Value.nilFunc := by kernel_rfl
theorem sz65 : szOf Tryz.prog 65 = some 3 := by kernel_rfl
theorem bs65 : bsOf Tryz.prog 65 = some 40 := by kernel_rfl
theorem ze65 : zeroOf Tryz.prog 65 = some (Go.Value.agg #[(Go.Value.string { data := #[] }), (Go.Value.string { data := #[] }), (Go.Value.int Go.IntKind.i64 0)]) := by kernel_rfl
theorem sz66 : szOf Tryz.prog 66 = some 3 := by kernel_rfl
theorem bs66 : bsOf Tryz.prog 66 = some 40 := by kernel_rfl
theorem ze66 : zeroOf Tryz.prog 66 = some (Go.Value.agg #[(Go.Value.string { data := #[] }), (Go.Value.string { data := #[] }), (Go.Value.int Go.IntKind.i64 0)]) := by kernel_rfl
theorem sz67 : szOf Tryz.prog 67 = some 1 := by kernel_rfl
theorem bs67 : bsOf Tryz.prog 67 = some 24 := by kernel_rfl
theorem ze67 : zeroOf Tryz.prog 67 = some (Go.Value.slice none 0 0) := by kernel_rfl
theorem sz68 : szOf Tryz.prog 68 = some 1 := by kernel_rfl
theorem bs68 : bsOf Tryz.prog 68 = some 8 := by kernel_rfl
theorem ze68 : zeroOf Tryz.prog 68 = some Go.Value.nilFunc := by kernel_rfl
theorem sz69 : szOf Tryz.prog 69 = some 1 := by kernel_rfl
theorem bs69 : bsOf Tryz.prog 69 = some 8 := by kernel_rfl
theorem ze69 : zeroOf Tryz.prog 69 = some Go.Value.nilFunc := by kernel_rfl
theorem sz70 : szOf Tryz.prog 70 = some 1 := by kernel_rfl
theorem bs70 : bsOf Tryz.prog 70 = some 8 := by kernel_rfl
theorem ze70 : zeroOf Tryz.prog 70 = some Go.Value.nilFunc := by kernel_rfl
theorem sz71 : szOf Tryz.prog 71 = some 4 := by kernel_rfl
theorem bs71 : bsOf Tryz.prog 71 = some 48 := by kernel_rfl
theorem ze71 : zeroOf Tryz.prog 71 = some (Go.Value.agg #[(Go.Value.string { data := #[] }), (Go.Value.string { data := #[] }), (Go.Value.int Go.IntKind.i64 0), (Go.Value.bool false)]) := by kernel_rfl
theorem sz72 : szOf Tryz.prog 72 = some 4 := by kernel_rfl
theorem bs72 : bsOf Tryz.prog 72 = some 48 := by kernel_rfl
theorem ze72 : zeroOf Tryz.prog 72 = some (Go.Value.agg #[(Go.Value.string { data := #[] }), (Go.Value.string { data := #[] }), (Go.Value.int Go.IntKind.i64 0), (Go.Value.bool false)]) := by kernel_rfl
theorem sz73 : szOf Tryz.prog 73 = some 1 := by kernel_rfl
theorem bs73 : bsOf Tryz.prog 73 = some 24 := by kernel_rfl
theorem ze73 : zeroOf Tryz.prog 73 = some (Go.Value.slice none 0 0) := by kernel_rfl
theorem sz74 : szOf Tryz.prog 74 = some 1 := by kernel_rfl
theorem bs74 : bsOf Tryz.prog 74 = some 8 := by kernel_rfl
theorem ze74 : zeroOf Tryz.prog 74 = some Go.Value.nilFunc := by kernel_rfl
theorem sz75 : szOf Tryz.prog 75 = some 1 := by kernel_rfl
theorem bs75 : bsOf Tryz.prog 75 = some 8 := by kernel_rfl
theorem ze75 : zeroOf Tryz.prog 75 = some Go.Value.nilFunc := by kernel_rfl
theorem sz76 : szOf Tryz.prog 76 = some 1 := by kernel_rfl
theorem bs76 : bsOf Tryz.prog 76 = some 8 := by kernel_rfl
theorem ze76 : zeroOf Tryz.prog 76 = some Go.Value.nilFunc := by kernel_rfl
theorem sz77 : szOf Tryz.prog 77 = some 1 := by kernel_rfl
theorem bs77 : bsOf Tryz.prog 77 = some 8 := by kernel_rfl
theorem ze77 : zeroOf Tryz.prog 77 = some Go.Value.nilFunc := by kernel_rfl
theorem sz78 : szOf Tryz.prog 78 = some 1 := by kernel_rfl
theorem bs78 : bsOf Tryz.prog 78 = some 8 := by kernel_rfl
theorem ze78 : zeroOf Tryz.prog 78 = some (Go.Value.pointer none) := by kernel_rfl
theorem sz79 : szOf Tryz.prog 79 = some 1 := by kernel_rfl
theorem bs79 : bsOf Tryz.prog 79 = some 8 := by kernel_rfl
theorem ze79 : zeroOf Tryz.prog 79 = some Go.Value.nilFunc := by kernel_rfl
theorem sz80 : szOf Tryz.prog 80 = some 1 := by kernel_rfl
theorem bs80 : bsOf Tryz.prog 80 = some 8 := by kernel_rfl
theorem ze80 : zeroOf Tryz.prog 80 = some Go.Value.nilFunc := by kernel_rfl
theorem sz81 : szOf Tryz.prog 81 = some 1 := by kernel_rfl
theorem bs81 : bsOf Tryz.prog 81 = some 8 := by kernel_rfl
theorem ze81 : zeroOf Tryz.prog 81 = some Go.Value.nilFunc := by kernel_rfl
theorem sz82 : szOf Tryz.prog 82 = some 1 := by kernel_rfl
theorem bs82 : bsOf Tryz.prog 82 = some 0 := by kernel_rfl
theorem ze82 : zeroOf Tryz.prog 82 = some (Go.Value.tuple #[(Go.Value.int Go.IntKind.i64 0), (Go.Value.int Go.IntKind.i64 0)]) := by kernel_rfl
theorem sz83 : szOf Tryz.prog 83 = some 1 := by kernel_rfl
theorem bs83 : bsOf Tryz.prog 83 = some 8 := by kernel_rfl
theorem ze83 : zeroOf Tryz.prog 83 = some Go.Value.nilFunc := by kernel_rfl
theorem sz84 : szOf Tryz.prog 84 = some 1 := by kernel_rfl
theorem bs84 : bsOf Tryz.prog 84 = some 24 := by kernel_rfl
theorem ze84 : zeroOf Tryz.prog 84 = some (Go.Value.slice none 0 0) := by kernel_rfl
theorem sz85 : szOf Tryz.prog 85 = some 1 := by kernel_rfl
theorem bs85 : bsOf Tryz.prog 85 = some 8 := by kernel_rfl
theorem ze85 : zeroOf Tryz.prog 85 = some Go.Value.nilFunc := by kernel_rfl
theorem sz86 : szOf Tryz.prog 86 = some 1 := by kernel_rfl
theorem bs86 : bsOf Tryz.prog 86 = some 24 := by kernel_rfl
theorem ze86 : zeroOf Tryz.prog 86 = some (Go.Value.slice none 0 0) := by kernel_rfl
theorem sz87 : szOf Tryz.prog 87 = some 2 := by kernel_rfl
theorem bs87 : bsOf Tryz.prog 87 = some 32 := by kernel_rfl
theorem ze87 : zeroOf Tryz.prog 87 = some (Go.Value.agg #[(Go.Value.bool false), (Go.Value.slice none 0 0)]) := by kernel_rfl
theorem sz88 : szOf Tryz.prog 88 = some 2 := by kernel_rfl
theorem bs88 : bsOf Tryz.prog 88 = some 32 := by kernel_rfl
theorem ze88 : zeroOf Tryz.prog 88 = some (Go.Value.agg #[(Go.Value.bool false), (Go.Value.slice none 0 0)]) := by kernel_rfl
theorem sz89 : szOf Tryz.prog 89 = some 4 := by kernel_rfl
theorem bs89 : bsOf Tryz.prog 89 = some 64 := by kernel_rfl
theorem ze89 : zeroOf Tryz.prog 89 = some (Go.Value.agg #[(Go.Value.bool false), (Go.Value.slice none 0 0), (Go.Value.bool false), (Go.Value.slice none 0 0)]) := by kernel_rfl
theorem sz90 : szOf Tryz.prog 90 = some 4 := by kernel_rfl
theorem bs90 : bsOf Tryz.prog 90 = some 64 := by kernel_rfl
theorem ze90 : zeroOf Tryz.prog 90 = some (Go.Value.agg #[(Go.Value.bool false), (Go.Value.slice none 0 0), (Go.Value.bool false), (Go.Value.slice none 0 0)]) := by kernel_rfl
theorem sz91 : szOf Tryz.prog 91 = some 1 := by kernel_rfl
theorem bs91 : bsOf Tryz.prog 91 = some 8 := by kernel_rfl
theorem ze91 : zeroOf Tryz.prog 91 = some Go.Value.nilFunc := by kernel_rfl
theorem sz92 : szOf Tryz.prog 92 = some 1 := by kernel_rfl
theorem bs92 : bsOf Tryz.prog 92 = some 8 := by kernel_rfl
theorem ze92 : zeroOf Tryz.prog 92 = some Go.Value.nilFunc := by kernel_rfl
theorem sz93 : szOf Tryz.prog 93 = some 1 := by kernel_rfl
theorem bs93 : bsOf Tryz.prog 93 = some 8 := by kernel_rfl
theorem ze93 : zeroOf Tryz.prog 93 = some Go.Value.nilFunc := by kernel_rfl
theorem sz94 : szOf Tryz.prog 94 = some 1 := by kernel_rfl
theorem bs94 : bsOf Tryz.prog 94 = some 8 := by kernel_rfl
theorem ze94 : zeroOf Tryz.prog 94 = some Go.Value.nilFunc := by kernel_rfl
theorem sz95 : szOf Tryz.prog 95 = some 1 := by kernel_rfl
theorem bs95 : bsOf Tryz.prog 95 = some 8 := by kernel_rfl
theorem ze95 : zeroOf Tryz.prog 95 = some (Go.Value.float Go.FloatKind.f64 0) := by kernel_rfl
theorem sz96 : szOf Tryz.prog 96 = some 1 := by kernel_rfl
theorem bs96 : bsOf Tryz.prog 96 = some 0 := by kernel_rfl
theorem ze96 : zeroOf Tryz.prog 96 = some (Go.Value.tuple #[(Go.Value.float Go.FloatKind.f64 0), (Go.Value.int Go.IntKind.i64 0)]) := by kernel_rfl
theorem sz97 : szOf Tryz.prog 97 = some 1 := by kernel_rfl
theorem bs97 : bsOf Tryz.prog 97 = some 8 := by kernel_rfl
theorem ze97 : zeroOf Tryz.prog 97 = some Go.Value.nilFunc := by kernel_rfl
theorem sz98 : szOf Tryz.prog 98 = some 1 := by kernel_rfl
theorem bs98 : bsOf Tryz.prog 98 = some 8 := by kernel_rfl
theorem ze98 : zeroOf Tryz.prog 98 = some Go.Value.nilFunc := by kernel_rfl
theorem sz99 : szOf Tryz.prog 99 = some 1 := by kernel_rfl
theorem bs99 : bsOf Tryz.prog 99 = some 8 := by kernel_rfl
theorem ze99 : zeroOf Tryz.prog 99 = some Go.Value.nilFunc := by kernel_rfl
theorem sz100 : szOf Tryz.prog 100 = some 1 := by kernel_rfl
theorem bs100 : bsOf Tryz.prog 100 = some 0 := by kernel_rfl
theorem ze100 : zeroOf Tryz.prog 100 = some (Go.Value.tuple #[(Go.Value.string { data := #[] }), (Go.Value.string { data := #[] })]) := by kernel_rfl
theorem sz101 : szOf Tryz.prog 101 = some 1 := by kernel_rfl
theorem bs101 : bsOf Tryz.prog 101 = some 8 := by kernel_rfl
theorem ze101 : zeroOf Tryz.prog 101 = some Go.Value.nilFunc := by kernel_rfl
theorem sz102 : szOf Tryz.prog 102 = some 1 := by kernel_rfl
theorem bs102 : bsOf Tryz.prog 102 = some 8 := by kernel_rfl
theorem ze102 : zeroOf Tryz.prog 102 = some Go.Value.nilFunc := by kernel_rfl
theorem sz103 : szOf Tryz.prog 103 = some 1 := by kernel_rfl
theorem bs103 : bsOf Tryz.prog 103 = some 8 := by kernel_rfl
theorem ze103 : zeroOf Tryz.prog 103 = some Go.Value.nilFunc := by kernel_rfl
theorem sz104 : szOf Tryz.prog 104 = some 1 := by kernel_rfl
theorem bs104 : bsOf Tryz.prog 104 = some 8 := by kernel_rfl
theorem ze104 : zeroOf Tryz.prog 104 = some Go.Value.nilFunc := by kernel_rfl
theorem sz105 : szOf Tryz.prog 105 = some 1 := by kernel_rfl
theorem bs105 : bsOf Tryz.prog 105 = some 8 := by kernel_rfl
theorem ze105 : zeroOf Tryz.prog 105 = some Go.Value.nilFunc := by kernel_rfl
theorem sz106 : szOf Tryz.prog 106 = some 1 := by kernel_rfl
theorem bs106 : bsOf Tryz.prog 106 = some 16 := by kernel_rfl
theorem ze106 : zeroOf Tryz.prog 106 = some (Go.Value.agg #[(Go.Value.string { data := #[] })]) := by kernel_rfl
theorem sz107 : szOf Tryz.prog 107 = some 1 := by kernel_rfl
theorem bs107 : bsOf Tryz.prog 107 = some 16 := by kernel_rfl
theorem ze107 : zeroOf Tryz.prog 107 = some (Go.Value.agg #[(Go.Value.string { data := #[] })]) := by kernel_rfl
theorem sz108 : szOf Tryz.prog 108 = some 1 := by kernel_rfl
theorem bs108 : bsOf Tryz.prog 108 = some 0 := by kernel_rfl
theorem ze108 : zeroOf Tryz.prog 108 = some (Go.Value.tuple #[(Go.Value.agg #[(Go.Value.string { data := #[] })]), (Go.Value.bool false)]) := by kernel_rfl
theorem sz109 : szOf Tryz.prog 109 = some 1 := by kernel_rfl
theorem bs109 : bsOf Tryz.prog 109 = some 8 := by kernel_rfl
theorem ze109 : zeroOf Tryz.prog 109 = some (Go.Value.map none) := by kernel_rfl
theorem sz110 : szOf Tryz.prog 110 = some 1 := by kernel_rfl
theorem bs110 : bsOf Tryz.prog 110 = some 8 := by kernel_rfl
theorem ze110 : zeroOf Tryz.prog 110 = some Go.Value.nilFunc := by kernel_rfl
theorem sz111 : szOf Tryz.prog 111 = some 1 := by kernel_rfl
theorem bs111 : bsOf Tryz.prog 111 = some 8 := by kernel_rfl
theorem ze111 : zeroOf Tryz.prog 111 = some Go.Value.nilFunc := by kernel_rfl
theorem sz112 : szOf Tryz.prog 112 = some 1 := by kernel_rfl
theorem bs112 : bsOf Tryz.prog 112 = some 8 := by kernel_rfl
theorem ze112 : zeroOf Tryz.prog 112 = some Go.Value.nilFunc := by kernel_rfl
theorem sz113 : szOf Tryz.prog 113 = some 1 := by kernel_rfl
theorem bs113 : bsOf Tryz.prog 113 = some 8 := by kernel_rfl
theorem ze113 : zeroOf Tryz.prog 113 = some Go.Value.nilFunc := by kernel_rfl
theorem sz114 : szOf Tryz.prog 114 = some 1 := by kernel_rfl
theorem bs114 : bsOf Tryz.prog 114 = some 8 := by kernel_rfl
theorem ze114 : zeroOf Tryz.prog 114 = some Go.Value.nilFunc := by kernel_rfl
theorem sz115 : szOf Tryz.prog 115 = some 1 := by kernel_rfl
theorem bs115 : bsOf Tryz.prog 115 = some 24 := by kernel_rfl
theorem ze115 : zeroOf Tryz.prog 115 = some (Go.Value.slice none 0 0) := by kernel_rfl
theorem sz116 : szOf Tryz.prog 116 = some 1 := by kernel_rfl
theorem bs116 : bsOf Tryz.prog 116 = some 4 := by kernel_rfl
theorem ze116 : zeroOf Tryz.prog 116 = some (Go.Value.int Go.IntKind.u32 0) := by kernel_rfl
theorem sz117 : szOf Tryz.prog 117 = some 1 := by kernel_rfl
theorem bs117 : bsOf Tryz.prog 117 = some 0 := by kernel_rfl
theorem ze117 : zeroOf Tryz.prog 117 = some (Go.Value.tuple #[(Go.Value.slice none 0 0), (Go.Value.int Go.IntKind.u32 0)]) := by kernel_rfl
theorem sz118 : szOf Tryz.prog 118 = some 1 := by kernel_rfl
theorem bs118 : bsOf Tryz.prog 118 = some 8 := by kernel_rfl
theorem ze118 : zeroOf Tryz.prog 118 = some Go.Value.nilFunc := by kernel_rfl
theorem sz119 : szOf Tryz.prog 119 = some 1 := by kernel_rfl
theorem bs119 : bsOf Tryz.prog 119 = some 8 := by kernel_rfl
theorem ze119 : zeroOf Tryz.prog 119 = some Go.Value.nilFunc := by kernel_rfl
theorem sz120 : szOf Tryz.prog 120 = some 1 := by kernel_rfl
theorem bs120 : bsOf Tryz.prog 120 = some 8 := by kernel_rfl
theorem ze120 : zeroOf Tryz.prog 120 = some Go.Value.nilFunc := by kernel_rfl
theorem sz121 : szOf Tryz.prog 121 = some 1 := by kernel_rfl
theorem bs121 : bsOf Tryz.prog 121 = some 8 := by kernel_rfl
theorem ze121 : zeroOf Tryz.prog 121 = some Go.Value.nilFunc := by kernel_rfl
theorem sz122 : szOf Tryz.prog 122 = some 1 := by kernel_rfl
theorem bs122 : bsOf Tryz.prog 122 = some 8 := by kernel_rfl
theorem ze122 : zeroOf Tryz.prog 122 = some Go.Value.nilFunc := by kernel_rfl
theorem sz123 : szOf Tryz.prog 123 = some 1 := by kernel_rfl
theorem bs123 : bsOf Tryz.prog 123 = some 24 := by kernel_rfl
theorem ze123 : zeroOf Tryz.prog 123 = some (Go.Value.slice none 0 0) := by kernel_rfl
theorem sz124 : szOf Tryz.prog 124 = some 1 := by kernel_rfl
theorem bs124 : bsOf Tryz.prog 124 = some 8 := by kernel_rfl
theorem ze124 : zeroOf Tryz.prog 124 = some Go.Value.nilFunc := by kernel_rfl
theorem sz125 : szOf Tryz.prog 125 = some 1 := by kernel_rfl
theorem bs125 : bsOf Tryz.prog 125 = some 8 := by kernel_rfl
theorem ze125 : zeroOf Tryz.prog 125 = some (Go.Value.int Go.IntKind.u64 0) := by kernel_rfl
theorem sz126 : szOf Tryz.prog 126 = some 1 := by kernel_rfl
theorem bs126 : bsOf Tryz.prog 126 = some 8 := by kernel_rfl
theorem ze126 : zeroOf Tryz.prog 126 = some (Go.Value.int Go.IntKind.u64 0) := by kernel_rfl
theorem sz127 : szOf Tryz.prog 127 = some 3 := by kernel_rfl
theorem bs127 : bsOf Tryz.prog 127 = some 40 := by kernel_rfl
theorem ze127 : zeroOf Tryz.prog 127 = some (Go.Value.agg #[(Go.Value.bool false), (Go.Value.string { data := #[] }), (Go.Value.string { data := #[] })]) := by kernel_rfl
theorem sz128 : szOf Tryz.prog 128 = some 3 := by kernel_rfl
theorem bs128 : bsOf Tryz.prog 128 = some 40 := by kernel_rfl
theorem ze128 : zeroOf Tryz.prog 128 = some (Go.Value.agg #[(Go.Value.bool false), (Go.Value.string { data := #[] }), (Go.Value.string { data := #[] })]) := by kernel_rfl
theorem sz129 : szOf Tryz.prog 129 = some 1 := by kernel_rfl
theorem bs129 : bsOf Tryz.prog 129 = some 0 := by kernel_rfl
theorem ze129 : zeroOf Tryz.prog 129 = some (Go.Value.tuple #[(Go.Value.agg #[(Go.Value.bool false), (Go.Value.string { data := #[] }), (Go.Value.string { data := #[] })]), (Go.Value.bool false)]) := by kernel_rfl
theorem sz130 : szOf Tryz.prog 130 = some 1 := by kernel_rfl
theorem bs130 : bsOf Tryz.prog 130 = some 8 := by kernel_rfl
theorem ze130 : zeroOf Tryz.prog 130 = some Go.Value.nilFunc := by kernel_rfl
theorem sz131 : szOf Tryz.prog 131 = some 1 := by kernel_rfl
theorem bs131 : bsOf Tryz.prog 131 = some 0 := by kernel_rfl
theorem ze131 : zeroOf Tryz.prog 131 = some (Go.Value.tuple #[(Go.Value.int Go.IntKind.u64 0), (Go.Value.bool false)]) := by kernel_rfl
theorem sz132 : szOf Tryz.prog 132 = some 1 := by kernel_rfl
theorem bs132 : bsOf Tryz.prog 132 = some 8 := by kernel_rfl
theorem ze132 : zeroOf Tryz.prog 132 = some Go.Value.nilFunc := by kernel_rfl
theorem sz133 : szOf Tryz.prog 133 = some 1 := by kernel_rfl
theorem bs133 : bsOf Tryz.prog 133 = some 8 := by kernel_rfl
theorem ze133 : zeroOf Tryz.prog 133 = some Go.Value.nilFunc := by kernel_rfl
theorem sz134 : szOf Tryz.prog 134 = some 1 := by kernel_rfl
theorem bs134 : bsOf Tryz.prog 134 = some 8 := by kernel_rfl
theorem ze134 : zeroOf Tryz.prog 134 = some Go.Value.nilFunc := by kernel_rfl
theorem sz135 : szOf Tryz.prog 135 = some 1 := by kernel_rfl
theorem bs135 : bsOf Tryz.prog 135 = some 24 := by kernel_rfl
theorem ze135 : zeroOf Tryz.prog 135 = some (Go.Value.slice none 0 0) := by kernel_rfl
theorem sz136 : szOf Tryz.prog 136 = some 1 := by kernel_rfl
theorem bs136 : bsOf Tryz.prog 136 = some 8 := by kernel_rfl
theorem ze136 : zeroOf Tryz.prog 136 = some Go.Value.nilFunc := by kernel_rfl
theorem sz137 : szOf Tryz.prog 137 = some 1 := by kernel_rfl
theorem bs137 : bsOf Tryz.prog 137 = some 8 := by kernel_rfl
theorem ze137 : zeroOf Tryz.prog 137 = some Go.Value.nilFunc := by kernel_rfl
theorem sz138 : szOf Tryz.prog 138 = some 1 := by kernel_rfl
theorem bs138 : bsOf Tryz.prog 138 = some 8 := by kernel_rfl
theorem ze138 : zeroOf Tryz.prog 138 = some Go.Value.nilFunc := by kernel_rfl
theorem sz139 : szOf Tryz.prog 139 = some 1 := by kernel_rfl
theorem bs139 : bsOf Tryz.prog 139 = some 8 := by kernel_rfl
theorem ze139 : zeroOf Tryz.prog 139 = some Go.Value.nilFunc := by kernel_rfl
theorem sz140 : szOf Tryz.prog 140 = some 1 := by kernel_rfl
theorem bs140 : bsOf Tryz.prog 140 = some 8 := by kernel_rfl
theorem ze140 : zeroOf Tryz.prog 140 = some Go.Value.nilFunc := by kernel_rfl
theorem sz141 : szOf Tryz.prog 141 = some 1 := by kernel_rfl
theorem bs141 : bsOf Tryz.prog 141 = some 8 := by kernel_rfl
theorem ze141 : zeroOf Tryz.prog 141 = some Go.Value.nilFunc := by kernel_rfl
theorem sz142 : szOf Tryz.prog 142 = some 1 := by kernel_rfl
theorem bs142 : bsOf Tryz.prog 142 = some 8 := by kernel_rfl
theorem ze142 : zeroOf Tryz.prog 142 = some Go.Value.nilFunc := by kernel_rfl
theorem sz143 : szOf Tryz.prog 143 = some 1 := by kernel_rfl
theorem bs143 : bsOf Tryz.prog 143 = some 8 := by kernel_rfl
theorem ze143 : zeroOf Tryz.prog 143 = some Go.Value.nilFunc := by kernel_rfl
theorem sz144 : szOf Tryz.prog 144 = some 1 := by kernel_rfl
theorem bs144 : bsOf Tryz.prog 144 = some 0 := by kernel_rfl
theorem ze144 : zeroOf Tryz.prog 144 = some (Go.Value.tuple #[(Go.Value.string { data := #[] }), (Go.Value.bool false)]) := by kernel_rfl
theorem sz145 : szOf Tryz.prog 145 = some 1 := by kernel_rfl
theorem bs145 : bsOf Tryz.prog 145 = some 8 := by kernel_rfl
theorem ze145 : zeroOf Tryz.prog 145 = some Go.Value.nilFunc := by kernel_rfl
theorem sz146 : szOf Tryz.prog 146 = some 1 := by kernel_rfl
theorem bs146 : bsOf Tryz.prog 146 = some 8 := by kernel_rfl
theorem ze146 : zeroOf Tryz.prog 146 = some Go.Value.nilFunc := by kernel_rfl
theorem sz147 : szOf Tryz.prog 147 = some 1 := by kernel_rfl
theorem bs147 : bsOf Tryz.prog 147 = some 0 := by kernel_rfl
theorem ze147 : zeroOf Tryz.prog 147 = some (Go.Value.tuple #[(Go.Value.pointer none), (Go.Value.bool false)]) := by kernel_rfl
theorem sz148 : szOf Tryz.prog 148 = some 1 := by kernel_rfl
theorem bs148 : bsOf Tryz.prog 148 = some 8 := by kernel_rfl
theorem ze148 : zeroOf Tryz.prog 148 = some Go.Value.nilFunc := by kernel_rfl
theorem sz149 : szOf Tryz.prog 149 = some 1 := by kernel_rfl
theorem bs149 : bsOf Tryz.prog 149 = some 0 := by kernel_rfl
theorem ze149 : zeroOf Tryz.prog 149 = some (Go.Value.tuple #[(Go.Value.slice none 0 0), (Go.Value.slice none 0 0)]) := by kernel_rfl
theorem sz150 : szOf Tryz.prog 150 = some 1 := by kernel_rfl
theorem bs150 : bsOf Tryz.prog 150 = some 8 := by kernel_rfl
theorem ze150 : zeroOf Tryz.prog 150 = some Go.Value.nilFunc := by kernel_rfl
theorem sz151 : szOf Tryz.prog 151 = some 1 := by kernel_rfl
theorem bs151 : bsOf Tryz.prog 151 = some 8 := by kernel_rfl
theorem ze151 : zeroOf Tryz.prog 151 = some Go.Value.nilFunc := by kernel_rfl
theorem sz152 : szOf Tryz.prog 152 = some 1 := by kernel_rfl
theorem bs152 : bsOf Tryz.prog 152 = some 8 := by kernel_rfl
theorem ze152 : zeroOf Tryz.prog 152 = some Go.Value.nilFunc := by kernel_rfl
theorem sz153 : szOf Tryz.prog 153 = some 1 := by kernel_rfl
theorem bs153 : bsOf Tryz.prog 153 = some 8 := by kernel_rfl
theorem ze153 : zeroOf Tryz.prog 153 = some Go.Value.nilFunc := by kernel_rfl
theorem sz154 : szOf Tryz.prog 154 = some 1 := by kernel_rfl
theorem bs154 : bsOf Tryz.prog 154 = some 8 := by kernel_rfl
theorem ze154 : zeroOf Tryz.prog 154 = some Go.Value.nilFunc := by kernel_rfl
theorem sz155 : szOf Tryz.prog 155 = some 1 := by kernel_rfl
theorem bs155 : bsOf Tryz.prog 155 = some 8 := by kernel_rfl
theorem ze155 : zeroOf Tryz.prog 155 = some Go.Value.nilFunc := by kernel_rfl
theorem sz156 : szOf Tryz.prog 156 = some 1 := by kernel_rfl
theorem bs156 : bsOf Tryz.prog 156 = some 8 := by kernel_rfl
theorem ze156 : zeroOf Tryz.prog 156 = some Go.Value.nilFunc := by kernel_rfl
theorem sz157 : szOf Tryz.prog 157 = some 1 := by kernel_rfl
theorem bs157 : bsOf Tryz.prog 157 = some 8 := by kernel_rfl
theorem ze157 : zeroOf Tryz.prog 157 = some Go.Value.nilFunc := by kernel_rfl
theorem sz158 : szOf Tryz.prog 158 = some 1 := by kernel_rfl
theorem bs158 : bsOf Tryz.prog 158 = some 8 := by kernel_rfl
theorem ze158 : zeroOf Tryz.prog 158 = some Go.Value.nilFunc := by kernel_rfl
theorem sz159 : szOf Tryz.prog 159 = some 1 := by kernel_rfl
theorem bs159 : bsOf Tryz.prog 159 = some 8 := by kernel_rfl
theorem ze159 : zeroOf Tryz.prog 159 = some Go.Value.nilFunc := by kernel_rfl
theorem sz160 : szOf Tryz.prog 160 = some 1 := by kernel_rfl
theorem bs160 : bsOf Tryz.prog 160 = some 8 := by kernel_rfl
theorem ze160 : zeroOf Tryz.prog 160 = some Go.Value.nilFunc := by kernel_rfl
theorem sz161 : szOf Tryz.prog 161 = some 4 := by kernel_rfl
theorem bs161 : bsOf Tryz.prog 161 = some 40 := by kernel_rfl
theorem ze161 : zeroOf Tryz.prog 161 = some (Go.Value.agg #[(Go.Value.pointer none), (Go.Value.pointer none), (Go.Value.pointer none), (Go.Value.string { data := #[] })]) := by kernel_rfl
theorem sz162 : szOf Tryz.prog 162 = some 4 := by kernel_rfl
theorem bs162 : bsOf Tryz.prog 162 = some 40 := by kernel_rfl
theorem ze162 : zeroOf Tryz.prog 162 = some (Go.Value.agg #[(Go.Value.pointer none), (Go.Value.pointer none), (Go.Value.pointer none), (Go.Value.string { data := #[] })]) := by kernel_rfl
theorem sz163 : szOf Tryz.prog 163 = some 0 := by kernel_rfl
theorem bs163 : bsOf Tryz.prog 163 = some 0 := by kernel_rfl
theorem ze163 : zeroOf Tryz.prog 163 = some (Go.Value.agg #[]) := by kernel_rfl
theorem sz164 : szOf Tryz.prog 164 = some 0 := by kernel_rfl
theorem bs164 : bsOf Tryz.prog 164 = some 0 := by kernel_rfl
theorem ze164 : zeroOf Tryz.prog 164 = some (Go.Value.agg #[]) := by kernel_rfl
theorem sz165 : szOf Tryz.prog 165 = some 0 := by kernel_rfl
theorem bs165 : bsOf Tryz.prog 165 = some 0 := by kernel_rfl
theorem ze165 : zeroOf Tryz.prog 165 = some (Go.Value.agg #[]) := by kernel_rfl
theorem sz166 : szOf Tryz.prog 166 = some 1 := by kernel_rfl
theorem bs166 : bsOf Tryz.prog 166 = some 1 := by kernel_rfl
theorem ze166 : zeroOf Tryz.prog 166 = some (Go.Value.int Go.IntKind.u8 0) := by kernel_rfl
theorem sz167 : szOf Tryz.prog 167 = some 1 := by kernel_rfl
theorem bs167 : bsOf Tryz.prog 167 = some 1 := by kernel_rfl
theorem ze167 : zeroOf Tryz.prog 167 = some (Go.Value.int Go.IntKind.u8 0) := by kernel_rfl
theorem sz168 : szOf Tryz.prog 168 = some 1 := by kernel_rfl
theorem bs168 : bsOf Tryz.prog 168 = some 8 := by kernel_rfl
theorem ze168 : zeroOf Tryz.prog 168 = some Go.Value.nilFunc := by kernel_rfl
theorem sz169 : szOf Tryz.prog 169 = some 1 := by kernel_rfl
theorem bs169 : bsOf Tryz.prog 169 = some 8 := by kernel_rfl
theorem ze169 : zeroOf Tryz.prog 169 = some (Go.Value.pointer none) := by kernel_rfl
theorem sz170 : szOf Tryz.prog 170 = some 1 := by kernel_rfl
theorem bs170 : bsOf Tryz.prog 170 = some 4 := by kernel_rfl
theorem ze170 : zeroOf Tryz.prog 170 = some (Go.Value.int Go.IntKind.i32 0) := by kernel_rfl
theorem sz171 : szOf Tryz.prog 171 = some 1 := by kernel_rfl
theorem bs171 : bsOf Tryz.prog 171 = some 4 := by kernel_rfl
theorem ze171 : zeroOf Tryz.prog 171 = some (Go.Value.int Go.IntKind.i32 0) := by kernel_rfl
theorem sz172 : szOf Tryz.prog 172 = some 11 := by kernel_rfl
theorem bs172 : bsOf Tryz.prog 172 = some 48 := by kernel_rfl
theorem ze172 : zeroOf Tryz.prog 172 = some (Go.Value.agg #[(Go.Value.int Go.IntKind.u64 0), (Go.Value.int Go.IntKind.u64 0), (Go.Value.int Go.IntKind.u32 0), (Go.Value.int Go.IntKind.u8 0), (Go.Value.int Go.IntKind.u8 0), (Go.Value.int Go.IntKind.u8 0), (Go.Value.int Go.IntKind.u8 0), Go.Value.nilFunc, (Go.Value.pointer none), (Go.Value.int Go.IntKind.i32 0), (Go.Value.int Go.IntKind.i32 0)]) := by kernel_rfl
theorem sz173 : szOf Tryz.prog 173 = some 11 := by kernel_rfl
theorem bs173 : bsOf Tryz.prog 173 = some 48 := by kernel_rfl
theorem ze173 : zeroOf Tryz.prog 173 = some (Go.Value.agg #[(Go.Value.int Go.IntKind.u64 0), (Go.Value.int Go.IntKind.u64 0), (Go.Value.int Go.IntKind.u32 0), (Go.Value.int Go.IntKind.u8 0), (Go.Value.int Go.IntKind.u8 0), (Go.Value.int Go.IntKind.u8 0), (Go.Value.int Go.IntKind.u8 0), Go.Value.nilFunc, (Go.Value.pointer none), (Go.Value.int Go.IntKind.i32 0), (Go.Value.int Go.IntKind.i32 0)]) := by kernel_rfl
theorem sz174 : szOf Tryz.prog 174 = some 1 := by kernel_rfl
theorem bs174 : bsOf Tryz.prog 174 = some 8 := by kernel_rfl
theorem ze174 : zeroOf Tryz.prog 174 = some (Go.Value.pointer none) := by kernel_rfl
theorem go2 : goFn Tryz.prog 2 = true := by kernel_rfl
theorem go3 : goFn Tryz.prog 3 = true := by kernel_rfl
theorem go4 : goFn Tryz.prog 4 = true := by kernel_rfl
theorem go5 : goFn Tryz.prog 5 = true := by kernel_rfl
theorem go6 : goFn Tryz.prog 6 = true := by kernel_rfl
theorem go7 : goFn Tryz.prog 7 = true := by kernel_rfl
theorem go8 : goFn Tryz.prog 8 = true := by kernel_rfl
theorem go9 : goFn Tryz.prog 9 = true := by kernel_rfl
theorem go10 : goFn Tryz.prog 10 = true := by kernel_rfl
theorem go11 : goFn Tryz.prog 11 = true := by kernel_rfl
theorem go12 : goFn Tryz.prog 12 = true := by kernel_rfl
theorem go13 : goFn Tryz.prog 13 = true := by kernel_rfl
theorem go14 : goFn Tryz.prog 14 = true := by kernel_rfl
theorem go15 : goFn Tryz.prog 15 = true := by kernel_rfl
theorem go16 : goFn Tryz.prog 16 = true := by kernel_rfl
theorem go17 : goFn Tryz.prog 17 = true := by kernel_rfl
theorem go18 : goFn Tryz.prog 18 = true := by kernel_rfl
theorem go19 : goFn Tryz.prog 19 = true := by kernel_rfl
theorem go20 : goFn Tryz.prog 20 = true := by kernel_rfl
theorem go21 : goFn Tryz.prog 21 = true := by kernel_rfl
theorem go22 : goFn Tryz.prog 22 = true := by kernel_rfl
theorem go23 : goFn Tryz.prog 23 = true := by kernel_rfl
theorem go24 : goFn Tryz.prog 24 = true := by kernel_rfl
theorem go25 : goFn Tryz.prog 25 = true := by kernel_rfl
theorem go26 : goFn Tryz.prog 26 = true := by kernel_rfl
theorem go27 : goFn Tryz.prog 27 = true := by kernel_rfl
theorem go28 : goFn Tryz.prog 28 = true := by kernel_rfl
theorem go29 : goFn Tryz.prog 29 = true := by kernel_rfl
theorem go30 : goFn Tryz.prog 30 = true := by kernel_rfl
theorem go31 : goFn Tryz.prog 31 = true := by kernel_rfl
theorem go32 : goFn Tryz.prog 32 = true := by kernel_rfl
theorem go33 : goFn Tryz.prog 33 = true := by kernel_rfl
theorem go34 : goFn Tryz.prog 34 = true := by kernel_rfl
theorem go35 : goFn Tryz.prog 35 = true := by kernel_rfl
theorem go36 : goFn Tryz.prog 36 = true := by kernel_rfl
theorem go37 : goFn Tryz.prog 37 = true := by kernel_rfl
theorem go38 : goFn Tryz.prog 38 = true := by kernel_rfl
theorem go39 : goFn Tryz.prog 39 = true := by kernel_rfl
theorem go40 : goFn Tryz.prog 40 = true := by kernel_rfl
theorem go41 : goFn Tryz.prog 41 = true := by kernel_rfl
theorem go42 : goFn Tryz.prog 42 = true := by kernel_rfl
theorem go43 : goFn Tryz.prog 43 = true := by kernel_rfl
theorem go44 : goFn Tryz.prog 44 = true := by kernel_rfl
theorem go45 : goFn Tryz.prog 45 = true := by kernel_rfl
theorem go46 : goFn Tryz.prog 46 = true := by kernel_rfl
theorem go47 : goFn Tryz.prog 47 = true := by kernel_rfl
theorem go48 : goFn Tryz.prog 48 = true := by kernel_rfl
theorem go49 : goFn Tryz.prog 49 = true := by kernel_rfl
theorem go50 : goFn Tryz.prog 50 = true := by kernel_rfl
theorem go51 : goFn Tryz.prog 51 = true := by kernel_rfl
theorem go52 : goFn Tryz.prog 52 = true := by kernel_rfl
theorem go53 : goFn Tryz.prog 53 = true := by kernel_rfl
theorem go54 : goFn Tryz.prog 54 = true := by kernel_rfl
theorem go55 : goFn Tryz.prog 55 = true := by kernel_rfl
theorem go56 : goFn Tryz.prog 56 = true := by kernel_rfl
theorem go57 : goFn Tryz.prog 57 = true := by kernel_rfl
theorem go58 : goFn Tryz.prog 58 = true := by kernel_rfl
theorem go59 : goFn Tryz.prog 59 = true := by kernel_rfl
theorem go60 : goFn Tryz.prog 60 = true := by kernel_rfl
theorem go61 : goFn Tryz.prog 61 = true := by kernel_rfl
theorem go62 : goFn Tryz.prog 62 = true := by kernel_rfl
theorem go63 : goFn Tryz.prog 63 = true := by kernel_rfl
theorem go64 : goFn Tryz.prog 64 = true := by kernel_rfl
theorem go65 : goFn Tryz.prog 65 = true := by kernel_rfl
theorem go66 : goFn Tryz.prog 66 = true := by kernel_rfl
theorem go67 : goFn Tryz.prog 67 = true := by kernel_rfl
theorem go68 : goFn Tryz.prog 68 = true := by kernel_rfl
theorem go69 : goFn Tryz.prog 69 = true := by kernel_rfl
theorem go70 : goFn Tryz.prog 70 = true := by kernel_rfl
theorem go71 : goFn Tryz.prog 71 = true := by kernel_rfl
theorem go72 : goFn Tryz.prog 72 = true := by kernel_rfl
theorem go73 : goFn Tryz.prog 73 = true := by kernel_rfl
theorem go74 : goFn Tryz.prog 74 = true := by kernel_rfl
theorem go75 : goFn Tryz.prog 75 = true := by kernel_rfl
theorem go76 : goFn Tryz.prog 76 = true := by kernel_rfl
theorem go77 : goFn Tryz.prog 77 = true := by kernel_rfl
theorem go78 : goFn Tryz.prog 78 = true := by kernel_rfl
theorem go79 : goFn Tryz.prog 79 = true := by kernel_rfl
theorem go80 : goFn Tryz.prog 80 = true := by kernel_rfl
theorem go81 : goFn Tryz.prog 81 = true := by kernel_rfl
theorem go82 : goFn Tryz.prog 82 = true := by kernel_rfl
theorem go83 : goFn Tryz.prog 83 = true := by kernel_rfl
theorem go84 : goFn Tryz.prog 84 = true := by kernel_rfl
theorem go85 : goFn Tryz.prog 85 = true := by kernel_rfl
theorem go86 : goFn Tryz.prog 86 = true := by kernel_rfl
theorem go87 : goFn Tryz.prog 87 = true := by kernel_rfl
theorem go88 : goFn Tryz.prog 88 = true := by kernel_rfl
theorem go89 : goFn Tryz.prog 89 = true := by kernel_rfl
theorem go90 : goFn Tryz.prog 90 = true := by kernel_rfl
theorem go91 : goFn Tryz.prog 91 = true := by kernel_rfl
theorem go92 : goFn Tryz.prog 92 = true := by kernel_rfl
theorem go93 : goFn Tryz.prog 93 = true := by kernel_rfl
theorem go94 : goFn Tryz.prog 94 = true := by kernel_rfl
theorem go95 : goFn Tryz.prog 95 = true := by kernel_rfl
theorem go96 : goFn Tryz.prog 96 = true := by kernel_rfl
theorem go97 : goFn Tryz.prog 97 = true := by kernel_rfl
theorem go98 : goFn Tryz.prog 98 = true := by kernel_rfl
theorem go99 : goFn Tryz.prog 99 = true := by kernel_rfl
theorem go100 : goFn Tryz.prog 100 = true := by kernel_rfl
theorem go101 : goFn Tryz.prog 101 = true := by kernel_rfl
theorem go102 : goFn Tryz.prog 102 = true := by kernel_rfl
theorem go103 : goFn Tryz.prog 103 = true := by kernel_rfl
theorem go104 : goFn Tryz.prog 104 = true := by kernel_rfl
theorem go105 : goFn Tryz.prog 105 = true := by kernel_rfl
theorem go106 : goFn Tryz.prog 106 = true := by kernel_rfl
theorem go107 : goFn Tryz.prog 107 = true := by kernel_rfl
theorem go108 : goFn Tryz.prog 108 = true := by kernel_rfl
theorem go109 : goFn Tryz.prog 109 = true := by kernel_rfl
theorem go110 : goFn Tryz.prog 110 = true := by kernel_rfl
theorem go111 : goFn Tryz.prog 111 = true := by kernel_rfl
theorem go112 : goFn Tryz.prog 112 = true := by kernel_rfl
theorem go113 : goFn Tryz.prog 113 = true := by kernel_rfl
theorem go114 : goFn Tryz.prog 114 = true := by kernel_rfl
theorem go116 : goFn Tryz.prog 116 = true := by kernel_rfl
theorem go117 : goFn Tryz.prog 117 = true := by kernel_rfl
theorem go118 : goFn Tryz.prog 118 = true := by kernel_rfl
theorem go119 : goFn Tryz.prog 119 = true := by kernel_rfl
theorem go120 : goFn Tryz.prog 120 = true := by kernel_rfl
theorem go121 : goFn Tryz.prog 121 = true := by kernel_rfl
theorem go122 : goFn Tryz.prog 122 = true := by kernel_rfl
theorem go123 : goFn Tryz.prog 123 = true := by kernel_rfl
theorem go124 : goFn Tryz.prog 124 = true := by kernel_rfl
theorem go125 : goFn Tryz.prog 125 = true := by kernel_rfl
theorem go126 : goFn Tryz.prog 126 = true := by kernel_rfl
theorem go127 : goFn Tryz.prog 127 = true := by kernel_rfl
theorem go128 : goFn Tryz.prog 128 = true := by kernel_rfl
theorem go129 : goFn Tryz.prog 129 = true := by kernel_rfl
theorem go130 : goFn Tryz.prog 130 = true := by kernel_rfl
theorem go131 : goFn Tryz.prog 131 = true := by kernel_rfl
theorem go132 : goFn Tryz.prog 132 = true := by kernel_rfl
theorem go133 : goFn Tryz.prog 133 = true := by kernel_rfl
theorem go134 : goFn Tryz.prog 134 = true := by kernel_rfl
theorem go135 : goFn Tryz.prog 135 = true := by kernel_rfl
theorem go136 : goFn Tryz.prog 136 = true := by kernel_rfl
theorem go137 : goFn Tryz.prog 137 = true := by kernel_rfl
theorem go138 : goFn Tryz.prog 138 = true := by kernel_rfl
theorem go139 : goFn Tryz.prog 139 = true := by kernel_rfl
theorem go140 : goFn Tryz.prog 140 = true := by kernel_rfl
theorem go141 : goFn Tryz.prog 141 = true := by kernel_rfl
theorem go142 : goFn Tryz.prog 142 = true := by kernel_rfl
theorem go143 : goFn Tryz.prog 143 = true := by kernel_rfl
theorem go144 : goFn Tryz.prog 144 = true := by kernel_rfl
theorem go145 : goFn Tryz.prog 145 = true := by kernel_rfl
theorem go146 : goFn Tryz.prog 146 = true := by kernel_rfl
theorem go147 : goFn Tryz.prog 147 = true := by kernel_rfl
theorem go148 : goFn Tryz.prog 148 = true := by kernel_rfl
theorem go149 : goFn Tryz.prog 149 = true := by kernel_rfl
instance : Szc Tryz.prog 0 1 := ⟨sz0⟩
instance : Bsc Tryz.prog 0 0 := ⟨bs0⟩
instance : Und Tryz.prog 0 (Go.TypeDesc.tuple #[]) := ⟨Tryz.underlying0⟩
instance : Zec Tryz.prog 0 (Go.Value.tuple #[]) := ⟨ze0⟩
instance : Szc Tryz.prog 1 1 := ⟨sz1⟩
instance : Bsc Tryz.prog 1 8 := ⟨bs1⟩
instance : Und Tryz.prog 1 (Go.TypeDesc.func #[] #[] false) := ⟨Tryz.underlying1⟩
instance : Zec Tryz.prog 1 (Go.Value.nilFunc) := ⟨ze1⟩
instance : Szc Tryz.prog 2 1 := ⟨sz2⟩
instance : Bsc Tryz.prog 2 8 := ⟨bs2⟩
instance : Und Tryz.prog 2 (Go.TypeDesc.int Go.IntKind.i64) := ⟨Tryz.underlying2⟩
instance : Zec Tryz.prog 2 (Go.Value.int Go.IntKind.i64 0) := ⟨ze2⟩
instance : Szc Tryz.prog 3 1 := ⟨sz3⟩
instance : Bsc Tryz.prog 3 8 := ⟨bs3⟩
instance : Und Tryz.prog 3 (Go.TypeDesc.int Go.IntKind.i64) := ⟨Tryz.underlying3⟩
instance : Zec Tryz.prog 3 (Go.Value.int Go.IntKind.i64 0) := ⟨ze3⟩
instance : Szc Tryz.prog 4 1 := ⟨sz4⟩
instance : Bsc Tryz.prog 4 1 := ⟨bs4⟩
instance : Und Tryz.prog 4 Go.TypeDesc.bool := ⟨Tryz.underlying4⟩
instance : Zec Tryz.prog 4 (Go.Value.bool false) := ⟨ze4⟩
instance : Szc Tryz.prog 5 1 := ⟨sz5⟩
instance : Bsc Tryz.prog 5 1 := ⟨bs5⟩
instance : Und Tryz.prog 5 (Go.TypeDesc.int Go.IntKind.u8) := ⟨Tryz.underlying5⟩
instance : Zec Tryz.prog 5 (Go.Value.int Go.IntKind.u8 0) := ⟨ze5⟩
instance : Szc Tryz.prog 6 1 := ⟨sz6⟩
instance : Bsc Tryz.prog 6 1 := ⟨bs6⟩
instance : Und Tryz.prog 6 (Go.TypeDesc.int Go.IntKind.u8) := ⟨Tryz.underlying6⟩
instance : Zec Tryz.prog 6 (Go.Value.int Go.IntKind.u8 0) := ⟨ze6⟩
instance : Szc Tryz.prog 7 4 := ⟨sz7⟩
instance : Bsc Tryz.prog 7 24 := ⟨bs7⟩
instance : Und Tryz.prog 7 (Go.TypeDesc.struct #[{ name := "x", type := 2, offset := 0, embedded := false, tag := "", pkgPath := "runtime", byteOffset := 0 }, { name := "y", type := 3, offset := 1, embedded := false, tag := "", pkgPath := "runtime", byteOffset := 8 }, { name := "signed", type := 4, offset := 2, embedded := false, tag := "", pkgPath := "runtime", byteOffset := 16 }, { name := "code", type := 6, offset := 3, embedded := false, tag := "", pkgPath := "runtime", byteOffset := 17 }]) := ⟨Tryz.underlying7⟩
instance : Zec Tryz.prog 7 (Go.Value.agg #[(Go.Value.int Go.IntKind.i64 0), (Go.Value.int Go.IntKind.i64 0), (Go.Value.bool false), (Go.Value.int Go.IntKind.u8 0)]) := ⟨ze7⟩
instance : Szc Tryz.prog 8 4 := ⟨sz8⟩
instance : Bsc Tryz.prog 8 24 := ⟨bs8⟩
instance : Und Tryz.prog 8 (Go.TypeDesc.struct #[{ name := "x", type := 2, offset := 0, embedded := false, tag := "", pkgPath := "runtime", byteOffset := 0 }, { name := "y", type := 3, offset := 1, embedded := false, tag := "", pkgPath := "runtime", byteOffset := 8 }, { name := "signed", type := 4, offset := 2, embedded := false, tag := "", pkgPath := "runtime", byteOffset := 16 }, { name := "code", type := 6, offset := 3, embedded := false, tag := "", pkgPath := "runtime", byteOffset := 17 }]) := ⟨Tryz.underlying8⟩
instance : Zec Tryz.prog 8 (Go.Value.agg #[(Go.Value.int Go.IntKind.i64 0), (Go.Value.int Go.IntKind.i64 0), (Go.Value.bool false), (Go.Value.int Go.IntKind.u8 0)]) := ⟨ze8⟩
instance : Szc Tryz.prog 9 1 := ⟨sz9⟩
instance : Bsc Tryz.prog 9 16 := ⟨bs9⟩
instance : Und Tryz.prog 9 Go.TypeDesc.string := ⟨Tryz.underlying9⟩
instance : Zec Tryz.prog 9 (Go.Value.string { data := #[] }) := ⟨ze9⟩
instance : Szc Tryz.prog 10 1 := ⟨sz10⟩
instance : Bsc Tryz.prog 10 16 := ⟨bs10⟩
instance : Und Tryz.prog 10 Go.TypeDesc.string := ⟨Tryz.underlying10⟩
instance : Zec Tryz.prog 10 (Go.Value.string { data := #[] }) := ⟨ze10⟩
instance : Szc Tryz.prog 11 1 := ⟨sz11⟩
instance : Bsc Tryz.prog 11 16 := ⟨bs11⟩
instance : Und Tryz.prog 11 Go.TypeDesc.string := ⟨Tryz.underlying11⟩
instance : Zec Tryz.prog 11 (Go.Value.string { data := #[] }) := ⟨ze11⟩
instance : Szc Tryz.prog 12 1 := ⟨sz12⟩
instance : Bsc Tryz.prog 12 8 := ⟨bs12⟩
instance : Und Tryz.prog 12 (Go.TypeDesc.int Go.IntKind.u64) := ⟨Tryz.underlying12⟩
instance : Zec Tryz.prog 12 (Go.Value.int Go.IntKind.u64 0) := ⟨ze12⟩
instance : Szc Tryz.prog 13 2 := ⟨sz13⟩
instance : Bsc Tryz.prog 13 24 := ⟨bs13⟩
instance : Und Tryz.prog 13 (Go.TypeDesc.struct #[{ name := "msg", type := 9, offset := 0, embedded := false, tag := "", pkgPath := "runtime", byteOffset := 0 }, { name := "addr", type := 12, offset := 1, embedded := false, tag := "", pkgPath := "runtime", byteOffset := 16 }]) := ⟨Tryz.underlying13⟩
instance : Zec Tryz.prog 13 (Go.Value.agg #[(Go.Value.string { data := #[] }), (Go.Value.int Go.IntKind.u64 0)]) := ⟨ze13⟩
instance : Szc Tryz.prog 14 2 := ⟨sz14⟩
instance : Bsc Tryz.prog 14 24 := ⟨bs14⟩
instance : Und Tryz.prog 14 (Go.TypeDesc.struct #[{ name := "msg", type := 9, offset := 0, embedded := false, tag := "", pkgPath := "runtime", byteOffset := 0 }, { name := "addr", type := 12, offset := 1, embedded := false, tag := "", pkgPath := "runtime", byteOffset := 16 }]) := ⟨Tryz.underlying14⟩
instance : Zec Tryz.prog 14 (Go.Value.agg #[(Go.Value.string { data := #[] }), (Go.Value.int Go.IntKind.u64 0)]) := ⟨ze14⟩
instance : Szc Tryz.prog 15 1 := ⟨sz15⟩
instance : Bsc Tryz.prog 15 8 := ⟨bs15⟩
instance : Und Tryz.prog 15 (Go.TypeDesc.pointer 162) := ⟨Tryz.underlying15⟩
instance : Zec Tryz.prog 15 (Go.Value.pointer none) := ⟨ze15⟩
instance : Szc Tryz.prog 16 1 := ⟨sz16⟩
instance : Bsc Tryz.prog 16 8 := ⟨bs16⟩
instance : Und Tryz.prog 16 (Go.TypeDesc.pointer 165) := ⟨Tryz.underlying16⟩
instance : Zec Tryz.prog 16 (Go.Value.pointer none) := ⟨ze16⟩
instance : Szc Tryz.prog 17 1 := ⟨sz17⟩
instance : Bsc Tryz.prog 17 8 := ⟨bs17⟩
instance : Und Tryz.prog 17 (Go.TypeDesc.pointer 173) := ⟨Tryz.underlying17⟩
instance : Zec Tryz.prog 17 (Go.Value.pointer none) := ⟨ze17⟩
instance : Szc Tryz.prog 18 1 := ⟨sz18⟩
instance : Bsc Tryz.prog 18 8 := ⟨bs18⟩
instance : Und Tryz.prog 18 (Go.TypeDesc.struct #[{ name := "typ", type := 17, offset := 0, embedded := false, tag := "", pkgPath := "internal/runtime/maps", byteOffset := 0 }]) := ⟨Tryz.underlying18⟩
instance : Zec Tryz.prog 18 (Go.Value.agg #[(Go.Value.pointer none)]) := ⟨ze18⟩
instance : Szc Tryz.prog 19 1 := ⟨sz19⟩
instance : Bsc Tryz.prog 19 8 := ⟨bs19⟩
instance : Und Tryz.prog 19 (Go.TypeDesc.struct #[{ name := "typ", type := 17, offset := 0, embedded := false, tag := "", pkgPath := "internal/runtime/maps", byteOffset := 0 }]) := ⟨Tryz.underlying19⟩
instance : Zec Tryz.prog 19 (Go.Value.agg #[(Go.Value.pointer none)]) := ⟨ze19⟩
instance : Szc Tryz.prog 20 1 := ⟨sz20⟩
instance : Bsc Tryz.prog 20 16 := ⟨bs20⟩
instance : Und Tryz.prog 20 (Go.TypeDesc.interface #[]) := ⟨Tryz.underlying20⟩
instance : Zec Tryz.prog 20 (Go.Value.nilIface) := ⟨ze20⟩
instance : Szc Tryz.prog 21 1 := ⟨sz21⟩
instance : Bsc Tryz.prog 21 4 := ⟨bs21⟩
instance : Und Tryz.prog 21 (Go.TypeDesc.int Go.IntKind.i32) := ⟨Tryz.underlying21⟩
instance : Zec Tryz.prog 21 (Go.Value.int Go.IntKind.i32 0) := ⟨ze21⟩
instance : Szc Tryz.prog 22 1 := ⟨sz22⟩
instance : Bsc Tryz.prog 22 24 := ⟨bs22⟩
instance : Und Tryz.prog 22 (Go.TypeDesc.slice 28) := ⟨Tryz.underlying22⟩
instance : Zec Tryz.prog 22 (Go.Value.slice none 0 0) := ⟨ze22⟩
instance : Szc Tryz.prog 23 8 := ⟨sz23⟩
instance : Bsc Tryz.prog 23 64 := ⟨bs23⟩
instance : Und Tryz.prog 23 (Go.TypeDesc.array 8 3) := ⟨Tryz.underlying23⟩
instance : Zec Tryz.prog 23 (Go.Value.agg #[(Go.Value.int Go.IntKind.i64 0), (Go.Value.int Go.IntKind.i64 0), (Go.Value.int Go.IntKind.i64 0), (Go.Value.int Go.IntKind.i64 0), (Go.Value.int Go.IntKind.i64 0), (Go.Value.int Go.IntKind.i64 0), (Go.Value.int Go.IntKind.i64 0), (Go.Value.int Go.IntKind.i64 0)]) := ⟨ze23⟩
instance : Szc Tryz.prog 24 8 := ⟨sz24⟩
instance : Bsc Tryz.prog 24 64 := ⟨bs24⟩
instance : Und Tryz.prog 24 (Go.TypeDesc.array 8 3) := ⟨Tryz.underlying24⟩
instance : Zec Tryz.prog 24 (Go.Value.agg #[(Go.Value.int Go.IntKind.i64 0), (Go.Value.int Go.IntKind.i64 0), (Go.Value.int Go.IntKind.i64 0), (Go.Value.int Go.IntKind.i64 0), (Go.Value.int Go.IntKind.i64 0), (Go.Value.int Go.IntKind.i64 0), (Go.Value.int Go.IntKind.i64 0), (Go.Value.int Go.IntKind.i64 0)]) := ⟨ze24⟩
instance : Szc Tryz.prog 25 2 := ⟨sz25⟩
instance : Bsc Tryz.prog 25 32 := ⟨bs25⟩
instance : Und Tryz.prog 25 (Go.TypeDesc.struct #[{ name := "Num", type := 9, offset := 0, embedded := false, tag := "", pkgPath := "", byteOffset := 0 }, { name := "Den", type := 9, offset := 1, embedded := false, tag := "", pkgPath := "", byteOffset := 16 }]) := ⟨Tryz.underlying25⟩
instance : Zec Tryz.prog 25 (Go.Value.agg #[(Go.Value.string { data := #[] }), (Go.Value.string { data := #[] })]) := ⟨ze25⟩
instance : Szc Tryz.prog 26 2 := ⟨sz26⟩
instance : Bsc Tryz.prog 26 32 := ⟨bs26⟩
instance : Und Tryz.prog 26 (Go.TypeDesc.struct #[{ name := "Num", type := 9, offset := 0, embedded := false, tag := "", pkgPath := "", byteOffset := 0 }, { name := "Den", type := 9, offset := 1, embedded := false, tag := "", pkgPath := "", byteOffset := 16 }]) := ⟨Tryz.underlying26⟩
instance : Zec Tryz.prog 26 (Go.Value.agg #[(Go.Value.string { data := #[] }), (Go.Value.string { data := #[] })]) := ⟨ze26⟩
instance : Szc Tryz.prog 27 15 := ⟨sz27⟩
instance : Bsc Tryz.prog 27 168 := ⟨bs27⟩
instance : Und Tryz.prog 27 (Go.TypeDesc.struct #[{ name := "Name", type := 9, offset := 0, embedded := false, tag := "", pkgPath := "", byteOffset := 0 }, { name := "Symbol", type := 9, offset := 1, embedded := false, tag := "", pkgPath := "", byteOffset := 16 }, { name := "Dim", type := 24, offset := 2, embedded := false, tag := "", pkgPath := "", byteOffset := 32 }, { name := "Factor", type := 26, offset := 10, embedded := false, tag := "", pkgPath := "", byteOffset := 96 }, { name := "Offset", type := 26, offset := 12, embedded := false, tag := "", pkgPath := "", byteOffset := 128 }, { name := "Takes", type := 3, offset := 14, embedded := false, tag := "", pkgPath := "", byteOffset := 160 }]) := ⟨Tryz.underlying27⟩
instance : Zec Tryz.prog 27 (Go.Value.agg #[(Go.Value.string { data := #[] }), (Go.Value.string { data := #[] }), (Go.Value.int Go.IntKind.i64 0), (Go.Value.int Go.IntKind.i64 0), (Go.Value.int Go.IntKind.i64 0), (Go.Value.int Go.IntKind.i64 0), (Go.Value.int Go.IntKind.i64 0), (Go.Value.int Go.IntKind.i64 0), (Go.Value.int Go.IntKind.i64 0), (Go.Value.int Go.IntKind.i64 0), (Go.Value.string { data := #[] }), (Go.Value.string { data := #[] }), (Go.Value.string { data := #[] }), (Go.Value.string { data := #[] }), (Go.Value.int Go.IntKind.i64 0)]) := ⟨ze27⟩
instance : Szc Tryz.prog 28 15 := ⟨sz28⟩
instance : Bsc Tryz.prog 28 168 := ⟨bs28⟩
instance : Und Tryz.prog 28 (Go.TypeDesc.struct #[{ name := "Name", type := 9, offset := 0, embedded := false, tag := "", pkgPath := "", byteOffset := 0 }, { name := "Symbol", type := 9, offset := 1, embedded := false, tag := "", pkgPath := "", byteOffset := 16 }, { name := "Dim", type := 24, offset := 2, embedded := false, tag := "", pkgPath := "", byteOffset := 32 }, { name := "Factor", type := 26, offset := 10, embedded := false, tag := "", pkgPath := "", byteOffset := 96 }, { name := "Offset", type := 26, offset := 12, embedded := false, tag := "", pkgPath := "", byteOffset := 128 }, { name := "Takes", type := 3, offset := 14, embedded := false, tag := "", pkgPath := "", byteOffset := 160 }]) := ⟨Tryz.underlying28⟩
instance : Zec Tryz.prog 28 (Go.Value.agg #[(Go.Value.string { data := #[] }), (Go.Value.string { data := #[] }), (Go.Value.int Go.IntKind.i64 0), (Go.Value.int Go.IntKind.i64 0), (Go.Value.int Go.IntKind.i64 0), (Go.Value.int Go.IntKind.i64 0), (Go.Value.int Go.IntKind.i64 0), (Go.Value.int Go.IntKind.i64 0), (Go.Value.int Go.IntKind.i64 0), (Go.Value.int Go.IntKind.i64 0), (Go.Value.string { data := #[] }), (Go.Value.string { data := #[] }), (Go.Value.string { data := #[] }), (Go.Value.string { data := #[] }), (Go.Value.int Go.IntKind.i64 0)]) := ⟨ze28⟩
instance : Szc Tryz.prog 29 5 := ⟨sz29⟩
instance : Bsc Tryz.prog 29 72 := ⟨bs29⟩
instance : Und Tryz.prog 29 (Go.TypeDesc.struct #[{ name := "Name", type := 9, offset := 0, embedded := false, tag := "", pkgPath := "", byteOffset := 0 }, { name := "Symbol", type := 9, offset := 1, embedded := false, tag := "", pkgPath := "", byteOffset := 16 }, { name := "Factor", type := 26, offset := 2, embedded := false, tag := "", pkgPath := "", byteOffset := 32 }, { name := "Binary", type := 4, offset := 4, embedded := false, tag := "", pkgPath := "", byteOffset := 64 }]) := ⟨Tryz.underlying29⟩
instance : Zec Tryz.prog 29 (Go.Value.agg #[(Go.Value.string { data := #[] }), (Go.Value.string { data := #[] }), (Go.Value.string { data := #[] }), (Go.Value.string { data := #[] }), (Go.Value.bool false)]) := ⟨ze29⟩
instance : Szc Tryz.prog 30 5 := ⟨sz30⟩
instance : Bsc Tryz.prog 30 72 := ⟨bs30⟩
instance : Und Tryz.prog 30 (Go.TypeDesc.struct #[{ name := "Name", type := 9, offset := 0, embedded := false, tag := "", pkgPath := "", byteOffset := 0 }, { name := "Symbol", type := 9, offset := 1, embedded := false, tag := "", pkgPath := "", byteOffset := 16 }, { name := "Factor", type := 26, offset := 2, embedded := false, tag := "", pkgPath := "", byteOffset := 32 }, { name := "Binary", type := 4, offset := 4, embedded := false, tag := "", pkgPath := "", byteOffset := 64 }]) := ⟨Tryz.underlying30⟩
instance : Zec Tryz.prog 30 (Go.Value.agg #[(Go.Value.string { data := #[] }), (Go.Value.string { data := #[] }), (Go.Value.string { data := #[] }), (Go.Value.string { data := #[] }), (Go.Value.bool false)]) := ⟨ze30⟩
instance : Szc Tryz.prog 31 1 := ⟨sz31⟩
instance : Bsc Tryz.prog 31 8 := ⟨bs31⟩
instance : Und Tryz.prog 31 (Go.TypeDesc.int Go.IntKind.i64) := ⟨Tryz.underlying31⟩
instance : Zec Tryz.prog 31 (Go.Value.int Go.IntKind.i64 0) := ⟨ze31⟩
instance : Szc Tryz.prog 32 1 := ⟨sz32⟩
instance : Bsc Tryz.prog 32 0 := ⟨bs32⟩
instance : Und Tryz.prog 32 (Go.TypeDesc.tuple #[30, 3, 31]) := ⟨Tryz.underlying32⟩
instance : Zec Tryz.prog 32 (Go.Value.tuple #[(Go.Value.agg #[(Go.Value.string { data := #[] }), (Go.Value.string { data := #[] }), (Go.Value.string { data := #[] }), (Go.Value.string { data := #[] }), (Go.Value.bool false)]), (Go.Value.int Go.IntKind.i64 0), (Go.Value.int Go.IntKind.i64 0)]) := ⟨ze32⟩
instance : Szc Tryz.prog 33 1 := ⟨sz33⟩
instance : Bsc Tryz.prog 33 8 := ⟨bs33⟩
instance : Und Tryz.prog 33 (Go.TypeDesc.func #[9, 22] #[30, 3, 31] false) := ⟨Tryz.underlying33⟩
instance : Zec Tryz.prog 33 (Go.Value.nilFunc) := ⟨ze33⟩
instance : Szc Tryz.prog 34 1 := ⟨sz34⟩
instance : Bsc Tryz.prog 34 8 := ⟨bs34⟩
instance : Und Tryz.prog 34 (Go.TypeDesc.func #[] #[4] false) := ⟨Tryz.underlying34⟩
instance : Zec Tryz.prog 34 (Go.Value.nilFunc) := ⟨ze34⟩
instance : Szc Tryz.prog 35 1 := ⟨sz35⟩
instance : Bsc Tryz.prog 35 8 := ⟨bs35⟩
instance : Und Tryz.prog 35 (Go.TypeDesc.func #[9, 22] #[4] false) := ⟨Tryz.underlying35⟩
instance : Zec Tryz.prog 35 (Go.Value.nilFunc) := ⟨ze35⟩
instance : Szc Tryz.prog 36 1 := ⟨sz36⟩
instance : Bsc Tryz.prog 36 0 := ⟨bs36⟩
instance : Und Tryz.prog 36 (Go.TypeDesc.tuple #[30, 26, 31]) := ⟨Tryz.underlying36⟩
instance : Zec Tryz.prog 36 (Go.Value.tuple #[(Go.Value.agg #[(Go.Value.string { data := #[] }), (Go.Value.string { data := #[] }), (Go.Value.string { data := #[] }), (Go.Value.string { data := #[] }), (Go.Value.bool false)]), (Go.Value.agg #[(Go.Value.string { data := #[] }), (Go.Value.string { data := #[] })]), (Go.Value.int Go.IntKind.i64 0)]) := ⟨ze36⟩
instance : Szc Tryz.prog 37 1 := ⟨sz37⟩
instance : Bsc Tryz.prog 37 8 := ⟨bs37⟩
instance : Und Tryz.prog 37 (Go.TypeDesc.func #[26, 4] #[30, 26, 31] false) := ⟨Tryz.underlying37⟩
instance : Zec Tryz.prog 37 (Go.Value.nilFunc) := ⟨ze37⟩
instance : Szc Tryz.prog 38 1 := ⟨sz38⟩
instance : Bsc Tryz.prog 38 0 := ⟨bs38⟩
instance : Und Tryz.prog 38 (Go.TypeDesc.tuple #[26, 31]) := ⟨Tryz.underlying38⟩
instance : Zec Tryz.prog 38 (Go.Value.tuple #[(Go.Value.agg #[(Go.Value.string { data := #[] }), (Go.Value.string { data := #[] })]), (Go.Value.int Go.IntKind.i64 0)]) := ⟨ze38⟩
instance : Szc Tryz.prog 39 1 := ⟨sz39⟩
instance : Bsc Tryz.prog 39 8 := ⟨bs39⟩
instance : Und Tryz.prog 39 (Go.TypeDesc.func #[26, 26] #[26, 31] false) := ⟨Tryz.underlying39⟩
instance : Zec Tryz.prog 39 (Go.Value.nilFunc) := ⟨ze39⟩
instance : Szc Tryz.prog 40 1 := ⟨sz40⟩
instance : Bsc Tryz.prog 40 8 := ⟨bs40⟩
instance : Und Tryz.prog 40 (Go.TypeDesc.func #[26, 4] #[4] false) := ⟨Tryz.underlying40⟩
instance : Zec Tryz.prog 40 (Go.Value.nilFunc) := ⟨ze40⟩
instance : Szc Tryz.prog 41 1 := ⟨sz41⟩
instance : Bsc Tryz.prog 41 24 := ⟨bs41⟩
instance : Und Tryz.prog 41 (Go.TypeDesc.slice 30) := ⟨Tryz.underlying41⟩
instance : Zec Tryz.prog 41 (Go.Value.slice none 0 0) := ⟨ze41⟩
instance : Szc Tryz.prog 42 1 := ⟨sz42⟩
instance : Bsc Tryz.prog 42 8 := ⟨bs42⟩
instance : Und Tryz.prog 42 (Go.TypeDesc.func #[] #[41] false) := ⟨Tryz.underlying42⟩
instance : Zec Tryz.prog 42 (Go.Value.nilFunc) := ⟨ze42⟩
instance : Szc Tryz.prog 43 1 := ⟨sz43⟩
instance : Bsc Tryz.prog 43 24 := ⟨bs43⟩
instance : Und Tryz.prog 43 (Go.TypeDesc.slice 48) := ⟨Tryz.underlying43⟩
instance : Zec Tryz.prog 43 (Go.Value.slice none 0 0) := ⟨ze43⟩
instance : Szc Tryz.prog 44 1 := ⟨sz44⟩
instance : Bsc Tryz.prog 44 8 := ⟨bs44⟩
instance : Und Tryz.prog 44 (Go.TypeDesc.func #[] #[43] false) := ⟨Tryz.underlying44⟩
instance : Zec Tryz.prog 44 (Go.Value.nilFunc) := ⟨ze44⟩
instance : Szc Tryz.prog 45 1 := ⟨sz45⟩
instance : Bsc Tryz.prog 45 8 := ⟨bs45⟩
instance : Und Tryz.prog 45 (Go.TypeDesc.func #[41, 9] #[30, 4] false) := ⟨Tryz.underlying45⟩
instance : Zec Tryz.prog 45 (Go.Value.nilFunc) := ⟨ze45⟩
instance : Szc Tryz.prog 46 1 := ⟨sz46⟩
instance : Bsc Tryz.prog 46 8 := ⟨bs46⟩
instance : Und Tryz.prog 46 (Go.TypeDesc.func #[28] #[9] false) := ⟨Tryz.underlying46⟩
instance : Zec Tryz.prog 46 (Go.Value.nilFunc) := ⟨ze46⟩
instance : Szc Tryz.prog 47 2 := ⟨sz47⟩
instance : Bsc Tryz.prog 47 16 := ⟨bs47⟩
instance : Und Tryz.prog 47 (Go.TypeDesc.struct #[{ name := "find", type := 45, offset := 0, embedded := false, tag := "", pkgPath := "cubit/prefix", byteOffset := 0 }, { name := "text", type := 46, offset := 1, embedded := false, tag := "", pkgPath := "cubit/prefix", byteOffset := 8 }]) := ⟨Tryz.underlying47⟩
instance : Zec Tryz.prog 47 (Go.Value.agg #[Go.Value.nilFunc, Go.Value.nilFunc]) := ⟨ze47⟩
instance : Szc Tryz.prog 48 2 := ⟨sz48⟩
instance : Bsc Tryz.prog 48 16 := ⟨bs48⟩
instance : Und Tryz.prog 48 (Go.TypeDesc.struct #[{ name := "find", type := 45, offset := 0, embedded := false, tag := "", pkgPath := "cubit/prefix", byteOffset := 0 }, { name := "text", type := 46, offset := 1, embedded := false, tag := "", pkgPath := "cubit/prefix", byteOffset := 8 }]) := ⟨Tryz.underlying48⟩
instance : Zec Tryz.prog 48 (Go.Value.agg #[Go.Value.nilFunc, Go.Value.nilFunc]) := ⟨ze48⟩
instance : Szc Tryz.prog 49 1 := ⟨sz49⟩
instance : Bsc Tryz.prog 49 0 := ⟨bs49⟩
instance : Und Tryz.prog 49 (Go.TypeDesc.tuple #[30, 4]) := ⟨Tryz.underlying49⟩
instance : Zec Tryz.prog 49 (Go.Value.tuple #[(Go.Value.agg #[(Go.Value.string { data := #[] }), (Go.Value.string { data := #[] }), (Go.Value.string { data := #[] }), (Go.Value.string { data := #[] }), (Go.Value.bool false)]), (Go.Value.bool false)]) := ⟨ze49⟩
instance : Szc Tryz.prog 50 1 := ⟨sz50⟩
instance : Bsc Tryz.prog 50 8 := ⟨bs50⟩
instance : Und Tryz.prog 50 (Go.TypeDesc.func #[28, 30] #[4] false) := ⟨Tryz.underlying50⟩
instance : Zec Tryz.prog 50 (Go.Value.nilFunc) := ⟨ze50⟩
instance : Szc Tryz.prog 51 1 := ⟨sz51⟩
instance : Bsc Tryz.prog 51 8 := ⟨bs51⟩
instance : Und Tryz.prog 51 (Go.TypeDesc.func #[9, 30, 28] #[4] false) := ⟨Tryz.underlying51⟩
instance : Zec Tryz.prog 51 (Go.Value.nilFunc) := ⟨ze51⟩
instance : Szc Tryz.prog 52 1 := ⟨sz52⟩
instance : Bsc Tryz.prog 52 8 := ⟨bs52⟩
instance : Und Tryz.prog 52 (Go.TypeDesc.func #[9] #[30, 4] false) := ⟨Tryz.underlying52⟩
instance : Zec Tryz.prog 52 (Go.Value.nilFunc) := ⟨ze52⟩
instance : Szc Tryz.prog 53 1 := ⟨sz53⟩
instance : Bsc Tryz.prog 53 8 := ⟨bs53⟩
instance : Und Tryz.prog 53 (Go.TypeDesc.func #[26] #[4] false) := ⟨Tryz.underlying53⟩
instance : Zec Tryz.prog 53 (Go.Value.nilFunc) := ⟨ze53⟩
instance : Szc Tryz.prog 54 1 := ⟨sz54⟩
instance : Bsc Tryz.prog 54 8 := ⟨bs54⟩
instance : Und Tryz.prog 54 (Go.TypeDesc.func #[2] #[26] false) := ⟨Tryz.underlying54⟩
instance : Zec Tryz.prog 54 (Go.Value.nilFunc) := ⟨ze54⟩
instance : Szc Tryz.prog 55 1 := ⟨sz55⟩
instance : Bsc Tryz.prog 55 8 := ⟨bs55⟩
instance : Und Tryz.prog 55 (Go.TypeDesc.func #[26, 26] #[3] false) := ⟨Tryz.underlying55⟩
instance : Zec Tryz.prog 55 (Go.Value.nilFunc) := ⟨ze55⟩
instance : Szc Tryz.prog 56 1 := ⟨sz56⟩
instance : Bsc Tryz.prog 56 8 := ⟨bs56⟩
instance : Und Tryz.prog 56 (Go.TypeDesc.func #[4] #[41] false) := ⟨Tryz.underlying56⟩
instance : Zec Tryz.prog 56 (Go.Value.nilFunc) := ⟨ze56⟩
instance : Szc Tryz.prog 57 1 := ⟨sz57⟩
instance : Bsc Tryz.prog 57 8 := ⟨bs57⟩
instance : Und Tryz.prog 57 (Go.TypeDesc.func #[26, 30, 26] #[4] false) := ⟨Tryz.underlying57⟩
instance : Zec Tryz.prog 57 (Go.Value.nilFunc) := ⟨ze57⟩
instance : Szc Tryz.prog 58 1 := ⟨sz58⟩
instance : Bsc Tryz.prog 58 8 := ⟨bs58⟩
instance : Und Tryz.prog 58 (Go.TypeDesc.func #[26, 26, 61] #[26, 31] false) := ⟨Tryz.underlying58⟩
instance : Zec Tryz.prog 58 (Go.Value.nilFunc) := ⟨ze58⟩
instance : Szc Tryz.prog 59 1 := ⟨sz59⟩
instance : Bsc Tryz.prog 59 8 := ⟨bs59⟩
instance : Und Tryz.prog 59 (Go.TypeDesc.pointer 90) := ⟨Tryz.underlying59⟩
instance : Zec Tryz.prog 59 (Go.Value.pointer none) := ⟨ze59⟩
instance : Szc Tryz.prog 60 1 := ⟨sz60⟩
instance : Bsc Tryz.prog 60 8 := ⟨bs60⟩
instance : Und Tryz.prog 60 (Go.TypeDesc.func #[59, 59] #[59] false) := ⟨Tryz.underlying60⟩
instance : Zec Tryz.prog 60 (Go.Value.nilFunc) := ⟨ze60⟩
instance : Szc Tryz.prog 61 1 := ⟨sz61⟩
instance : Bsc Tryz.prog 61 8 := ⟨bs61⟩
instance : Und Tryz.prog 61 (Go.TypeDesc.func #[59, 59, 59] #[31] false) := ⟨Tryz.underlying61⟩
instance : Zec Tryz.prog 61 (Go.Value.nilFunc) := ⟨ze61⟩
instance : Szc Tryz.prog 62 1 := ⟨sz62⟩
instance : Bsc Tryz.prog 62 0 := ⟨bs62⟩
instance : Und Tryz.prog 62 (Go.TypeDesc.tuple #[9, 9, 4, 4]) := ⟨Tryz.underlying62⟩
instance : Zec Tryz.prog 62 (Go.Value.tuple #[(Go.Value.string { data := #[] }), (Go.Value.string { data := #[] }), (Go.Value.bool false), (Go.Value.bool false)]) := ⟨ze62⟩
instance : Szc Tryz.prog 63 1 := ⟨sz63⟩
instance : Bsc Tryz.prog 63 8 := ⟨bs63⟩
instance : Und Tryz.prog 63 (Go.TypeDesc.func #[26] #[9, 9, 4, 4] false) := ⟨Tryz.underlying63⟩
instance : Zec Tryz.prog 63 (Go.Value.nilFunc) := ⟨ze63⟩
instance : Szc Tryz.prog 64 1 := ⟨sz64⟩
instance : Bsc Tryz.prog 64 8 := ⟨bs64⟩
instance : Und Tryz.prog 64 (Go.TypeDesc.func #[9, 9, 9, 9] #[4] false) := ⟨Tryz.underlying64⟩
instance : Zec Tryz.prog 64 (Go.Value.nilFunc) := ⟨ze64⟩
instance : Szc Tryz.prog 65 3 := ⟨sz65⟩
instance : Bsc Tryz.prog 65 40 := ⟨bs65⟩
instance : Und Tryz.prog 65 (Go.TypeDesc.struct #[{ name := "name", type := 9, offset := 0, embedded := false, tag := "", pkgPath := "cubit/cubitref07", byteOffset := 0 }, { name := "symbol", type := 9, offset := 1, embedded := false, tag := "", pkgPath := "cubit/cubitref07", byteOffset := 16 }, { name := "exp", type := 3, offset := 2, embedded := false, tag := "", pkgPath := "cubit/cubitref07", byteOffset := 32 }]) := ⟨Tryz.underlying65⟩
instance : Zec Tryz.prog 65 (Go.Value.agg #[(Go.Value.string { data := #[] }), (Go.Value.string { data := #[] }), (Go.Value.int Go.IntKind.i64 0)]) := ⟨ze65⟩
instance : Szc Tryz.prog 66 3 := ⟨sz66⟩
instance : Bsc Tryz.prog 66 40 := ⟨bs66⟩
instance : Und Tryz.prog 66 (Go.TypeDesc.struct #[{ name := "name", type := 9, offset := 0, embedded := false, tag := "", pkgPath := "cubit/cubitref07", byteOffset := 0 }, { name := "symbol", type := 9, offset := 1, embedded := false, tag := "", pkgPath := "cubit/cubitref07", byteOffset := 16 }, { name := "exp", type := 3, offset := 2, embedded := false, tag := "", pkgPath := "cubit/cubitref07", byteOffset := 32 }]) := ⟨Tryz.underlying66⟩
instance : Zec Tryz.prog 66 (Go.Value.agg #[(Go.Value.string { data := #[] }), (Go.Value.string { data := #[] }), (Go.Value.int Go.IntKind.i64 0)]) := ⟨ze66⟩
instance : Szc Tryz.prog 67 1 := ⟨sz67⟩
instance : Bsc Tryz.prog 67 24 := ⟨bs67⟩
instance : Und Tryz.prog 67 (Go.TypeDesc.slice 66) := ⟨Tryz.underlying67⟩
instance : Zec Tryz.prog 67 (Go.Value.slice none 0 0) := ⟨ze67⟩
instance : Szc Tryz.prog 68 1 := ⟨sz68⟩
instance : Bsc Tryz.prog 68 8 := ⟨bs68⟩
instance : Und Tryz.prog 68 (Go.TypeDesc.func #[] #[67] false) := ⟨Tryz.underlying68⟩
instance : Zec Tryz.prog 68 (Go.Value.nilFunc) := ⟨ze68⟩
instance : Szc Tryz.prog 69 1 := ⟨sz69⟩
instance : Bsc Tryz.prog 69 8 := ⟨bs69⟩
instance : Und Tryz.prog 69 (Go.TypeDesc.func #[9, 9, 4, 30] #[26, 31] false) := ⟨Tryz.underlying69⟩
instance : Zec Tryz.prog 69 (Go.Value.nilFunc) := ⟨ze69⟩
instance : Szc Tryz.prog 70 1 := ⟨sz70⟩
instance : Bsc Tryz.prog 70 8 := ⟨bs70⟩
instance : Und Tryz.prog 70 (Go.TypeDesc.func #[] #[3] false) := ⟨Tryz.underlying70⟩
instance : Zec Tryz.prog 70 (Go.Value.nilFunc) := ⟨ze70⟩
instance : Szc Tryz.prog 71 4 := ⟨sz71⟩
instance : Bsc Tryz.prog 71 48 := ⟨bs71⟩
instance : Und Tryz.prog 71 (Go.TypeDesc.struct #[{ name := "name", type := 9, offset := 0, embedded := false, tag := "", pkgPath := "cubit/prefix", byteOffset := 0 }, { name := "symbol", type := 9, offset := 1, embedded := false, tag := "", pkgPath := "cubit/prefix", byteOffset := 16 }, { name := "power", type := 3, offset := 2, embedded := false, tag := "", pkgPath := "cubit/prefix", byteOffset := 32 }, { name := "binary", type := 4, offset := 3, embedded := false, tag := "", pkgPath := "cubit/prefix", byteOffset := 40 }]) := ⟨Tryz.underlying71⟩
instance : Zec Tryz.prog 71 (Go.Value.agg #[(Go.Value.string { data := #[] }), (Go.Value.string { data := #[] }), (Go.Value.int Go.IntKind.i64 0), (Go.Value.bool false)]) := ⟨ze71⟩
instance : Szc Tryz.prog 72 4 := ⟨sz72⟩
instance : Bsc Tryz.prog 72 48 := ⟨bs72⟩
instance : Und Tryz.prog 72 (Go.TypeDesc.struct #[{ name := "name", type := 9, offset := 0, embedded := false, tag := "", pkgPath := "cubit/prefix", byteOffset := 0 }, { name := "symbol", type := 9, offset := 1, embedded := false, tag := "", pkgPath := "cubit/prefix", byteOffset := 16 }, { name := "power", type := 3, offset := 2, embedded := false, tag := "", pkgPath := "cubit/prefix", byteOffset := 32 }, { name := "binary", type := 4, offset := 3, embedded := false, tag := "", pkgPath := "cubit/prefix", byteOffset := 40 }]) := ⟨Tryz.underlying72⟩
instance : Zec Tryz.prog 72 (Go.Value.agg #[(Go.Value.string { data := #[] }), (Go.Value.string { data := #[] }), (Go.Value.int Go.IntKind.i64 0), (Go.Value.bool false)]) := ⟨ze72⟩
instance : Szc Tryz.prog 73 1 := ⟨sz73⟩
instance : Bsc Tryz.prog 73 24 := ⟨bs73⟩
instance : Und Tryz.prog 73 (Go.TypeDesc.slice 72) := ⟨Tryz.underlying73⟩
instance : Zec Tryz.prog 73 (Go.Value.slice none 0 0) := ⟨ze73⟩
instance : Szc Tryz.prog 74 1 := ⟨sz74⟩
instance : Bsc Tryz.prog 74 8 := ⟨bs74⟩
instance : Und Tryz.prog 74 (Go.TypeDesc.func #[26, 3] #[26, 31] false) := ⟨Tryz.underlying74⟩
instance : Zec Tryz.prog 74 (Go.Value.nilFunc) := ⟨ze74⟩
instance : Szc Tryz.prog 75 1 := ⟨sz75⟩
instance : Bsc Tryz.prog 75 8 := ⟨bs75⟩
instance : Und Tryz.prog 75 (Go.TypeDesc.func #[9, 3] #[9] false) := ⟨Tryz.underlying75⟩
instance : Zec Tryz.prog 75 (Go.Value.nilFunc) := ⟨ze75⟩
instance : Szc Tryz.prog 76 1 := ⟨sz76⟩
instance : Bsc Tryz.prog 76 8 := ⟨bs76⟩
instance : Und Tryz.prog 76 (Go.TypeDesc.func #[30, 9] #[4] false) := ⟨Tryz.underlying76⟩
instance : Zec Tryz.prog 76 (Go.Value.nilFunc) := ⟨ze76⟩
instance : Szc Tryz.prog 77 1 := ⟨sz77⟩
instance : Bsc Tryz.prog 77 8 := ⟨bs77⟩
instance : Und Tryz.prog 77 (Go.TypeDesc.func #[26] #[59] false) := ⟨Tryz.underlying77⟩
instance : Zec Tryz.prog 77 (Go.Value.nilFunc) := ⟨ze77⟩
instance : Szc Tryz.prog 78 1 := ⟨sz78⟩
instance : Bsc Tryz.prog 78 8 := ⟨bs78⟩
instance : Und Tryz.prog 78 (Go.TypeDesc.pointer 88) := ⟨Tryz.underlying78⟩
instance : Zec Tryz.prog 78 (Go.Value.pointer none) := ⟨ze78⟩
instance : Szc Tryz.prog 79 1 := ⟨sz79⟩
instance : Bsc Tryz.prog 79 8 := ⟨bs79⟩
instance : Und Tryz.prog 79 (Go.TypeDesc.func #[2] #[78] false) := ⟨Tryz.underlying79⟩
instance : Zec Tryz.prog 79 (Go.Value.nilFunc) := ⟨ze79⟩
instance : Szc Tryz.prog 80 1 := ⟨sz80⟩
instance : Bsc Tryz.prog 80 8 := ⟨bs80⟩
instance : Und Tryz.prog 80 (Go.TypeDesc.func #[] #[9] false) := ⟨Tryz.underlying80⟩
instance : Zec Tryz.prog 80 (Go.Value.nilFunc) := ⟨ze80⟩
instance : Szc Tryz.prog 81 1 := ⟨sz81⟩
instance : Bsc Tryz.prog 81 8 := ⟨bs81⟩
instance : Und Tryz.prog 81 (Go.TypeDesc.func #[26] #[26, 31] false) := ⟨Tryz.underlying81⟩
instance : Zec Tryz.prog 81 (Go.Value.nilFunc) := ⟨ze81⟩
instance : Szc Tryz.prog 82 1 := ⟨sz82⟩
instance : Bsc Tryz.prog 82 0 := ⟨bs82⟩
instance : Und Tryz.prog 82 (Go.TypeDesc.tuple #[3, 31]) := ⟨Tryz.underlying82⟩
instance : Zec Tryz.prog 82 (Go.Value.tuple #[(Go.Value.int Go.IntKind.i64 0), (Go.Value.int Go.IntKind.i64 0)]) := ⟨ze82⟩
instance : Szc Tryz.prog 83 1 := ⟨sz83⟩
instance : Bsc Tryz.prog 83 8 := ⟨bs83⟩
instance : Und Tryz.prog 83 (Go.TypeDesc.func #[26, 26] #[3, 31] false) := ⟨Tryz.underlying83⟩
instance : Zec Tryz.prog 83 (Go.Value.nilFunc) := ⟨ze83⟩
instance : Szc Tryz.prog 84 1 := ⟨sz84⟩
instance : Bsc Tryz.prog 84 24 := ⟨bs84⟩
instance : Und Tryz.prog 84 (Go.TypeDesc.slice 59) := ⟨Tryz.underlying84⟩
instance : Zec Tryz.prog 84 (Go.Value.slice none 0 0) := ⟨ze84⟩
instance : Szc Tryz.prog 85 1 := ⟨sz85⟩
instance : Bsc Tryz.prog 85 8 := ⟨bs85⟩
instance : Und Tryz.prog 85 (Go.TypeDesc.func #[123] #[84] true) := ⟨Tryz.underlying85⟩
instance : Zec Tryz.prog 85 (Go.Value.nilFunc) := ⟨ze85⟩
instance : Szc Tryz.prog 86 1 := ⟨sz86⟩
instance : Bsc Tryz.prog 86 24 := ⟨bs86⟩
instance : Und Tryz.prog 86 (Go.TypeDesc.slice 116) := ⟨Tryz.underlying86⟩
instance : Zec Tryz.prog 86 (Go.Value.slice none 0 0) := ⟨ze86⟩
instance : Szc Tryz.prog 87 2 := ⟨sz87⟩
instance : Bsc Tryz.prog 87 32 := ⟨bs87⟩
instance : Und Tryz.prog 87 (Go.TypeDesc.struct #[{ name := "neg", type := 4, offset := 0, embedded := false, tag := "", pkgPath := "cubit/ample", byteOffset := 0 }, { name := "w", type := 86, offset := 1, embedded := false, tag := "", pkgPath := "cubit/ample", byteOffset := 8 }]) := ⟨Tryz.underlying87⟩
instance : Zec Tryz.prog 87 (Go.Value.agg #[(Go.Value.bool false), (Go.Value.slice none 0 0)]) := ⟨ze87⟩
instance : Szc Tryz.prog 88 2 := ⟨sz88⟩
instance : Bsc Tryz.prog 88 32 := ⟨bs88⟩
instance : Und Tryz.prog 88 (Go.TypeDesc.struct #[{ name := "neg", type := 4, offset := 0, embedded := false, tag := "", pkgPath := "cubit/ample", byteOffset := 0 }, { name := "w", type := 86, offset := 1, embedded := false, tag := "", pkgPath := "cubit/ample", byteOffset := 8 }]) := ⟨Tryz.underlying88⟩
instance : Zec Tryz.prog 88 (Go.Value.agg #[(Go.Value.bool false), (Go.Value.slice none 0 0)]) := ⟨ze88⟩
instance : Szc Tryz.prog 89 4 := ⟨sz89⟩
instance : Bsc Tryz.prog 89 64 := ⟨bs89⟩
instance : Und Tryz.prog 89 (Go.TypeDesc.struct #[{ name := "a", type := 88, offset := 0, embedded := false, tag := "", pkgPath := "cubit/ample", byteOffset := 0 }, { name := "b", type := 88, offset := 2, embedded := false, tag := "", pkgPath := "cubit/ample", byteOffset := 32 }]) := ⟨Tryz.underlying89⟩
instance : Zec Tryz.prog 89 (Go.Value.agg #[(Go.Value.bool false), (Go.Value.slice none 0 0), (Go.Value.bool false), (Go.Value.slice none 0 0)]) := ⟨ze89⟩
instance : Szc Tryz.prog 90 4 := ⟨sz90⟩
instance : Bsc Tryz.prog 90 64 := ⟨bs90⟩
instance : Und Tryz.prog 90 (Go.TypeDesc.struct #[{ name := "a", type := 88, offset := 0, embedded := false, tag := "", pkgPath := "cubit/ample", byteOffset := 0 }, { name := "b", type := 88, offset := 2, embedded := false, tag := "", pkgPath := "cubit/ample", byteOffset := 32 }]) := ⟨Tryz.underlying90⟩
instance : Zec Tryz.prog 90 (Go.Value.agg #[(Go.Value.bool false), (Go.Value.slice none 0 0), (Go.Value.bool false), (Go.Value.slice none 0 0)]) := ⟨ze90⟩
instance : Szc Tryz.prog 91 1 := ⟨sz91⟩
instance : Bsc Tryz.prog 91 8 := ⟨bs91⟩
instance : Und Tryz.prog 91 (Go.TypeDesc.func #[59] #[26, 31] false) := ⟨Tryz.underlying91⟩
instance : Zec Tryz.prog 91 (Go.Value.nilFunc) := ⟨ze91⟩
instance : Szc Tryz.prog 92 1 := ⟨sz92⟩
instance : Bsc Tryz.prog 92 8 := ⟨bs92⟩
instance : Und Tryz.prog 92 (Go.TypeDesc.func #[78, 78] #[59] false) := ⟨Tryz.underlying92⟩
instance : Zec Tryz.prog 92 (Go.Value.nilFunc) := ⟨ze92⟩
instance : Szc Tryz.prog 93 1 := ⟨sz93⟩
instance : Bsc Tryz.prog 93 8 := ⟨bs93⟩
instance : Und Tryz.prog 93 (Go.TypeDesc.func #[78, 78] #[78] false) := ⟨Tryz.underlying93⟩
instance : Zec Tryz.prog 93 (Go.Value.nilFunc) := ⟨ze93⟩
instance : Szc Tryz.prog 94 1 := ⟨sz94⟩
instance : Bsc Tryz.prog 94 8 := ⟨bs94⟩
instance : Und Tryz.prog 94 (Go.TypeDesc.func #[] #[78] false) := ⟨Tryz.underlying94⟩
instance : Zec Tryz.prog 94 (Go.Value.nilFunc) := ⟨ze94⟩
instance : Szc Tryz.prog 95 1 := ⟨sz95⟩
instance : Bsc Tryz.prog 95 8 := ⟨bs95⟩
instance : Und Tryz.prog 95 (Go.TypeDesc.float Go.FloatKind.f64) := ⟨Tryz.underlying95⟩
instance : Zec Tryz.prog 95 (Go.Value.float Go.FloatKind.f64 0) := ⟨ze95⟩
instance : Szc Tryz.prog 96 1 := ⟨sz96⟩
instance : Bsc Tryz.prog 96 0 := ⟨bs96⟩
instance : Und Tryz.prog 96 (Go.TypeDesc.tuple #[95, 31]) := ⟨Tryz.underlying96⟩
instance : Zec Tryz.prog 96 (Go.Value.tuple #[(Go.Value.float Go.FloatKind.f64 0), (Go.Value.int Go.IntKind.i64 0)]) := ⟨ze96⟩
instance : Szc Tryz.prog 97 1 := ⟨sz97⟩
instance : Bsc Tryz.prog 97 8 := ⟨bs97⟩
instance : Und Tryz.prog 97 (Go.TypeDesc.func #[26] #[95, 31] false) := ⟨Tryz.underlying97⟩
instance : Zec Tryz.prog 97 (Go.Value.nilFunc) := ⟨ze97⟩
instance : Szc Tryz.prog 98 1 := ⟨sz98⟩
instance : Bsc Tryz.prog 98 8 := ⟨bs98⟩
instance : Und Tryz.prog 98 (Go.TypeDesc.func #[9, 9] #[3] false) := ⟨Tryz.underlying98⟩
instance : Zec Tryz.prog 98 (Go.Value.nilFunc) := ⟨ze98⟩
instance : Szc Tryz.prog 99 1 := ⟨sz99⟩
instance : Bsc Tryz.prog 99 8 := ⟨bs99⟩
instance : Und Tryz.prog 99 (Go.TypeDesc.func #[9, 9] #[9] false) := ⟨Tryz.underlying99⟩
instance : Zec Tryz.prog 99 (Go.Value.nilFunc) := ⟨ze99⟩
instance : Szc Tryz.prog 100 1 := ⟨sz100⟩
instance : Bsc Tryz.prog 100 0 := ⟨bs100⟩
instance : Und Tryz.prog 100 (Go.TypeDesc.tuple #[9, 9]) := ⟨Tryz.underlying100⟩
instance : Zec Tryz.prog 100 (Go.Value.tuple #[(Go.Value.string { data := #[] }), (Go.Value.string { data := #[] })]) := ⟨ze100⟩
instance : Szc Tryz.prog 101 1 := ⟨sz101⟩
instance : Bsc Tryz.prog 101 8 := ⟨bs101⟩
instance : Und Tryz.prog 101 (Go.TypeDesc.func #[9, 9] #[9, 9] false) := ⟨Tryz.underlying101⟩
instance : Zec Tryz.prog 101 (Go.Value.nilFunc) := ⟨ze101⟩
instance : Szc Tryz.prog 102 1 := ⟨sz102⟩
instance : Bsc Tryz.prog 102 8 := ⟨bs102⟩
instance : Und Tryz.prog 102 (Go.TypeDesc.func #[26, 105] #[26, 31] false) := ⟨Tryz.underlying102⟩
instance : Zec Tryz.prog 102 (Go.Value.nilFunc) := ⟨ze102⟩
instance : Szc Tryz.prog 103 1 := ⟨sz103⟩
instance : Bsc Tryz.prog 103 8 := ⟨bs103⟩
instance : Und Tryz.prog 103 (Go.TypeDesc.func #[] #[2] false) := ⟨Tryz.underlying103⟩
instance : Zec Tryz.prog 103 (Go.Value.nilFunc) := ⟨ze103⟩
instance : Szc Tryz.prog 104 1 := ⟨sz104⟩
instance : Bsc Tryz.prog 104 8 := ⟨bs104⟩
instance : Und Tryz.prog 104 (Go.TypeDesc.func #[78, 78, 78] #[78] false) := ⟨Tryz.underlying104⟩
instance : Zec Tryz.prog 104 (Go.Value.nilFunc) := ⟨ze104⟩
instance : Szc Tryz.prog 105 1 := ⟨sz105⟩
instance : Bsc Tryz.prog 105 8 := ⟨bs105⟩
instance : Und Tryz.prog 105 (Go.TypeDesc.func #[59, 59] #[31] false) := ⟨Tryz.underlying105⟩
instance : Zec Tryz.prog 105 (Go.Value.nilFunc) := ⟨ze105⟩
instance : Szc Tryz.prog 106 1 := ⟨sz106⟩
instance : Bsc Tryz.prog 106 16 := ⟨bs106⟩
instance : Und Tryz.prog 106 (Go.TypeDesc.struct #[{ name := "of", type := 9, offset := 0, embedded := false, tag := "", pkgPath := "cubit/prefix", byteOffset := 0 }]) := ⟨Tryz.underlying106⟩
instance : Zec Tryz.prog 106 (Go.Value.agg #[(Go.Value.string { data := #[] })]) := ⟨ze106⟩
instance : Szc Tryz.prog 107 1 := ⟨sz107⟩
instance : Bsc Tryz.prog 107 16 := ⟨bs107⟩
instance : Und Tryz.prog 107 (Go.TypeDesc.struct #[{ name := "of", type := 9, offset := 0, embedded := false, tag := "", pkgPath := "cubit/prefix", byteOffset := 0 }]) := ⟨Tryz.underlying107⟩
instance : Zec Tryz.prog 107 (Go.Value.agg #[(Go.Value.string { data := #[] })]) := ⟨ze107⟩
instance : Szc Tryz.prog 108 1 := ⟨sz108⟩
instance : Bsc Tryz.prog 108 0 := ⟨bs108⟩
instance : Und Tryz.prog 108 (Go.TypeDesc.tuple #[107, 4]) := ⟨Tryz.underlying108⟩
instance : Zec Tryz.prog 108 (Go.Value.tuple #[(Go.Value.agg #[(Go.Value.string { data := #[] })]), (Go.Value.bool false)]) := ⟨ze108⟩
instance : Szc Tryz.prog 109 1 := ⟨sz109⟩
instance : Bsc Tryz.prog 109 8 := ⟨bs109⟩
instance : Und Tryz.prog 109 (Go.TypeDesc.map 9 107) := ⟨Tryz.underlying109⟩
instance : Zec Tryz.prog 109 (Go.Value.map none) := ⟨ze109⟩
instance : Szc Tryz.prog 110 1 := ⟨sz110⟩
instance : Bsc Tryz.prog 110 8 := ⟨bs110⟩
instance : Und Tryz.prog 110 (Go.TypeDesc.func #[] #[109] false) := ⟨Tryz.underlying110⟩
instance : Zec Tryz.prog 110 (Go.Value.nilFunc) := ⟨ze110⟩
instance : Szc Tryz.prog 111 1 := ⟨sz111⟩
instance : Bsc Tryz.prog 111 8 := ⟨bs111⟩
instance : Und Tryz.prog 111 (Go.TypeDesc.func #[9] #[78] false) := ⟨Tryz.underlying111⟩
instance : Zec Tryz.prog 111 (Go.Value.nilFunc) := ⟨ze111⟩
instance : Szc Tryz.prog 112 1 := ⟨sz112⟩
instance : Bsc Tryz.prog 112 8 := ⟨bs112⟩
instance : Und Tryz.prog 112 (Go.TypeDesc.func #[78, 78, 78, 78] #[78] false) := ⟨Tryz.underlying112⟩
instance : Zec Tryz.prog 112 (Go.Value.nilFunc) := ⟨ze112⟩
instance : Szc Tryz.prog 113 1 := ⟨sz113⟩
instance : Bsc Tryz.prog 113 8 := ⟨bs113⟩
instance : Und Tryz.prog 113 (Go.TypeDesc.func #[78] #[78] false) := ⟨Tryz.underlying113⟩
instance : Zec Tryz.prog 113 (Go.Value.nilFunc) := ⟨ze113⟩
instance : Szc Tryz.prog 114 1 := ⟨sz114⟩
instance : Bsc Tryz.prog 114 8 := ⟨bs114⟩
instance : Und Tryz.prog 114 (Go.TypeDesc.func #[78] #[3] false) := ⟨Tryz.underlying114⟩
instance : Zec Tryz.prog 114 (Go.Value.nilFunc) := ⟨ze114⟩
instance : Szc Tryz.prog 115 1 := ⟨sz115⟩
instance : Bsc Tryz.prog 115 24 := ⟨bs115⟩
instance : Und Tryz.prog 115 (Go.TypeDesc.slice 5) := ⟨Tryz.underlying115⟩
instance : Zec Tryz.prog 115 (Go.Value.slice none 0 0) := ⟨ze115⟩
instance : Szc Tryz.prog 116 1 := ⟨sz116⟩
instance : Bsc Tryz.prog 116 4 := ⟨bs116⟩
instance : Und Tryz.prog 116 (Go.TypeDesc.int Go.IntKind.u32) := ⟨Tryz.underlying116⟩
instance : Zec Tryz.prog 116 (Go.Value.int Go.IntKind.u32 0) := ⟨ze116⟩
instance : Szc Tryz.prog 117 1 := ⟨sz117⟩
instance : Bsc Tryz.prog 117 0 := ⟨bs117⟩
instance : Und Tryz.prog 117 (Go.TypeDesc.tuple #[86, 116]) := ⟨Tryz.underlying117⟩
instance : Zec Tryz.prog 117 (Go.Value.tuple #[(Go.Value.slice none 0 0), (Go.Value.int Go.IntKind.u32 0)]) := ⟨ze117⟩
instance : Szc Tryz.prog 118 1 := ⟨sz118⟩
instance : Bsc Tryz.prog 118 8 := ⟨bs118⟩
instance : Und Tryz.prog 118 (Go.TypeDesc.func #[86, 116] #[86, 116] false) := ⟨Tryz.underlying118⟩
instance : Zec Tryz.prog 118 (Go.Value.nilFunc) := ⟨ze118⟩
instance : Szc Tryz.prog 119 1 := ⟨sz119⟩
instance : Bsc Tryz.prog 119 8 := ⟨bs119⟩
instance : Und Tryz.prog 119 (Go.TypeDesc.func #[86] #[86] false) := ⟨Tryz.underlying119⟩
instance : Zec Tryz.prog 119 (Go.Value.nilFunc) := ⟨ze119⟩
instance : Szc Tryz.prog 120 1 := ⟨sz120⟩
instance : Bsc Tryz.prog 120 8 := ⟨bs120⟩
instance : Und Tryz.prog 120 (Go.TypeDesc.func #[115] #[] false) := ⟨Tryz.underlying120⟩
instance : Zec Tryz.prog 120 (Go.Value.nilFunc) := ⟨ze120⟩
instance : Szc Tryz.prog 121 1 := ⟨sz121⟩
instance : Bsc Tryz.prog 121 8 := ⟨bs121⟩
instance : Und Tryz.prog 121 (Go.TypeDesc.func #[59] #[59] false) := ⟨Tryz.underlying121⟩
instance : Zec Tryz.prog 121 (Go.Value.nilFunc) := ⟨ze121⟩
instance : Szc Tryz.prog 122 1 := ⟨sz122⟩
instance : Bsc Tryz.prog 122 8 := ⟨bs122⟩
instance : Und Tryz.prog 122 (Go.TypeDesc.func #[59] #[3] false) := ⟨Tryz.underlying122⟩
instance : Zec Tryz.prog 122 (Go.Value.nilFunc) := ⟨ze122⟩
instance : Szc Tryz.prog 123 1 := ⟨sz123⟩
instance : Bsc Tryz.prog 123 24 := ⟨bs123⟩
instance : Und Tryz.prog 123 (Go.TypeDesc.slice 26) := ⟨Tryz.underlying123⟩
instance : Zec Tryz.prog 123 (Go.Value.slice none 0 0) := ⟨ze123⟩
instance : Szc Tryz.prog 124 1 := ⟨sz124⟩
instance : Bsc Tryz.prog 124 8 := ⟨bs124⟩
instance : Und Tryz.prog 124 (Go.TypeDesc.func #[4, 86] #[78] false) := ⟨Tryz.underlying124⟩
instance : Zec Tryz.prog 124 (Go.Value.nilFunc) := ⟨ze124⟩
instance : Szc Tryz.prog 125 1 := ⟨sz125⟩
instance : Bsc Tryz.prog 125 8 := ⟨bs125⟩
instance : Und Tryz.prog 125 (Go.TypeDesc.int Go.IntKind.u64) := ⟨Tryz.underlying125⟩
instance : Zec Tryz.prog 125 (Go.Value.int Go.IntKind.u64 0) := ⟨ze125⟩
instance : Szc Tryz.prog 126 1 := ⟨sz126⟩
instance : Bsc Tryz.prog 126 8 := ⟨bs126⟩
instance : Und Tryz.prog 126 (Go.TypeDesc.int Go.IntKind.u64) := ⟨Tryz.underlying126⟩
instance : Zec Tryz.prog 126 (Go.Value.int Go.IntKind.u64 0) := ⟨ze126⟩
instance : Szc Tryz.prog 127 3 := ⟨sz127⟩
instance : Bsc Tryz.prog 127 40 := ⟨bs127⟩
instance : Und Tryz.prog 127 (Go.TypeDesc.struct #[{ name := "Neg", type := 4, offset := 0, embedded := false, tag := "", pkgPath := "", byteOffset := 0 }, { name := "A", type := 9, offset := 1, embedded := false, tag := "", pkgPath := "", byteOffset := 8 }, { name := "B", type := 9, offset := 2, embedded := false, tag := "", pkgPath := "", byteOffset := 24 }]) := ⟨Tryz.underlying127⟩
instance : Zec Tryz.prog 127 (Go.Value.agg #[(Go.Value.bool false), (Go.Value.string { data := #[] }), (Go.Value.string { data := #[] })]) := ⟨ze127⟩
instance : Szc Tryz.prog 128 3 := ⟨sz128⟩
instance : Bsc Tryz.prog 128 40 := ⟨bs128⟩
instance : Und Tryz.prog 128 (Go.TypeDesc.struct #[{ name := "Neg", type := 4, offset := 0, embedded := false, tag := "", pkgPath := "", byteOffset := 0 }, { name := "A", type := 9, offset := 1, embedded := false, tag := "", pkgPath := "", byteOffset := 8 }, { name := "B", type := 9, offset := 2, embedded := false, tag := "", pkgPath := "", byteOffset := 24 }]) := ⟨Tryz.underlying128⟩
instance : Zec Tryz.prog 128 (Go.Value.agg #[(Go.Value.bool false), (Go.Value.string { data := #[] }), (Go.Value.string { data := #[] })]) := ⟨ze128⟩
instance : Szc Tryz.prog 129 1 := ⟨sz129⟩
instance : Bsc Tryz.prog 129 0 := ⟨bs129⟩
instance : Und Tryz.prog 129 (Go.TypeDesc.tuple #[128, 4]) := ⟨Tryz.underlying129⟩
instance : Zec Tryz.prog 129 (Go.Value.tuple #[(Go.Value.agg #[(Go.Value.bool false), (Go.Value.string { data := #[] }), (Go.Value.string { data := #[] })]), (Go.Value.bool false)]) := ⟨ze129⟩
instance : Szc Tryz.prog 130 1 := ⟨sz130⟩
instance : Bsc Tryz.prog 130 8 := ⟨bs130⟩
instance : Und Tryz.prog 130 (Go.TypeDesc.func #[26] #[128, 4] false) := ⟨Tryz.underlying130⟩
instance : Zec Tryz.prog 130 (Go.Value.nilFunc) := ⟨ze130⟩
instance : Szc Tryz.prog 131 1 := ⟨sz131⟩
instance : Bsc Tryz.prog 131 0 := ⟨bs131⟩
instance : Und Tryz.prog 131 (Go.TypeDesc.tuple #[125, 4]) := ⟨Tryz.underlying131⟩
instance : Zec Tryz.prog 131 (Go.Value.tuple #[(Go.Value.int Go.IntKind.u64 0), (Go.Value.bool false)]) := ⟨ze131⟩
instance : Szc Tryz.prog 132 1 := ⟨sz132⟩
instance : Bsc Tryz.prog 132 8 := ⟨bs132⟩
instance : Und Tryz.prog 132 (Go.TypeDesc.func #[128] #[125, 4] false) := ⟨Tryz.underlying132⟩
instance : Zec Tryz.prog 132 (Go.Value.nilFunc) := ⟨ze132⟩
instance : Szc Tryz.prog 133 1 := ⟨sz133⟩
instance : Bsc Tryz.prog 133 8 := ⟨bs133⟩
instance : Und Tryz.prog 133 (Go.TypeDesc.func #[125] #[95] false) := ⟨Tryz.underlying133⟩
instance : Zec Tryz.prog 133 (Go.Value.nilFunc) := ⟨ze133⟩
instance : Szc Tryz.prog 134 1 := ⟨sz134⟩
instance : Bsc Tryz.prog 134 8 := ⟨bs134⟩
instance : Und Tryz.prog 134 (Go.TypeDesc.func #[135] #[9] false) := ⟨Tryz.underlying134⟩
instance : Zec Tryz.prog 134 (Go.Value.nilFunc) := ⟨ze134⟩
instance : Szc Tryz.prog 135 1 := ⟨sz135⟩
instance : Bsc Tryz.prog 135 24 := ⟨bs135⟩
instance : Und Tryz.prog 135 (Go.TypeDesc.slice 3) := ⟨Tryz.underlying135⟩
instance : Zec Tryz.prog 135 (Go.Value.slice none 0 0) := ⟨ze135⟩
instance : Szc Tryz.prog 136 1 := ⟨sz136⟩
instance : Bsc Tryz.prog 136 8 := ⟨bs136⟩
instance : Und Tryz.prog 136 (Go.TypeDesc.func #[135, 135] #[135] false) := ⟨Tryz.underlying136⟩
instance : Zec Tryz.prog 136 (Go.Value.nilFunc) := ⟨ze136⟩
instance : Szc Tryz.prog 137 1 := ⟨sz137⟩
instance : Bsc Tryz.prog 137 8 := ⟨bs137⟩
instance : Und Tryz.prog 137 (Go.TypeDesc.func #[9] #[135] false) := ⟨Tryz.underlying137⟩
instance : Zec Tryz.prog 137 (Go.Value.nilFunc) := ⟨ze137⟩
instance : Szc Tryz.prog 138 1 := ⟨sz138⟩
instance : Bsc Tryz.prog 138 8 := ⟨bs138⟩
instance : Und Tryz.prog 138 (Go.TypeDesc.func #[135, 135] #[4] false) := ⟨Tryz.underlying138⟩
instance : Zec Tryz.prog 138 (Go.Value.nilFunc) := ⟨ze138⟩
instance : Szc Tryz.prog 139 1 := ⟨sz139⟩
instance : Bsc Tryz.prog 139 8 := ⟨bs139⟩
instance : Und Tryz.prog 139 (Go.TypeDesc.func #[135, 135, 3] #[3] false) := ⟨Tryz.underlying139⟩
instance : Zec Tryz.prog 139 (Go.Value.nilFunc) := ⟨ze139⟩
instance : Szc Tryz.prog 140 1 := ⟨sz140⟩
instance : Bsc Tryz.prog 140 8 := ⟨bs140⟩
instance : Und Tryz.prog 140 (Go.TypeDesc.func #[135, 135, 3, 3] #[] false) := ⟨Tryz.underlying140⟩
instance : Zec Tryz.prog 140 (Go.Value.nilFunc) := ⟨ze140⟩
instance : Szc Tryz.prog 141 1 := ⟨sz141⟩
instance : Bsc Tryz.prog 141 8 := ⟨bs141⟩
instance : Und Tryz.prog 141 (Go.TypeDesc.func #[135] #[135] false) := ⟨Tryz.underlying141⟩
instance : Zec Tryz.prog 141 (Go.Value.nilFunc) := ⟨ze141⟩
instance : Szc Tryz.prog 142 1 := ⟨sz142⟩
instance : Bsc Tryz.prog 142 8 := ⟨bs142⟩
instance : Und Tryz.prog 142 (Go.TypeDesc.func #[116] #[3] false) := ⟨Tryz.underlying142⟩
instance : Zec Tryz.prog 142 (Go.Value.nilFunc) := ⟨ze142⟩
instance : Szc Tryz.prog 143 1 := ⟨sz143⟩
instance : Bsc Tryz.prog 143 8 := ⟨bs143⟩
instance : Und Tryz.prog 143 (Go.TypeDesc.func #[3] #[126] false) := ⟨Tryz.underlying143⟩
instance : Zec Tryz.prog 143 (Go.Value.nilFunc) := ⟨ze143⟩
instance : Szc Tryz.prog 144 1 := ⟨sz144⟩
instance : Bsc Tryz.prog 144 0 := ⟨bs144⟩
instance : Und Tryz.prog 144 (Go.TypeDesc.tuple #[9, 4]) := ⟨Tryz.underlying144⟩
instance : Zec Tryz.prog 144 (Go.Value.tuple #[(Go.Value.string { data := #[] }), (Go.Value.bool false)]) := ⟨ze144⟩
instance : Szc Tryz.prog 145 1 := ⟨sz145⟩
instance : Bsc Tryz.prog 145 8 := ⟨bs145⟩
instance : Und Tryz.prog 145 (Go.TypeDesc.func #[9, 9] #[9, 4] false) := ⟨Tryz.underlying145⟩
instance : Zec Tryz.prog 145 (Go.Value.nilFunc) := ⟨ze145⟩
instance : Szc Tryz.prog 146 1 := ⟨sz146⟩
instance : Bsc Tryz.prog 146 8 := ⟨bs146⟩
instance : Und Tryz.prog 146 (Go.TypeDesc.func #[9] #[4] false) := ⟨Tryz.underlying146⟩
instance : Zec Tryz.prog 146 (Go.Value.nilFunc) := ⟨ze146⟩
instance : Szc Tryz.prog 147 1 := ⟨sz147⟩
instance : Bsc Tryz.prog 147 0 := ⟨bs147⟩
instance : Und Tryz.prog 147 (Go.TypeDesc.tuple #[78, 4]) := ⟨Tryz.underlying147⟩
instance : Zec Tryz.prog 147 (Go.Value.tuple #[(Go.Value.pointer none), (Go.Value.bool false)]) := ⟨ze147⟩
instance : Szc Tryz.prog 148 1 := ⟨sz148⟩
instance : Bsc Tryz.prog 148 8 := ⟨bs148⟩
instance : Und Tryz.prog 148 (Go.TypeDesc.func #[9, 3] #[78, 4] false) := ⟨Tryz.underlying148⟩
instance : Zec Tryz.prog 148 (Go.Value.nilFunc) := ⟨ze148⟩
instance : Szc Tryz.prog 149 1 := ⟨sz149⟩
instance : Bsc Tryz.prog 149 0 := ⟨bs149⟩
instance : Und Tryz.prog 149 (Go.TypeDesc.tuple #[86, 86]) := ⟨Tryz.underlying149⟩
instance : Zec Tryz.prog 149 (Go.Value.tuple #[(Go.Value.slice none 0 0), (Go.Value.slice none 0 0)]) := ⟨ze149⟩
instance : Szc Tryz.prog 150 1 := ⟨sz150⟩
instance : Bsc Tryz.prog 150 8 := ⟨bs150⟩
instance : Und Tryz.prog 150 (Go.TypeDesc.func #[86, 86] #[86, 86] false) := ⟨Tryz.underlying150⟩
instance : Zec Tryz.prog 150 (Go.Value.nilFunc) := ⟨ze150⟩
instance : Szc Tryz.prog 151 1 := ⟨sz151⟩
instance : Bsc Tryz.prog 151 8 := ⟨bs151⟩
instance : Und Tryz.prog 151 (Go.TypeDesc.func #[86, 86] #[3] false) := ⟨Tryz.underlying151⟩
instance : Zec Tryz.prog 151 (Go.Value.nilFunc) := ⟨ze151⟩
instance : Szc Tryz.prog 152 1 := ⟨sz152⟩
instance : Bsc Tryz.prog 152 8 := ⟨bs152⟩
instance : Und Tryz.prog 152 (Go.TypeDesc.func #[128] #[3] false) := ⟨Tryz.underlying152⟩
instance : Zec Tryz.prog 152 (Go.Value.nilFunc) := ⟨ze152⟩
instance : Szc Tryz.prog 153 1 := ⟨sz153⟩
instance : Bsc Tryz.prog 153 8 := ⟨bs153⟩
instance : Und Tryz.prog 153 (Go.TypeDesc.func #[128, 3] #[9, 9] false) := ⟨Tryz.underlying153⟩
instance : Zec Tryz.prog 153 (Go.Value.nilFunc) := ⟨ze153⟩
instance : Szc Tryz.prog 154 1 := ⟨sz154⟩
instance : Bsc Tryz.prog 154 8 := ⟨bs154⟩
instance : Und Tryz.prog 154 (Go.TypeDesc.func #[9] #[125] false) := ⟨Tryz.underlying154⟩
instance : Zec Tryz.prog 154 (Go.Value.nilFunc) := ⟨ze154⟩
instance : Szc Tryz.prog 155 1 := ⟨sz155⟩
instance : Bsc Tryz.prog 155 8 := ⟨bs155⟩
instance : Und Tryz.prog 155 (Go.TypeDesc.func #[86, 116, 116] #[86] false) := ⟨Tryz.underlying155⟩
instance : Zec Tryz.prog 155 (Go.Value.nilFunc) := ⟨ze155⟩
instance : Szc Tryz.prog 156 1 := ⟨sz156⟩
instance : Bsc Tryz.prog 156 8 := ⟨bs156⟩
instance : Und Tryz.prog 156 (Go.TypeDesc.func #[86, 3] #[86] false) := ⟨Tryz.underlying156⟩
instance : Zec Tryz.prog 156 (Go.Value.nilFunc) := ⟨ze156⟩
instance : Szc Tryz.prog 157 1 := ⟨sz157⟩
instance : Bsc Tryz.prog 157 8 := ⟨bs157⟩
instance : Und Tryz.prog 157 (Go.TypeDesc.func #[86, 86] #[116] false) := ⟨Tryz.underlying157⟩
instance : Zec Tryz.prog 157 (Go.Value.nilFunc) := ⟨ze157⟩
instance : Szc Tryz.prog 158 1 := ⟨sz158⟩
instance : Bsc Tryz.prog 158 8 := ⟨bs158⟩
instance : Und Tryz.prog 158 (Go.TypeDesc.func #[9, 9] #[4] false) := ⟨Tryz.underlying158⟩
instance : Zec Tryz.prog 158 (Go.Value.nilFunc) := ⟨ze158⟩
instance : Szc Tryz.prog 159 1 := ⟨sz159⟩
instance : Bsc Tryz.prog 159 8 := ⟨bs159⟩
instance : Und Tryz.prog 159 (Go.TypeDesc.func #[128, 3] #[4] false) := ⟨Tryz.underlying159⟩
instance : Zec Tryz.prog 159 (Go.Value.nilFunc) := ⟨ze159⟩
instance : Szc Tryz.prog 160 1 := ⟨sz160⟩
instance : Bsc Tryz.prog 160 8 := ⟨bs160⟩
instance : Und Tryz.prog 160 (Go.TypeDesc.func #[3] #[9] false) := ⟨Tryz.underlying160⟩
instance : Zec Tryz.prog 160 (Go.Value.nilFunc) := ⟨ze160⟩
instance : Szc Tryz.prog 161 4 := ⟨sz161⟩
instance : Bsc Tryz.prog 161 40 := ⟨bs161⟩
instance : Und Tryz.prog 161 (Go.TypeDesc.struct #[{ name := "_interface", type := 17, offset := 0, embedded := false, tag := "", pkgPath := "runtime", byteOffset := 0 }, { name := "concrete", type := 17, offset := 1, embedded := false, tag := "", pkgPath := "runtime", byteOffset := 8 }, { name := "asserted", type := 17, offset := 2, embedded := false, tag := "", pkgPath := "runtime", byteOffset := 16 }, { name := "missingMethod", type := 9, offset := 3, embedded := false, tag := "", pkgPath := "runtime", byteOffset := 24 }]) := ⟨Tryz.underlying161⟩
instance : Zec Tryz.prog 161 (Go.Value.agg #[(Go.Value.pointer none), (Go.Value.pointer none), (Go.Value.pointer none), (Go.Value.string { data := #[] })]) := ⟨ze161⟩
instance : Szc Tryz.prog 162 4 := ⟨sz162⟩
instance : Bsc Tryz.prog 162 40 := ⟨bs162⟩
instance : Und Tryz.prog 162 (Go.TypeDesc.struct #[{ name := "_interface", type := 17, offset := 0, embedded := false, tag := "", pkgPath := "runtime", byteOffset := 0 }, { name := "concrete", type := 17, offset := 1, embedded := false, tag := "", pkgPath := "runtime", byteOffset := 8 }, { name := "asserted", type := 17, offset := 2, embedded := false, tag := "", pkgPath := "runtime", byteOffset := 16 }, { name := "missingMethod", type := 9, offset := 3, embedded := false, tag := "", pkgPath := "runtime", byteOffset := 24 }]) := ⟨Tryz.underlying162⟩
instance : Zec Tryz.prog 162 (Go.Value.agg #[(Go.Value.pointer none), (Go.Value.pointer none), (Go.Value.pointer none), (Go.Value.string { data := #[] })]) := ⟨ze162⟩
instance : Szc Tryz.prog 163 0 := ⟨sz163⟩
instance : Bsc Tryz.prog 163 0 := ⟨bs163⟩
instance : Und Tryz.prog 163 (Go.TypeDesc.array 0 16) := ⟨Tryz.underlying163⟩
instance : Zec Tryz.prog 163 (Go.Value.agg #[]) := ⟨ze163⟩
instance : Szc Tryz.prog 164 0 := ⟨sz164⟩
instance : Bsc Tryz.prog 164 0 := ⟨bs164⟩
instance : Und Tryz.prog 164 (Go.TypeDesc.struct #[{ name := "_", type := 163, offset := 0, embedded := false, tag := "", pkgPath := "runtime", byteOffset := 0 }]) := ⟨Tryz.underlying164⟩
instance : Zec Tryz.prog 164 (Go.Value.agg #[]) := ⟨ze164⟩
instance : Szc Tryz.prog 165 0 := ⟨sz165⟩
instance : Bsc Tryz.prog 165 0 := ⟨bs165⟩
instance : Und Tryz.prog 165 (Go.TypeDesc.struct #[{ name := "_", type := 163, offset := 0, embedded := false, tag := "", pkgPath := "runtime", byteOffset := 0 }]) := ⟨Tryz.underlying165⟩
instance : Zec Tryz.prog 165 (Go.Value.agg #[]) := ⟨ze165⟩
instance : Szc Tryz.prog 166 1 := ⟨sz166⟩
instance : Bsc Tryz.prog 166 1 := ⟨bs166⟩
instance : Und Tryz.prog 166 (Go.TypeDesc.int Go.IntKind.u8) := ⟨Tryz.underlying166⟩
instance : Zec Tryz.prog 166 (Go.Value.int Go.IntKind.u8 0) := ⟨ze166⟩
instance : Szc Tryz.prog 167 1 := ⟨sz167⟩
instance : Bsc Tryz.prog 167 1 := ⟨bs167⟩
instance : Und Tryz.prog 167 (Go.TypeDesc.int Go.IntKind.u8) := ⟨Tryz.underlying167⟩
instance : Zec Tryz.prog 167 (Go.Value.int Go.IntKind.u8 0) := ⟨ze167⟩
instance : Szc Tryz.prog 168 1 := ⟨sz168⟩
instance : Bsc Tryz.prog 168 8 := ⟨bs168⟩
instance : Und Tryz.prog 168 (Go.TypeDesc.func #[174, 174] #[4] false) := ⟨Tryz.underlying168⟩
instance : Zec Tryz.prog 168 (Go.Value.nilFunc) := ⟨ze168⟩
instance : Szc Tryz.prog 169 1 := ⟨sz169⟩
instance : Bsc Tryz.prog 169 8 := ⟨bs169⟩
instance : Und Tryz.prog 169 (Go.TypeDesc.pointer 5) := ⟨Tryz.underlying169⟩
instance : Zec Tryz.prog 169 (Go.Value.pointer none) := ⟨ze169⟩
instance : Szc Tryz.prog 170 1 := ⟨sz170⟩
instance : Bsc Tryz.prog 170 4 := ⟨bs170⟩
instance : Und Tryz.prog 170 (Go.TypeDesc.int Go.IntKind.i32) := ⟨Tryz.underlying170⟩
instance : Zec Tryz.prog 170 (Go.Value.int Go.IntKind.i32 0) := ⟨ze170⟩
instance : Szc Tryz.prog 171 1 := ⟨sz171⟩
instance : Bsc Tryz.prog 171 4 := ⟨bs171⟩
instance : Und Tryz.prog 171 (Go.TypeDesc.int Go.IntKind.i32) := ⟨Tryz.underlying171⟩
instance : Zec Tryz.prog 171 (Go.Value.int Go.IntKind.i32 0) := ⟨ze171⟩
instance : Szc Tryz.prog 172 11 := ⟨sz172⟩
instance : Bsc Tryz.prog 172 48 := ⟨bs172⟩
instance : Und Tryz.prog 172 (Go.TypeDesc.struct #[{ name := "Size_", type := 12, offset := 0, embedded := false, tag := "", pkgPath := "", byteOffset := 0 }, { name := "PtrBytes", type := 12, offset := 1, embedded := false, tag := "", pkgPath := "", byteOffset := 8 }, { name := "Hash", type := 116, offset := 2, embedded := false, tag := "", pkgPath := "", byteOffset := 16 }, { name := "TFlag", type := 166, offset := 3, embedded := false, tag := "", pkgPath := "", byteOffset := 20 }, { name := "Align_", type := 5, offset := 4, embedded := false, tag := "", pkgPath := "", byteOffset := 21 }, { name := "FieldAlign_", type := 5, offset := 5, embedded := false, tag := "", pkgPath := "", byteOffset := 22 }, { name := "Kind_", type := 167, offset := 6, embedded := false, tag := "", pkgPath := "", byteOffset := 23 }, { name := "Equal", type := 168, offset := 7, embedded := false, tag := "", pkgPath := "", byteOffset := 24 }, { name := "GCData", type := 169, offset := 8, embedded := false, tag := "", pkgPath := "", byteOffset := 32 }, { name := "Str", type := 170, offset := 9, embedded := false, tag := "", pkgPath := "", byteOffset := 40 }, { name := "PtrToThis", type := 171, offset := 10, embedded := false, tag := "", pkgPath := "", byteOffset := 44 }]) := ⟨Tryz.underlying172⟩
instance : Zec Tryz.prog 172 (Go.Value.agg #[(Go.Value.int Go.IntKind.u64 0), (Go.Value.int Go.IntKind.u64 0), (Go.Value.int Go.IntKind.u32 0), (Go.Value.int Go.IntKind.u8 0), (Go.Value.int Go.IntKind.u8 0), (Go.Value.int Go.IntKind.u8 0), (Go.Value.int Go.IntKind.u8 0), Go.Value.nilFunc, (Go.Value.pointer none), (Go.Value.int Go.IntKind.i32 0), (Go.Value.int Go.IntKind.i32 0)]) := ⟨ze172⟩
instance : Szc Tryz.prog 173 11 := ⟨sz173⟩
instance : Bsc Tryz.prog 173 48 := ⟨bs173⟩
instance : Und Tryz.prog 173 (Go.TypeDesc.struct #[{ name := "Size_", type := 12, offset := 0, embedded := false, tag := "", pkgPath := "", byteOffset := 0 }, { name := "PtrBytes", type := 12, offset := 1, embedded := false, tag := "", pkgPath := "", byteOffset := 8 }, { name := "Hash", type := 116, offset := 2, embedded := false, tag := "", pkgPath := "", byteOffset := 16 }, { name := "TFlag", type := 166, offset := 3, embedded := false, tag := "", pkgPath := "", byteOffset := 20 }, { name := "Align_", type := 5, offset := 4, embedded := false, tag := "", pkgPath := "", byteOffset := 21 }, { name := "FieldAlign_", type := 5, offset := 5, embedded := false, tag := "", pkgPath := "", byteOffset := 22 }, { name := "Kind_", type := 167, offset := 6, embedded := false, tag := "", pkgPath := "", byteOffset := 23 }, { name := "Equal", type := 168, offset := 7, embedded := false, tag := "", pkgPath := "", byteOffset := 24 }, { name := "GCData", type := 169, offset := 8, embedded := false, tag := "", pkgPath := "", byteOffset := 32 }, { name := "Str", type := 170, offset := 9, embedded := false, tag := "", pkgPath := "", byteOffset := 40 }, { name := "PtrToThis", type := 171, offset := 10, embedded := false, tag := "", pkgPath := "", byteOffset := 44 }]) := ⟨Tryz.underlying173⟩
instance : Zec Tryz.prog 173 (Go.Value.agg #[(Go.Value.int Go.IntKind.u64 0), (Go.Value.int Go.IntKind.u64 0), (Go.Value.int Go.IntKind.u32 0), (Go.Value.int Go.IntKind.u8 0), (Go.Value.int Go.IntKind.u8 0), (Go.Value.int Go.IntKind.u8 0), (Go.Value.int Go.IntKind.u8 0), Go.Value.nilFunc, (Go.Value.pointer none), (Go.Value.int Go.IntKind.i32 0), (Go.Value.int Go.IntKind.i32 0)]) := ⟨ze173⟩
instance : Szc Tryz.prog 174 1 := ⟨sz174⟩
instance : Bsc Tryz.prog 174 8 := ⟨bs174⟩
instance : Und Tryz.prog 174 Go.TypeDesc.unsafePointer := ⟨Tryz.underlying174⟩
instance : Zec Tryz.prog 174 (Go.Value.pointer none) := ⟨ze174⟩
theorem bld26_  : bldv Tryz.prog 26 [] = some (.agg #[(Go.Value.string { data := #[] }), (Go.Value.string { data := #[] })]) := by kernel_rfl
theorem bld26_0_1 (a0 : ByteArray) (a1 : ByteArray) : bldv Tryz.prog 26 [(0, (.string a0)), (1, (.string a1))] = some (.agg #[(.string a0), (.string a1)]) := by kernel_rfl
theorem bld28_0 (a0 : ByteArray) : bldv Tryz.prog 28 [(0, (.string a0))] = some (.agg #[(.string a0), (Go.Value.string { data := #[] }), (Go.Value.int Go.IntKind.i64 0), (Go.Value.int Go.IntKind.i64 0), (Go.Value.int Go.IntKind.i64 0), (Go.Value.int Go.IntKind.i64 0), (Go.Value.int Go.IntKind.i64 0), (Go.Value.int Go.IntKind.i64 0), (Go.Value.int Go.IntKind.i64 0), (Go.Value.int Go.IntKind.i64 0), (Go.Value.string { data := #[] }), (Go.Value.string { data := #[] }), (Go.Value.string { data := #[] }), (Go.Value.string { data := #[] }), (Go.Value.int Go.IntKind.i64 0)]) := by kernel_rfl
theorem bld30_  : bldv Tryz.prog 30 [] = some (.agg #[(Go.Value.string { data := #[] }), (Go.Value.string { data := #[] }), (Go.Value.string { data := #[] }), (Go.Value.string { data := #[] }), (Go.Value.bool false)]) := by kernel_rfl
theorem bld30_0_1_2_3 (a0 : ByteArray) (a1 : ByteArray) (a20 a21 : Value) (a3 : Bool) : bldv Tryz.prog 30 [(0, (.string a0)), (1, (.string a1)), (2, (.agg #[a20, a21])), (3, (.bool a3))] = some (.agg #[(.string a0), (.string a1), a20, a21, (.bool a3)]) := by kernel_rfl
theorem bld48_0_1 (a0f : Fn) (a0x a0y : Array Value) (a1f : Fn) (a1x a1y : Array Value) : bldv Tryz.prog 48 [(0, (.func a0f a0x a0y)), (1, (.func a1f a1x a1y))] = some (.agg #[(.func a0f a0x a0y), (.func a1f a1x a1y)]) := by kernel_rfl
theorem bld66_0_1_2 (a0 : ByteArray) (a1 : ByteArray) (a2 : Int) : bldv Tryz.prog 66 [(0, (.string a0)), (1, (.string a1)), (2, (.int Go.IntKind.i64 a2))] = some (.agg #[(.string a0), (.string a1), (.int Go.IntKind.i64 a2)]) := by kernel_rfl
theorem bld72_0_1_2_3 (a0 : ByteArray) (a1 : ByteArray) (a2 : Int) (a3 : Bool) : bldv Tryz.prog 72 [(0, (.string a0)), (1, (.string a1)), (2, (.int Go.IntKind.i64 a2)), (3, (.bool a3))] = some (.agg #[(.string a0), (.string a1), (.int Go.IntKind.i64 a2), (.bool a3)]) := by kernel_rfl
theorem bld107_0 (a0 : ByteArray) : bldv Tryz.prog 107 [(0, (.string a0))] = some (.agg #[(.string a0)]) := by kernel_rfl
theorem bld128_  : bldv Tryz.prog 128 [] = some (.agg #[(Go.Value.bool false), (Go.Value.string { data := #[] }), (Go.Value.string { data := #[] })]) := by kernel_rfl
theorem bld128_1_2 (a0 : ByteArray) (a1 : ByteArray) : bldv Tryz.prog 128 [(1, (.string a0)), (2, (.string a1))] = some (.agg #[(Go.Value.bool false), (.string a0), (.string a1)]) := by kernel_rfl
theorem mixed : Tryz.prog.follows .mixedOrders = true := by kernel_rfl
end Go.Proofs.YtnhbipachchlgaaGreat.HL
