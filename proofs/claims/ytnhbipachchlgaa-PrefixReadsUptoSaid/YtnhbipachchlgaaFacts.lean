/- Facts: closed facts of the seat's types and functions, each by the kernel. No condition. -/
import Derived.Test.YtnhbipachchlgaaHLm
import Derived.Test.YtnhbipachchlgaaProg
namespace Go.Proofs.Ytnhbipachchlgaa.HL
open Go
set_option linter.unusedVariables false
theorem sz0 : szOf Try.prog 0 = some 1 := by kernel_rfl
theorem bs0 : bsOf Try.prog 0 = some 0 := by kernel_rfl
theorem ze0 : zeroOf Try.prog 0 = some (Go.Value.tuple #[]) := by kernel_rfl
theorem sz1 : szOf Try.prog 1 = some 1 := by kernel_rfl
theorem bs1 : bsOf Try.prog 1 = some 8 := by kernel_rfl
theorem ze1 : zeroOf Try.prog 1 = some Go.Value.nilFunc := by kernel_rfl
theorem sz2 : szOf Try.prog 2 = some 1 := by kernel_rfl
theorem bs2 : bsOf Try.prog 2 = some 8 := by kernel_rfl
theorem ze2 : zeroOf Try.prog 2 = some (Go.Value.int Go.IntKind.i64 0) := by kernel_rfl
theorem sz3 : szOf Try.prog 3 = some 1 := by kernel_rfl
theorem bs3 : bsOf Try.prog 3 = some 8 := by kernel_rfl
theorem ze3 : zeroOf Try.prog 3 = some (Go.Value.int Go.IntKind.i64 0) := by kernel_rfl
theorem sz4 : szOf Try.prog 4 = some 1 := by kernel_rfl
theorem bs4 : bsOf Try.prog 4 = some 1 := by kernel_rfl
theorem ze4 : zeroOf Try.prog 4 = some (Go.Value.bool false) := by kernel_rfl
theorem sz5 : szOf Try.prog 5 = some 1 := by kernel_rfl
theorem bs5 : bsOf Try.prog 5 = some 1 := by kernel_rfl
theorem ze5 : zeroOf Try.prog 5 = some (Go.Value.int Go.IntKind.u8 0) := by kernel_rfl
theorem sz6 : szOf Try.prog 6 = some 1 := by kernel_rfl
theorem bs6 : bsOf Try.prog 6 = some 1 := by kernel_rfl
theorem ze6 : zeroOf Try.prog 6 = some (Go.Value.int Go.IntKind.u8 0) := by kernel_rfl
theorem sz7 : szOf Try.prog 7 = some 4 := by kernel_rfl
theorem bs7 : bsOf Try.prog 7 = some 24 := by kernel_rfl
theorem ze7 : zeroOf Try.prog 7 = some (Go.Value.agg #[(Go.Value.int Go.IntKind.i64 0), (Go.Value.int Go.IntKind.i64 0), (Go.Value.bool false), (Go.Value.int Go.IntKind.u8 0)]) := by kernel_rfl
theorem sz8 : szOf Try.prog 8 = some 4 := by kernel_rfl
theorem bs8 : bsOf Try.prog 8 = some 24 := by kernel_rfl
theorem ze8 : zeroOf Try.prog 8 = some (Go.Value.agg #[(Go.Value.int Go.IntKind.i64 0), (Go.Value.int Go.IntKind.i64 0), (Go.Value.bool false), (Go.Value.int Go.IntKind.u8 0)]) := by kernel_rfl
theorem sz9 : szOf Try.prog 9 = some 1 := by kernel_rfl
theorem bs9 : bsOf Try.prog 9 = some 16 := by kernel_rfl
theorem ze9 : zeroOf Try.prog 9 = some (Go.Value.string { data := #[] }) := by kernel_rfl
theorem sz10 : szOf Try.prog 10 = some 1 := by kernel_rfl
theorem bs10 : bsOf Try.prog 10 = some 16 := by kernel_rfl
theorem ze10 : zeroOf Try.prog 10 = some (Go.Value.string { data := #[] }) := by kernel_rfl
theorem sz11 : szOf Try.prog 11 = some 1 := by kernel_rfl
theorem bs11 : bsOf Try.prog 11 = some 16 := by kernel_rfl
theorem ze11 : zeroOf Try.prog 11 = some (Go.Value.string { data := #[] }) := by kernel_rfl
theorem sz12 : szOf Try.prog 12 = some 1 := by kernel_rfl
theorem bs12 : bsOf Try.prog 12 = some 8 := by kernel_rfl
theorem ze12 : zeroOf Try.prog 12 = some (Go.Value.int Go.IntKind.u64 0) := by kernel_rfl
theorem sz13 : szOf Try.prog 13 = some 2 := by kernel_rfl
theorem bs13 : bsOf Try.prog 13 = some 24 := by kernel_rfl
theorem ze13 : zeroOf Try.prog 13 = some (Go.Value.agg #[(Go.Value.string { data := #[] }), (Go.Value.int Go.IntKind.u64 0)]) := by kernel_rfl
theorem sz14 : szOf Try.prog 14 = some 2 := by kernel_rfl
theorem bs14 : bsOf Try.prog 14 = some 24 := by kernel_rfl
theorem ze14 : zeroOf Try.prog 14 = some (Go.Value.agg #[(Go.Value.string { data := #[] }), (Go.Value.int Go.IntKind.u64 0)]) := by kernel_rfl
theorem sz15 : szOf Try.prog 15 = some 1 := by kernel_rfl
theorem bs15 : bsOf Try.prog 15 = some 8 := by kernel_rfl
theorem ze15 : zeroOf Try.prog 15 = some (Go.Value.pointer none) := by kernel_rfl
theorem sz16 : szOf Try.prog 16 = some 1 := by kernel_rfl
theorem bs16 : bsOf Try.prog 16 = some 8 := by kernel_rfl
theorem ze16 : zeroOf Try.prog 16 = some (Go.Value.pointer none) := by kernel_rfl
theorem sz17 : szOf Try.prog 17 = some 1 := by kernel_rfl
theorem bs17 : bsOf Try.prog 17 = some 8 := by kernel_rfl
theorem ze17 : zeroOf Try.prog 17 = some (Go.Value.pointer none) := by kernel_rfl
theorem sz18 : szOf Try.prog 18 = some 1 := by kernel_rfl
theorem bs18 : bsOf Try.prog 18 = some 8 := by kernel_rfl
theorem ze18 : zeroOf Try.prog 18 = some (Go.Value.agg #[(Go.Value.pointer none)]) := by kernel_rfl
theorem sz19 : szOf Try.prog 19 = some 1 := by kernel_rfl
theorem bs19 : bsOf Try.prog 19 = some 8 := by kernel_rfl
theorem ze19 : zeroOf Try.prog 19 = some (Go.Value.agg #[(Go.Value.pointer none)]) := by kernel_rfl
theorem sz20 : szOf Try.prog 20 = some 1 := by kernel_rfl
theorem bs20 : bsOf Try.prog 20 = some 16 := by kernel_rfl
theorem ze20 : zeroOf Try.prog 20 = some Go.Value.nilIface := by kernel_rfl
theorem sz21 : szOf Try.prog 21 = some 1 := by kernel_rfl
theorem bs21 : bsOf Try.prog 21 = some 4 := by kernel_rfl
theorem ze21 : zeroOf Try.prog 21 = some (Go.Value.int Go.IntKind.i32 0) := by kernel_rfl
theorem sz22 : szOf Try.prog 22 = some 1 := by kernel_rfl
theorem bs22 : bsOf Try.prog 22 = some 24 := by kernel_rfl
theorem ze22 : zeroOf Try.prog 22 = some (Go.Value.slice none 0 0) := by kernel_rfl
theorem sz23 : szOf Try.prog 23 = some 1 := by kernel_rfl
theorem bs23 : bsOf Try.prog 23 = some 8 := by kernel_rfl
theorem ze23 : zeroOf Try.prog 23 = some Go.Value.nilFunc := by kernel_rfl
theorem sz24 : szOf Try.prog 24 = some 1 := by kernel_rfl
theorem bs24 : bsOf Try.prog 24 = some 8 := by kernel_rfl
theorem ze24 : zeroOf Try.prog 24 = some Go.Value.nilFunc := by kernel_rfl
theorem sz25 : szOf Try.prog 25 = some 2 := by kernel_rfl
theorem bs25 : bsOf Try.prog 25 = some 32 := by kernel_rfl
theorem ze25 : zeroOf Try.prog 25 = some (Go.Value.agg #[(Go.Value.string { data := #[] }), (Go.Value.string { data := #[] })]) := by kernel_rfl
theorem sz26 : szOf Try.prog 26 = some 2 := by kernel_rfl
theorem bs26 : bsOf Try.prog 26 = some 32 := by kernel_rfl
theorem ze26 : zeroOf Try.prog 26 = some (Go.Value.agg #[(Go.Value.string { data := #[] }), (Go.Value.string { data := #[] })]) := by kernel_rfl
theorem sz27 : szOf Try.prog 27 = some 5 := by kernel_rfl
theorem bs27 : bsOf Try.prog 27 = some 72 := by kernel_rfl
theorem ze27 : zeroOf Try.prog 27 = some (Go.Value.agg #[(Go.Value.string { data := #[] }), (Go.Value.string { data := #[] }), (Go.Value.string { data := #[] }), (Go.Value.string { data := #[] }), (Go.Value.bool false)]) := by kernel_rfl
theorem sz28 : szOf Try.prog 28 = some 5 := by kernel_rfl
theorem bs28 : bsOf Try.prog 28 = some 72 := by kernel_rfl
theorem ze28 : zeroOf Try.prog 28 = some (Go.Value.agg #[(Go.Value.string { data := #[] }), (Go.Value.string { data := #[] }), (Go.Value.string { data := #[] }), (Go.Value.string { data := #[] }), (Go.Value.bool false)]) := by kernel_rfl
theorem sz29 : szOf Try.prog 29 = some 1 := by kernel_rfl
theorem bs29 : bsOf Try.prog 29 = some 8 := by kernel_rfl
theorem ze29 : zeroOf Try.prog 29 = some Go.Value.nilFunc := by kernel_rfl
theorem sz30 : szOf Try.prog 30 = some 1 := by kernel_rfl
theorem bs30 : bsOf Try.prog 30 = some 0 := by kernel_rfl
theorem ze30 : zeroOf Try.prog 30 = some (Go.Value.tuple #[(Go.Value.agg #[(Go.Value.string { data := #[] }), (Go.Value.string { data := #[] }), (Go.Value.string { data := #[] }), (Go.Value.string { data := #[] }), (Go.Value.bool false)]), (Go.Value.bool false)]) := by kernel_rfl
theorem sz31 : szOf Try.prog 31 = some 1 := by kernel_rfl
theorem bs31 : bsOf Try.prog 31 = some 8 := by kernel_rfl
theorem ze31 : zeroOf Try.prog 31 = some Go.Value.nilFunc := by kernel_rfl
theorem sz32 : szOf Try.prog 32 = some 1 := by kernel_rfl
theorem bs32 : bsOf Try.prog 32 = some 8 := by kernel_rfl
theorem ze32 : zeroOf Try.prog 32 = some Go.Value.nilFunc := by kernel_rfl
theorem sz33 : szOf Try.prog 33 = some 1 := by kernel_rfl
theorem bs33 : bsOf Try.prog 33 = some 8 := by kernel_rfl
theorem ze33 : zeroOf Try.prog 33 = some (Go.Value.int Go.IntKind.i64 0) := by kernel_rfl
theorem sz34 : szOf Try.prog 34 = some 1 := by kernel_rfl
theorem bs34 : bsOf Try.prog 34 = some 0 := by kernel_rfl
theorem ze34 : zeroOf Try.prog 34 = some (Go.Value.tuple #[(Go.Value.agg #[(Go.Value.string { data := #[] }), (Go.Value.string { data := #[] })]), (Go.Value.int Go.IntKind.i64 0)]) := by kernel_rfl
theorem sz35 : szOf Try.prog 35 = some 1 := by kernel_rfl
theorem bs35 : bsOf Try.prog 35 = some 8 := by kernel_rfl
theorem ze35 : zeroOf Try.prog 35 = some Go.Value.nilFunc := by kernel_rfl
theorem sz36 : szOf Try.prog 36 = some 1 := by kernel_rfl
theorem bs36 : bsOf Try.prog 36 = some 8 := by kernel_rfl
theorem ze36 : zeroOf Try.prog 36 = some Go.Value.nilFunc := by kernel_rfl
theorem sz37 : szOf Try.prog 37 = some 1 := by kernel_rfl
theorem bs37 : bsOf Try.prog 37 = some 24 := by kernel_rfl
theorem ze37 : zeroOf Try.prog 37 = some (Go.Value.slice none 0 0) := by kernel_rfl
theorem sz38 : szOf Try.prog 38 = some 1 := by kernel_rfl
theorem bs38 : bsOf Try.prog 38 = some 0 := by kernel_rfl
theorem ze38 : zeroOf Try.prog 38 = some (Go.Value.tuple #[(Go.Value.agg #[(Go.Value.string { data := #[] }), (Go.Value.string { data := #[] }), (Go.Value.string { data := #[] }), (Go.Value.string { data := #[] }), (Go.Value.bool false)]), (Go.Value.int Go.IntKind.i64 0), (Go.Value.int Go.IntKind.i64 0)]) := by kernel_rfl
theorem sz39 : szOf Try.prog 39 = some 1 := by kernel_rfl
theorem bs39 : bsOf Try.prog 39 = some 8 := by kernel_rfl
theorem ze39 : zeroOf Try.prog 39 = some Go.Value.nilFunc := by kernel_rfl
theorem sz40 : szOf Try.prog 40 = some 8 := by kernel_rfl
theorem bs40 : bsOf Try.prog 40 = some 64 := by kernel_rfl
theorem ze40 : zeroOf Try.prog 40 = some (Go.Value.agg #[(Go.Value.int Go.IntKind.i64 0), (Go.Value.int Go.IntKind.i64 0), (Go.Value.int Go.IntKind.i64 0), (Go.Value.int Go.IntKind.i64 0), (Go.Value.int Go.IntKind.i64 0), (Go.Value.int Go.IntKind.i64 0), (Go.Value.int Go.IntKind.i64 0), (Go.Value.int Go.IntKind.i64 0)]) := by kernel_rfl
theorem sz41 : szOf Try.prog 41 = some 8 := by kernel_rfl
theorem bs41 : bsOf Try.prog 41 = some 64 := by kernel_rfl
theorem ze41 : zeroOf Try.prog 41 = some (Go.Value.agg #[(Go.Value.int Go.IntKind.i64 0), (Go.Value.int Go.IntKind.i64 0), (Go.Value.int Go.IntKind.i64 0), (Go.Value.int Go.IntKind.i64 0), (Go.Value.int Go.IntKind.i64 0), (Go.Value.int Go.IntKind.i64 0), (Go.Value.int Go.IntKind.i64 0), (Go.Value.int Go.IntKind.i64 0)]) := by kernel_rfl
theorem sz42 : szOf Try.prog 42 = some 15 := by kernel_rfl
theorem bs42 : bsOf Try.prog 42 = some 168 := by kernel_rfl
theorem ze42 : zeroOf Try.prog 42 = some (Go.Value.agg #[(Go.Value.string { data := #[] }), (Go.Value.string { data := #[] }), (Go.Value.int Go.IntKind.i64 0), (Go.Value.int Go.IntKind.i64 0), (Go.Value.int Go.IntKind.i64 0), (Go.Value.int Go.IntKind.i64 0), (Go.Value.int Go.IntKind.i64 0), (Go.Value.int Go.IntKind.i64 0), (Go.Value.int Go.IntKind.i64 0), (Go.Value.int Go.IntKind.i64 0), (Go.Value.string { data := #[] }), (Go.Value.string { data := #[] }), (Go.Value.string { data := #[] }), (Go.Value.string { data := #[] }), (Go.Value.int Go.IntKind.i64 0)]) := by kernel_rfl
theorem sz43 : szOf Try.prog 43 = some 15 := by kernel_rfl
theorem bs43 : bsOf Try.prog 43 = some 168 := by kernel_rfl
theorem ze43 : zeroOf Try.prog 43 = some (Go.Value.agg #[(Go.Value.string { data := #[] }), (Go.Value.string { data := #[] }), (Go.Value.int Go.IntKind.i64 0), (Go.Value.int Go.IntKind.i64 0), (Go.Value.int Go.IntKind.i64 0), (Go.Value.int Go.IntKind.i64 0), (Go.Value.int Go.IntKind.i64 0), (Go.Value.int Go.IntKind.i64 0), (Go.Value.int Go.IntKind.i64 0), (Go.Value.int Go.IntKind.i64 0), (Go.Value.string { data := #[] }), (Go.Value.string { data := #[] }), (Go.Value.string { data := #[] }), (Go.Value.string { data := #[] }), (Go.Value.int Go.IntKind.i64 0)]) := by kernel_rfl
theorem sz44 : szOf Try.prog 44 = some 1 := by kernel_rfl
theorem bs44 : bsOf Try.prog 44 = some 8 := by kernel_rfl
theorem ze44 : zeroOf Try.prog 44 = some Go.Value.nilFunc := by kernel_rfl
theorem sz45 : szOf Try.prog 45 = some 1 := by kernel_rfl
theorem bs45 : bsOf Try.prog 45 = some 8 := by kernel_rfl
theorem ze45 : zeroOf Try.prog 45 = some Go.Value.nilFunc := by kernel_rfl
theorem sz46 : szOf Try.prog 46 = some 4 := by kernel_rfl
theorem bs46 : bsOf Try.prog 46 = some 48 := by kernel_rfl
theorem ze46 : zeroOf Try.prog 46 = some (Go.Value.agg #[(Go.Value.string { data := #[] }), (Go.Value.string { data := #[] }), (Go.Value.int Go.IntKind.i64 0), (Go.Value.bool false)]) := by kernel_rfl
theorem sz47 : szOf Try.prog 47 = some 4 := by kernel_rfl
theorem bs47 : bsOf Try.prog 47 = some 48 := by kernel_rfl
theorem ze47 : zeroOf Try.prog 47 = some (Go.Value.agg #[(Go.Value.string { data := #[] }), (Go.Value.string { data := #[] }), (Go.Value.int Go.IntKind.i64 0), (Go.Value.bool false)]) := by kernel_rfl
theorem sz48 : szOf Try.prog 48 = some 1 := by kernel_rfl
theorem bs48 : bsOf Try.prog 48 = some 24 := by kernel_rfl
theorem ze48 : zeroOf Try.prog 48 = some (Go.Value.slice none 0 0) := by kernel_rfl
theorem sz49 : szOf Try.prog 49 = some 1 := by kernel_rfl
theorem bs49 : bsOf Try.prog 49 = some 8 := by kernel_rfl
theorem ze49 : zeroOf Try.prog 49 = some Go.Value.nilFunc := by kernel_rfl
theorem sz50 : szOf Try.prog 50 = some 1 := by kernel_rfl
theorem bs50 : bsOf Try.prog 50 = some 24 := by kernel_rfl
theorem ze50 : zeroOf Try.prog 50 = some (Go.Value.slice none 0 0) := by kernel_rfl
theorem sz51 : szOf Try.prog 51 = some 1 := by kernel_rfl
theorem bs51 : bsOf Try.prog 51 = some 8 := by kernel_rfl
theorem ze51 : zeroOf Try.prog 51 = some Go.Value.nilFunc := by kernel_rfl
theorem sz52 : szOf Try.prog 52 = some 3 := by kernel_rfl
theorem bs52 : bsOf Try.prog 52 = some 40 := by kernel_rfl
theorem ze52 : zeroOf Try.prog 52 = some (Go.Value.agg #[(Go.Value.string { data := #[] }), (Go.Value.string { data := #[] }), (Go.Value.int Go.IntKind.i64 0)]) := by kernel_rfl
theorem sz53 : szOf Try.prog 53 = some 3 := by kernel_rfl
theorem bs53 : bsOf Try.prog 53 = some 40 := by kernel_rfl
theorem ze53 : zeroOf Try.prog 53 = some (Go.Value.agg #[(Go.Value.string { data := #[] }), (Go.Value.string { data := #[] }), (Go.Value.int Go.IntKind.i64 0)]) := by kernel_rfl
theorem sz54 : szOf Try.prog 54 = some 1 := by kernel_rfl
theorem bs54 : bsOf Try.prog 54 = some 8 := by kernel_rfl
theorem ze54 : zeroOf Try.prog 54 = some Go.Value.nilFunc := by kernel_rfl
theorem sz55 : szOf Try.prog 55 = some 1 := by kernel_rfl
theorem bs55 : bsOf Try.prog 55 = some 8 := by kernel_rfl
theorem ze55 : zeroOf Try.prog 55 = some Go.Value.nilFunc := by kernel_rfl
theorem sz56 : szOf Try.prog 56 = some 1 := by kernel_rfl
theorem bs56 : bsOf Try.prog 56 = some 8 := by kernel_rfl
theorem ze56 : zeroOf Try.prog 56 = some Go.Value.nilFunc := by kernel_rfl
theorem sz57 : szOf Try.prog 57 = some 1 := by kernel_rfl
theorem bs57 : bsOf Try.prog 57 = some 8 := by kernel_rfl
theorem ze57 : zeroOf Try.prog 57 = some Go.Value.nilFunc := by kernel_rfl
theorem sz58 : szOf Try.prog 58 = some 1 := by kernel_rfl
theorem bs58 : bsOf Try.prog 58 = some 8 := by kernel_rfl
theorem ze58 : zeroOf Try.prog 58 = some (Go.Value.pointer none) := by kernel_rfl
theorem sz59 : szOf Try.prog 59 = some 1 := by kernel_rfl
theorem bs59 : bsOf Try.prog 59 = some 8 := by kernel_rfl
theorem ze59 : zeroOf Try.prog 59 = some Go.Value.nilFunc := by kernel_rfl
theorem sz60 : szOf Try.prog 60 = some 1 := by kernel_rfl
theorem bs60 : bsOf Try.prog 60 = some 8 := by kernel_rfl
theorem ze60 : zeroOf Try.prog 60 = some Go.Value.nilFunc := by kernel_rfl
theorem sz61 : szOf Try.prog 61 = some 1 := by kernel_rfl
theorem bs61 : bsOf Try.prog 61 = some 8 := by kernel_rfl
theorem ze61 : zeroOf Try.prog 61 = some Go.Value.nilFunc := by kernel_rfl
theorem sz62 : szOf Try.prog 62 = some 1 := by kernel_rfl
theorem bs62 : bsOf Try.prog 62 = some 8 := by kernel_rfl
theorem ze62 : zeroOf Try.prog 62 = some (Go.Value.pointer none) := by kernel_rfl
theorem sz63 : szOf Try.prog 63 = some 1 := by kernel_rfl
theorem bs63 : bsOf Try.prog 63 = some 8 := by kernel_rfl
theorem ze63 : zeroOf Try.prog 63 = some Go.Value.nilFunc := by kernel_rfl
theorem sz64 : szOf Try.prog 64 = some 1 := by kernel_rfl
theorem bs64 : bsOf Try.prog 64 = some 8 := by kernel_rfl
theorem ze64 : zeroOf Try.prog 64 = some Go.Value.nilFunc := by kernel_rfl
theorem sz65 : szOf Try.prog 65 = some 1 := by kernel_rfl
theorem bs65 : bsOf Try.prog 65 = some 8 := by kernel_rfl
theorem ze65 : zeroOf Try.prog 65 = some Go.Value.nilFunc := by kernel_rfl
theorem sz66 : szOf Try.prog 66 = some 1 := by kernel_rfl
theorem bs66 : bsOf Try.prog 66 = some 24 := by kernel_rfl
theorem ze66 : zeroOf Try.prog 66 = some (Go.Value.slice none 0 0) := by kernel_rfl
theorem sz67 : szOf Try.prog 67 = some 2 := by kernel_rfl
theorem bs67 : bsOf Try.prog 67 = some 32 := by kernel_rfl
theorem ze67 : zeroOf Try.prog 67 = some (Go.Value.agg #[(Go.Value.bool false), (Go.Value.slice none 0 0)]) := by kernel_rfl
theorem sz68 : szOf Try.prog 68 = some 2 := by kernel_rfl
theorem bs68 : bsOf Try.prog 68 = some 32 := by kernel_rfl
theorem ze68 : zeroOf Try.prog 68 = some (Go.Value.agg #[(Go.Value.bool false), (Go.Value.slice none 0 0)]) := by kernel_rfl
theorem sz69 : szOf Try.prog 69 = some 1 := by kernel_rfl
theorem bs69 : bsOf Try.prog 69 = some 8 := by kernel_rfl
theorem ze69 : zeroOf Try.prog 69 = some Go.Value.nilFunc := by kernel_rfl
theorem sz70 : szOf Try.prog 70 = some 1 := by kernel_rfl
theorem bs70 : bsOf Try.prog 70 = some 8 := by kernel_rfl
theorem ze70 : zeroOf Try.prog 70 = some Go.Value.nilFunc := by kernel_rfl
theorem sz71 : szOf Try.prog 71 = some 1 := by kernel_rfl
theorem bs71 : bsOf Try.prog 71 = some 8 := by kernel_rfl
theorem ze71 : zeroOf Try.prog 71 = some Go.Value.nilFunc := by kernel_rfl
theorem sz72 : szOf Try.prog 72 = some 1 := by kernel_rfl
theorem bs72 : bsOf Try.prog 72 = some 24 := by kernel_rfl
theorem ze72 : zeroOf Try.prog 72 = some (Go.Value.slice none 0 0) := by kernel_rfl
theorem sz73 : szOf Try.prog 73 = some 1 := by kernel_rfl
theorem bs73 : bsOf Try.prog 73 = some 8 := by kernel_rfl
theorem ze73 : zeroOf Try.prog 73 = some Go.Value.nilFunc := by kernel_rfl
theorem sz74 : szOf Try.prog 74 = some 1 := by kernel_rfl
theorem bs74 : bsOf Try.prog 74 = some 8 := by kernel_rfl
theorem ze74 : zeroOf Try.prog 74 = some Go.Value.nilFunc := by kernel_rfl
theorem sz75 : szOf Try.prog 75 = some 2 := by kernel_rfl
theorem bs75 : bsOf Try.prog 75 = some 16 := by kernel_rfl
theorem ze75 : zeroOf Try.prog 75 = some (Go.Value.agg #[Go.Value.nilFunc, Go.Value.nilFunc]) := by kernel_rfl
theorem sz76 : szOf Try.prog 76 = some 2 := by kernel_rfl
theorem bs76 : bsOf Try.prog 76 = some 16 := by kernel_rfl
theorem ze76 : zeroOf Try.prog 76 = some (Go.Value.agg #[Go.Value.nilFunc, Go.Value.nilFunc]) := by kernel_rfl
theorem sz77 : szOf Try.prog 77 = some 1 := by kernel_rfl
theorem bs77 : bsOf Try.prog 77 = some 8 := by kernel_rfl
theorem ze77 : zeroOf Try.prog 77 = some Go.Value.nilFunc := by kernel_rfl
theorem sz78 : szOf Try.prog 78 = some 1 := by kernel_rfl
theorem bs78 : bsOf Try.prog 78 = some 8 := by kernel_rfl
theorem ze78 : zeroOf Try.prog 78 = some Go.Value.nilFunc := by kernel_rfl
theorem sz79 : szOf Try.prog 79 = some 1 := by kernel_rfl
theorem bs79 : bsOf Try.prog 79 = some 8 := by kernel_rfl
theorem ze79 : zeroOf Try.prog 79 = some Go.Value.nilFunc := by kernel_rfl
theorem sz80 : szOf Try.prog 80 = some 1 := by kernel_rfl
theorem bs80 : bsOf Try.prog 80 = some 16 := by kernel_rfl
theorem ze80 : zeroOf Try.prog 80 = some (Go.Value.agg #[(Go.Value.string { data := #[] })]) := by kernel_rfl
theorem sz81 : szOf Try.prog 81 = some 1 := by kernel_rfl
theorem bs81 : bsOf Try.prog 81 = some 16 := by kernel_rfl
theorem ze81 : zeroOf Try.prog 81 = some (Go.Value.agg #[(Go.Value.string { data := #[] })]) := by kernel_rfl
theorem sz82 : szOf Try.prog 82 = some 1 := by kernel_rfl
theorem bs82 : bsOf Try.prog 82 = some 0 := by kernel_rfl
theorem ze82 : zeroOf Try.prog 82 = some (Go.Value.tuple #[(Go.Value.agg #[(Go.Value.string { data := #[] })]), (Go.Value.bool false)]) := by kernel_rfl
theorem sz83 : szOf Try.prog 83 = some 1 := by kernel_rfl
theorem bs83 : bsOf Try.prog 83 = some 8 := by kernel_rfl
theorem ze83 : zeroOf Try.prog 83 = some (Go.Value.map none) := by kernel_rfl
theorem sz84 : szOf Try.prog 84 = some 1 := by kernel_rfl
theorem bs84 : bsOf Try.prog 84 = some 8 := by kernel_rfl
theorem ze84 : zeroOf Try.prog 84 = some Go.Value.nilFunc := by kernel_rfl
theorem sz85 : szOf Try.prog 85 = some 1 := by kernel_rfl
theorem bs85 : bsOf Try.prog 85 = some 24 := by kernel_rfl
theorem ze85 : zeroOf Try.prog 85 = some (Go.Value.slice none 0 0) := by kernel_rfl
theorem sz86 : szOf Try.prog 86 = some 1 := by kernel_rfl
theorem bs86 : bsOf Try.prog 86 = some 8 := by kernel_rfl
theorem ze86 : zeroOf Try.prog 86 = some Go.Value.nilFunc := by kernel_rfl
theorem sz87 : szOf Try.prog 87 = some 4 := by kernel_rfl
theorem bs87 : bsOf Try.prog 87 = some 64 := by kernel_rfl
theorem ze87 : zeroOf Try.prog 87 = some (Go.Value.agg #[(Go.Value.bool false), (Go.Value.slice none 0 0), (Go.Value.bool false), (Go.Value.slice none 0 0)]) := by kernel_rfl
theorem sz88 : szOf Try.prog 88 = some 4 := by kernel_rfl
theorem bs88 : bsOf Try.prog 88 = some 64 := by kernel_rfl
theorem ze88 : zeroOf Try.prog 88 = some (Go.Value.agg #[(Go.Value.bool false), (Go.Value.slice none 0 0), (Go.Value.bool false), (Go.Value.slice none 0 0)]) := by kernel_rfl
theorem sz89 : szOf Try.prog 89 = some 1 := by kernel_rfl
theorem bs89 : bsOf Try.prog 89 = some 8 := by kernel_rfl
theorem ze89 : zeroOf Try.prog 89 = some Go.Value.nilFunc := by kernel_rfl
theorem sz90 : szOf Try.prog 90 = some 1 := by kernel_rfl
theorem bs90 : bsOf Try.prog 90 = some 8 := by kernel_rfl
theorem ze90 : zeroOf Try.prog 90 = some Go.Value.nilFunc := by kernel_rfl
theorem sz91 : szOf Try.prog 91 = some 1 := by kernel_rfl
theorem bs91 : bsOf Try.prog 91 = some 8 := by kernel_rfl
theorem ze91 : zeroOf Try.prog 91 = some Go.Value.nilFunc := by kernel_rfl
theorem sz92 : szOf Try.prog 92 = some 1 := by kernel_rfl
theorem bs92 : bsOf Try.prog 92 = some 8 := by kernel_rfl
theorem ze92 : zeroOf Try.prog 92 = some Go.Value.nilFunc := by kernel_rfl
theorem sz93 : szOf Try.prog 93 = some 1 := by kernel_rfl
theorem bs93 : bsOf Try.prog 93 = some 4 := by kernel_rfl
theorem ze93 : zeroOf Try.prog 93 = some (Go.Value.int Go.IntKind.u32 0) := by kernel_rfl
theorem sz94 : szOf Try.prog 94 = some 1 := by kernel_rfl
theorem bs94 : bsOf Try.prog 94 = some 8 := by kernel_rfl
theorem ze94 : zeroOf Try.prog 94 = some (Go.Value.int Go.IntKind.u64 0) := by kernel_rfl
theorem sz95 : szOf Try.prog 95 = some 1 := by kernel_rfl
theorem bs95 : bsOf Try.prog 95 = some 8 := by kernel_rfl
theorem ze95 : zeroOf Try.prog 95 = some (Go.Value.int Go.IntKind.u64 0) := by kernel_rfl
theorem sz96 : szOf Try.prog 96 = some 1 := by kernel_rfl
theorem bs96 : bsOf Try.prog 96 = some 8 := by kernel_rfl
theorem ze96 : zeroOf Try.prog 96 = some Go.Value.nilFunc := by kernel_rfl
theorem sz97 : szOf Try.prog 97 = some 1 := by kernel_rfl
theorem bs97 : bsOf Try.prog 97 = some 8 := by kernel_rfl
theorem ze97 : zeroOf Try.prog 97 = some Go.Value.nilFunc := by kernel_rfl
theorem sz98 : szOf Try.prog 98 = some 1 := by kernel_rfl
theorem bs98 : bsOf Try.prog 98 = some 8 := by kernel_rfl
theorem ze98 : zeroOf Try.prog 98 = some Go.Value.nilFunc := by kernel_rfl
theorem sz99 : szOf Try.prog 99 = some 1 := by kernel_rfl
theorem bs99 : bsOf Try.prog 99 = some 8 := by kernel_rfl
theorem ze99 : zeroOf Try.prog 99 = some Go.Value.nilFunc := by kernel_rfl
theorem sz100 : szOf Try.prog 100 = some 1 := by kernel_rfl
theorem bs100 : bsOf Try.prog 100 = some 24 := by kernel_rfl
theorem ze100 : zeroOf Try.prog 100 = some (Go.Value.slice none 0 0) := by kernel_rfl
theorem sz101 : szOf Try.prog 101 = some 1 := by kernel_rfl
theorem bs101 : bsOf Try.prog 101 = some 0 := by kernel_rfl
theorem ze101 : zeroOf Try.prog 101 = some (Go.Value.tuple #[(Go.Value.slice none 0 0), (Go.Value.int Go.IntKind.u32 0)]) := by kernel_rfl
theorem sz102 : szOf Try.prog 102 = some 1 := by kernel_rfl
theorem bs102 : bsOf Try.prog 102 = some 8 := by kernel_rfl
theorem ze102 : zeroOf Try.prog 102 = some Go.Value.nilFunc := by kernel_rfl
theorem sz103 : szOf Try.prog 103 = some 1 := by kernel_rfl
theorem bs103 : bsOf Try.prog 103 = some 8 := by kernel_rfl
theorem ze103 : zeroOf Try.prog 103 = some Go.Value.nilFunc := by kernel_rfl
theorem sz104 : szOf Try.prog 104 = some 1 := by kernel_rfl
theorem bs104 : bsOf Try.prog 104 = some 8 := by kernel_rfl
theorem ze104 : zeroOf Try.prog 104 = some Go.Value.nilFunc := by kernel_rfl
theorem sz105 : szOf Try.prog 105 = some 1 := by kernel_rfl
theorem bs105 : bsOf Try.prog 105 = some 8 := by kernel_rfl
theorem ze105 : zeroOf Try.prog 105 = some Go.Value.nilFunc := by kernel_rfl
theorem sz106 : szOf Try.prog 106 = some 1 := by kernel_rfl
theorem bs106 : bsOf Try.prog 106 = some 24 := by kernel_rfl
theorem ze106 : zeroOf Try.prog 106 = some (Go.Value.slice none 0 0) := by kernel_rfl
theorem sz107 : szOf Try.prog 107 = some 1 := by kernel_rfl
theorem bs107 : bsOf Try.prog 107 = some 8 := by kernel_rfl
theorem ze107 : zeroOf Try.prog 107 = some Go.Value.nilFunc := by kernel_rfl
theorem sz108 : szOf Try.prog 108 = some 1 := by kernel_rfl
theorem bs108 : bsOf Try.prog 108 = some 8 := by kernel_rfl
theorem ze108 : zeroOf Try.prog 108 = some Go.Value.nilFunc := by kernel_rfl
theorem sz109 : szOf Try.prog 109 = some 1 := by kernel_rfl
theorem bs109 : bsOf Try.prog 109 = some 24 := by kernel_rfl
theorem ze109 : zeroOf Try.prog 109 = some (Go.Value.slice none 0 0) := by kernel_rfl
theorem sz110 : szOf Try.prog 110 = some 1 := by kernel_rfl
theorem bs110 : bsOf Try.prog 110 = some 8 := by kernel_rfl
theorem ze110 : zeroOf Try.prog 110 = some Go.Value.nilFunc := by kernel_rfl
theorem sz111 : szOf Try.prog 111 = some 1 := by kernel_rfl
theorem bs111 : bsOf Try.prog 111 = some 0 := by kernel_rfl
theorem ze111 : zeroOf Try.prog 111 = some (Go.Value.tuple #[(Go.Value.slice none 0 0), (Go.Value.slice none 0 0)]) := by kernel_rfl
theorem sz112 : szOf Try.prog 112 = some 1 := by kernel_rfl
theorem bs112 : bsOf Try.prog 112 = some 8 := by kernel_rfl
theorem ze112 : zeroOf Try.prog 112 = some Go.Value.nilFunc := by kernel_rfl
theorem sz113 : szOf Try.prog 113 = some 1 := by kernel_rfl
theorem bs113 : bsOf Try.prog 113 = some 8 := by kernel_rfl
theorem ze113 : zeroOf Try.prog 113 = some Go.Value.nilFunc := by kernel_rfl
theorem sz114 : szOf Try.prog 114 = some 1 := by kernel_rfl
theorem bs114 : bsOf Try.prog 114 = some 8 := by kernel_rfl
theorem ze114 : zeroOf Try.prog 114 = some Go.Value.nilFunc := by kernel_rfl
theorem sz115 : szOf Try.prog 115 = some 1 := by kernel_rfl
theorem bs115 : bsOf Try.prog 115 = some 8 := by kernel_rfl
theorem ze115 : zeroOf Try.prog 115 = some Go.Value.nilFunc := by kernel_rfl
theorem sz116 : szOf Try.prog 116 = some 1 := by kernel_rfl
theorem bs116 : bsOf Try.prog 116 = some 8 := by kernel_rfl
theorem ze116 : zeroOf Try.prog 116 = some Go.Value.nilFunc := by kernel_rfl
theorem sz117 : szOf Try.prog 117 = some 1 := by kernel_rfl
theorem bs117 : bsOf Try.prog 117 = some 8 := by kernel_rfl
theorem ze117 : zeroOf Try.prog 117 = some Go.Value.nilFunc := by kernel_rfl
theorem sz118 : szOf Try.prog 118 = some 1 := by kernel_rfl
theorem bs118 : bsOf Try.prog 118 = some 0 := by kernel_rfl
theorem ze118 : zeroOf Try.prog 118 = some (Go.Value.tuple #[(Go.Value.string { data := #[] }), (Go.Value.bool false)]) := by kernel_rfl
theorem sz119 : szOf Try.prog 119 = some 1 := by kernel_rfl
theorem bs119 : bsOf Try.prog 119 = some 8 := by kernel_rfl
theorem ze119 : zeroOf Try.prog 119 = some Go.Value.nilFunc := by kernel_rfl
theorem sz120 : szOf Try.prog 120 = some 1 := by kernel_rfl
theorem bs120 : bsOf Try.prog 120 = some 0 := by kernel_rfl
theorem ze120 : zeroOf Try.prog 120 = some (Go.Value.tuple #[(Go.Value.pointer none), (Go.Value.bool false)]) := by kernel_rfl
theorem sz121 : szOf Try.prog 121 = some 1 := by kernel_rfl
theorem bs121 : bsOf Try.prog 121 = some 8 := by kernel_rfl
theorem ze121 : zeroOf Try.prog 121 = some Go.Value.nilFunc := by kernel_rfl
theorem sz122 : szOf Try.prog 122 = some 1 := by kernel_rfl
theorem bs122 : bsOf Try.prog 122 = some 8 := by kernel_rfl
theorem ze122 : zeroOf Try.prog 122 = some Go.Value.nilFunc := by kernel_rfl
theorem sz123 : szOf Try.prog 123 = some 1 := by kernel_rfl
theorem bs123 : bsOf Try.prog 123 = some 8 := by kernel_rfl
theorem ze123 : zeroOf Try.prog 123 = some Go.Value.nilFunc := by kernel_rfl
theorem sz124 : szOf Try.prog 124 = some 4 := by kernel_rfl
theorem bs124 : bsOf Try.prog 124 = some 40 := by kernel_rfl
theorem ze124 : zeroOf Try.prog 124 = some (Go.Value.agg #[(Go.Value.pointer none), (Go.Value.pointer none), (Go.Value.pointer none), (Go.Value.string { data := #[] })]) := by kernel_rfl
theorem sz125 : szOf Try.prog 125 = some 4 := by kernel_rfl
theorem bs125 : bsOf Try.prog 125 = some 40 := by kernel_rfl
theorem ze125 : zeroOf Try.prog 125 = some (Go.Value.agg #[(Go.Value.pointer none), (Go.Value.pointer none), (Go.Value.pointer none), (Go.Value.string { data := #[] })]) := by kernel_rfl
theorem sz126 : szOf Try.prog 126 = some 0 := by kernel_rfl
theorem bs126 : bsOf Try.prog 126 = some 0 := by kernel_rfl
theorem ze126 : zeroOf Try.prog 126 = some (Go.Value.agg #[]) := by kernel_rfl
theorem sz127 : szOf Try.prog 127 = some 0 := by kernel_rfl
theorem bs127 : bsOf Try.prog 127 = some 0 := by kernel_rfl
theorem ze127 : zeroOf Try.prog 127 = some (Go.Value.agg #[]) := by kernel_rfl
theorem sz128 : szOf Try.prog 128 = some 0 := by kernel_rfl
theorem bs128 : bsOf Try.prog 128 = some 0 := by kernel_rfl
theorem ze128 : zeroOf Try.prog 128 = some (Go.Value.agg #[]) := by kernel_rfl
theorem sz129 : szOf Try.prog 129 = some 1 := by kernel_rfl
theorem bs129 : bsOf Try.prog 129 = some 1 := by kernel_rfl
theorem ze129 : zeroOf Try.prog 129 = some (Go.Value.int Go.IntKind.u8 0) := by kernel_rfl
theorem sz130 : szOf Try.prog 130 = some 1 := by kernel_rfl
theorem bs130 : bsOf Try.prog 130 = some 1 := by kernel_rfl
theorem ze130 : zeroOf Try.prog 130 = some (Go.Value.int Go.IntKind.u8 0) := by kernel_rfl
theorem sz131 : szOf Try.prog 131 = some 1 := by kernel_rfl
theorem bs131 : bsOf Try.prog 131 = some 8 := by kernel_rfl
theorem ze131 : zeroOf Try.prog 131 = some Go.Value.nilFunc := by kernel_rfl
theorem sz132 : szOf Try.prog 132 = some 1 := by kernel_rfl
theorem bs132 : bsOf Try.prog 132 = some 8 := by kernel_rfl
theorem ze132 : zeroOf Try.prog 132 = some (Go.Value.pointer none) := by kernel_rfl
theorem sz133 : szOf Try.prog 133 = some 1 := by kernel_rfl
theorem bs133 : bsOf Try.prog 133 = some 4 := by kernel_rfl
theorem ze133 : zeroOf Try.prog 133 = some (Go.Value.int Go.IntKind.i32 0) := by kernel_rfl
theorem sz134 : szOf Try.prog 134 = some 1 := by kernel_rfl
theorem bs134 : bsOf Try.prog 134 = some 4 := by kernel_rfl
theorem ze134 : zeroOf Try.prog 134 = some (Go.Value.int Go.IntKind.i32 0) := by kernel_rfl
theorem sz135 : szOf Try.prog 135 = some 11 := by kernel_rfl
theorem bs135 : bsOf Try.prog 135 = some 48 := by kernel_rfl
theorem ze135 : zeroOf Try.prog 135 = some (Go.Value.agg #[(Go.Value.int Go.IntKind.u64 0), (Go.Value.int Go.IntKind.u64 0), (Go.Value.int Go.IntKind.u32 0), (Go.Value.int Go.IntKind.u8 0), (Go.Value.int Go.IntKind.u8 0), (Go.Value.int Go.IntKind.u8 0), (Go.Value.int Go.IntKind.u8 0), Go.Value.nilFunc, (Go.Value.pointer none), (Go.Value.int Go.IntKind.i32 0), (Go.Value.int Go.IntKind.i32 0)]) := by kernel_rfl
theorem sz136 : szOf Try.prog 136 = some 11 := by kernel_rfl
theorem bs136 : bsOf Try.prog 136 = some 48 := by kernel_rfl
theorem ze136 : zeroOf Try.prog 136 = some (Go.Value.agg #[(Go.Value.int Go.IntKind.u64 0), (Go.Value.int Go.IntKind.u64 0), (Go.Value.int Go.IntKind.u32 0), (Go.Value.int Go.IntKind.u8 0), (Go.Value.int Go.IntKind.u8 0), (Go.Value.int Go.IntKind.u8 0), (Go.Value.int Go.IntKind.u8 0), Go.Value.nilFunc, (Go.Value.pointer none), (Go.Value.int Go.IntKind.i32 0), (Go.Value.int Go.IntKind.i32 0)]) := by kernel_rfl
theorem sz137 : szOf Try.prog 137 = some 1 := by kernel_rfl
theorem bs137 : bsOf Try.prog 137 = some 8 := by kernel_rfl
theorem ze137 : zeroOf Try.prog 137 = some (Go.Value.pointer none) := by kernel_rfl
theorem go2 : goFn Try.prog 2 = true := by kernel_rfl
theorem go3 : goFn Try.prog 3 = true := by kernel_rfl
theorem go4 : goFn Try.prog 4 = true := by kernel_rfl
theorem go5 : goFn Try.prog 5 = true := by kernel_rfl
theorem go6 : goFn Try.prog 6 = true := by kernel_rfl
theorem go7 : goFn Try.prog 7 = true := by kernel_rfl
theorem go8 : goFn Try.prog 8 = true := by kernel_rfl
theorem go9 : goFn Try.prog 9 = true := by kernel_rfl
theorem go10 : goFn Try.prog 10 = true := by kernel_rfl
theorem go11 : goFn Try.prog 11 = true := by kernel_rfl
theorem go12 : goFn Try.prog 12 = true := by kernel_rfl
theorem go13 : goFn Try.prog 13 = true := by kernel_rfl
theorem go14 : goFn Try.prog 14 = true := by kernel_rfl
theorem go15 : goFn Try.prog 15 = true := by kernel_rfl
theorem go16 : goFn Try.prog 16 = true := by kernel_rfl
theorem go17 : goFn Try.prog 17 = true := by kernel_rfl
theorem go18 : goFn Try.prog 18 = true := by kernel_rfl
theorem go19 : goFn Try.prog 19 = true := by kernel_rfl
theorem go20 : goFn Try.prog 20 = true := by kernel_rfl
theorem go21 : goFn Try.prog 21 = true := by kernel_rfl
theorem go22 : goFn Try.prog 22 = true := by kernel_rfl
theorem go23 : goFn Try.prog 23 = true := by kernel_rfl
theorem go24 : goFn Try.prog 24 = true := by kernel_rfl
theorem go25 : goFn Try.prog 25 = true := by kernel_rfl
theorem go26 : goFn Try.prog 26 = true := by kernel_rfl
theorem go27 : goFn Try.prog 27 = true := by kernel_rfl
theorem go28 : goFn Try.prog 28 = true := by kernel_rfl
theorem go29 : goFn Try.prog 29 = true := by kernel_rfl
theorem go30 : goFn Try.prog 30 = true := by kernel_rfl
theorem go31 : goFn Try.prog 31 = true := by kernel_rfl
theorem go32 : goFn Try.prog 32 = true := by kernel_rfl
theorem go33 : goFn Try.prog 33 = true := by kernel_rfl
theorem go34 : goFn Try.prog 34 = true := by kernel_rfl
theorem go35 : goFn Try.prog 35 = true := by kernel_rfl
theorem go36 : goFn Try.prog 36 = true := by kernel_rfl
theorem go37 : goFn Try.prog 37 = true := by kernel_rfl
theorem go38 : goFn Try.prog 38 = true := by kernel_rfl
theorem go39 : goFn Try.prog 39 = true := by kernel_rfl
theorem go40 : goFn Try.prog 40 = true := by kernel_rfl
theorem go41 : goFn Try.prog 41 = true := by kernel_rfl
theorem go42 : goFn Try.prog 42 = true := by kernel_rfl
theorem go43 : goFn Try.prog 43 = true := by kernel_rfl
theorem go44 : goFn Try.prog 44 = true := by kernel_rfl
theorem go45 : goFn Try.prog 45 = true := by kernel_rfl
theorem go46 : goFn Try.prog 46 = true := by kernel_rfl
theorem go47 : goFn Try.prog 47 = true := by kernel_rfl
theorem go48 : goFn Try.prog 48 = true := by kernel_rfl
theorem go49 : goFn Try.prog 49 = true := by kernel_rfl
theorem go50 : goFn Try.prog 50 = true := by kernel_rfl
theorem go51 : goFn Try.prog 51 = true := by kernel_rfl
theorem go52 : goFn Try.prog 52 = true := by kernel_rfl
theorem go53 : goFn Try.prog 53 = true := by kernel_rfl
theorem go54 : goFn Try.prog 54 = true := by kernel_rfl
theorem go55 : goFn Try.prog 55 = true := by kernel_rfl
theorem go56 : goFn Try.prog 56 = true := by kernel_rfl
theorem go57 : goFn Try.prog 57 = true := by kernel_rfl
theorem go58 : goFn Try.prog 58 = true := by kernel_rfl
theorem go59 : goFn Try.prog 59 = true := by kernel_rfl
theorem go60 : goFn Try.prog 60 = true := by kernel_rfl
theorem go61 : goFn Try.prog 61 = true := by kernel_rfl
theorem go62 : goFn Try.prog 62 = true := by kernel_rfl
theorem go63 : goFn Try.prog 63 = true := by kernel_rfl
theorem go64 : goFn Try.prog 64 = true := by kernel_rfl
theorem go65 : goFn Try.prog 65 = true := by kernel_rfl
theorem go66 : goFn Try.prog 66 = true := by kernel_rfl
theorem go67 : goFn Try.prog 67 = true := by kernel_rfl
theorem go68 : goFn Try.prog 68 = true := by kernel_rfl
theorem go69 : goFn Try.prog 69 = true := by kernel_rfl
theorem go70 : goFn Try.prog 70 = true := by kernel_rfl
theorem go71 : goFn Try.prog 71 = true := by kernel_rfl
theorem go72 : goFn Try.prog 72 = true := by kernel_rfl
theorem go73 : goFn Try.prog 73 = true := by kernel_rfl
theorem go74 : goFn Try.prog 74 = true := by kernel_rfl
theorem go75 : goFn Try.prog 75 = true := by kernel_rfl
theorem go76 : goFn Try.prog 76 = true := by kernel_rfl
theorem go77 : goFn Try.prog 77 = true := by kernel_rfl
theorem go78 : goFn Try.prog 78 = true := by kernel_rfl
theorem go79 : goFn Try.prog 79 = true := by kernel_rfl
theorem go80 : goFn Try.prog 80 = true := by kernel_rfl
theorem go81 : goFn Try.prog 81 = true := by kernel_rfl
theorem go82 : goFn Try.prog 82 = true := by kernel_rfl
theorem go83 : goFn Try.prog 83 = true := by kernel_rfl
theorem go84 : goFn Try.prog 84 = true := by kernel_rfl
theorem go85 : goFn Try.prog 85 = true := by kernel_rfl
theorem go86 : goFn Try.prog 86 = true := by kernel_rfl
theorem go87 : goFn Try.prog 87 = true := by kernel_rfl
theorem go88 : goFn Try.prog 88 = true := by kernel_rfl
theorem go89 : goFn Try.prog 89 = true := by kernel_rfl
theorem go90 : goFn Try.prog 90 = true := by kernel_rfl
theorem go91 : goFn Try.prog 91 = true := by kernel_rfl
theorem go92 : goFn Try.prog 92 = true := by kernel_rfl
theorem go93 : goFn Try.prog 93 = true := by kernel_rfl
theorem go94 : goFn Try.prog 94 = true := by kernel_rfl
theorem go95 : goFn Try.prog 95 = true := by kernel_rfl
theorem go96 : goFn Try.prog 96 = true := by kernel_rfl
theorem go97 : goFn Try.prog 97 = true := by kernel_rfl
theorem go98 : goFn Try.prog 98 = true := by kernel_rfl
theorem go99 : goFn Try.prog 99 = true := by kernel_rfl
theorem go100 : goFn Try.prog 100 = true := by kernel_rfl
theorem go101 : goFn Try.prog 101 = true := by kernel_rfl
theorem go102 : goFn Try.prog 102 = true := by kernel_rfl
theorem go103 : goFn Try.prog 103 = true := by kernel_rfl
theorem go104 : goFn Try.prog 104 = true := by kernel_rfl
theorem go105 : goFn Try.prog 105 = true := by kernel_rfl
theorem go106 : goFn Try.prog 106 = true := by kernel_rfl
theorem go107 : goFn Try.prog 107 = true := by kernel_rfl
theorem go108 : goFn Try.prog 108 = true := by kernel_rfl
theorem go109 : goFn Try.prog 109 = true := by kernel_rfl
theorem go110 : goFn Try.prog 110 = true := by kernel_rfl
theorem go111 : goFn Try.prog 111 = true := by kernel_rfl
theorem go112 : goFn Try.prog 112 = true := by kernel_rfl
theorem go113 : goFn Try.prog 113 = true := by kernel_rfl
instance : Szc Try.prog 0 1 := ⟨sz0⟩
instance : Bsc Try.prog 0 0 := ⟨bs0⟩
instance : Und Try.prog 0 (Go.TypeDesc.tuple #[]) := ⟨Try.underlying0⟩
instance : Zec Try.prog 0 (Go.Value.tuple #[]) := ⟨ze0⟩
instance : Szc Try.prog 1 1 := ⟨sz1⟩
instance : Bsc Try.prog 1 8 := ⟨bs1⟩
instance : Und Try.prog 1 (Go.TypeDesc.func #[] #[] false) := ⟨Try.underlying1⟩
instance : Zec Try.prog 1 (Go.Value.nilFunc) := ⟨ze1⟩
instance : Szc Try.prog 2 1 := ⟨sz2⟩
instance : Bsc Try.prog 2 8 := ⟨bs2⟩
instance : Und Try.prog 2 (Go.TypeDesc.int Go.IntKind.i64) := ⟨Try.underlying2⟩
instance : Zec Try.prog 2 (Go.Value.int Go.IntKind.i64 0) := ⟨ze2⟩
instance : Szc Try.prog 3 1 := ⟨sz3⟩
instance : Bsc Try.prog 3 8 := ⟨bs3⟩
instance : Und Try.prog 3 (Go.TypeDesc.int Go.IntKind.i64) := ⟨Try.underlying3⟩
instance : Zec Try.prog 3 (Go.Value.int Go.IntKind.i64 0) := ⟨ze3⟩
instance : Szc Try.prog 4 1 := ⟨sz4⟩
instance : Bsc Try.prog 4 1 := ⟨bs4⟩
instance : Und Try.prog 4 Go.TypeDesc.bool := ⟨Try.underlying4⟩
instance : Zec Try.prog 4 (Go.Value.bool false) := ⟨ze4⟩
instance : Szc Try.prog 5 1 := ⟨sz5⟩
instance : Bsc Try.prog 5 1 := ⟨bs5⟩
instance : Und Try.prog 5 (Go.TypeDesc.int Go.IntKind.u8) := ⟨Try.underlying5⟩
instance : Zec Try.prog 5 (Go.Value.int Go.IntKind.u8 0) := ⟨ze5⟩
instance : Szc Try.prog 6 1 := ⟨sz6⟩
instance : Bsc Try.prog 6 1 := ⟨bs6⟩
instance : Und Try.prog 6 (Go.TypeDesc.int Go.IntKind.u8) := ⟨Try.underlying6⟩
instance : Zec Try.prog 6 (Go.Value.int Go.IntKind.u8 0) := ⟨ze6⟩
instance : Szc Try.prog 7 4 := ⟨sz7⟩
instance : Bsc Try.prog 7 24 := ⟨bs7⟩
instance : Und Try.prog 7 (Go.TypeDesc.struct #[{ name := "x", type := 2, offset := 0, embedded := false, tag := "", pkgPath := "runtime", byteOffset := 0 }, { name := "y", type := 3, offset := 1, embedded := false, tag := "", pkgPath := "runtime", byteOffset := 8 }, { name := "signed", type := 4, offset := 2, embedded := false, tag := "", pkgPath := "runtime", byteOffset := 16 }, { name := "code", type := 6, offset := 3, embedded := false, tag := "", pkgPath := "runtime", byteOffset := 17 }]) := ⟨Try.underlying7⟩
instance : Zec Try.prog 7 (Go.Value.agg #[(Go.Value.int Go.IntKind.i64 0), (Go.Value.int Go.IntKind.i64 0), (Go.Value.bool false), (Go.Value.int Go.IntKind.u8 0)]) := ⟨ze7⟩
instance : Szc Try.prog 8 4 := ⟨sz8⟩
instance : Bsc Try.prog 8 24 := ⟨bs8⟩
instance : Und Try.prog 8 (Go.TypeDesc.struct #[{ name := "x", type := 2, offset := 0, embedded := false, tag := "", pkgPath := "runtime", byteOffset := 0 }, { name := "y", type := 3, offset := 1, embedded := false, tag := "", pkgPath := "runtime", byteOffset := 8 }, { name := "signed", type := 4, offset := 2, embedded := false, tag := "", pkgPath := "runtime", byteOffset := 16 }, { name := "code", type := 6, offset := 3, embedded := false, tag := "", pkgPath := "runtime", byteOffset := 17 }]) := ⟨Try.underlying8⟩
instance : Zec Try.prog 8 (Go.Value.agg #[(Go.Value.int Go.IntKind.i64 0), (Go.Value.int Go.IntKind.i64 0), (Go.Value.bool false), (Go.Value.int Go.IntKind.u8 0)]) := ⟨ze8⟩
instance : Szc Try.prog 9 1 := ⟨sz9⟩
instance : Bsc Try.prog 9 16 := ⟨bs9⟩
instance : Und Try.prog 9 Go.TypeDesc.string := ⟨Try.underlying9⟩
instance : Zec Try.prog 9 (Go.Value.string { data := #[] }) := ⟨ze9⟩
instance : Szc Try.prog 10 1 := ⟨sz10⟩
instance : Bsc Try.prog 10 16 := ⟨bs10⟩
instance : Und Try.prog 10 Go.TypeDesc.string := ⟨Try.underlying10⟩
instance : Zec Try.prog 10 (Go.Value.string { data := #[] }) := ⟨ze10⟩
instance : Szc Try.prog 11 1 := ⟨sz11⟩
instance : Bsc Try.prog 11 16 := ⟨bs11⟩
instance : Und Try.prog 11 Go.TypeDesc.string := ⟨Try.underlying11⟩
instance : Zec Try.prog 11 (Go.Value.string { data := #[] }) := ⟨ze11⟩
instance : Szc Try.prog 12 1 := ⟨sz12⟩
instance : Bsc Try.prog 12 8 := ⟨bs12⟩
instance : Und Try.prog 12 (Go.TypeDesc.int Go.IntKind.u64) := ⟨Try.underlying12⟩
instance : Zec Try.prog 12 (Go.Value.int Go.IntKind.u64 0) := ⟨ze12⟩
instance : Szc Try.prog 13 2 := ⟨sz13⟩
instance : Bsc Try.prog 13 24 := ⟨bs13⟩
instance : Und Try.prog 13 (Go.TypeDesc.struct #[{ name := "msg", type := 9, offset := 0, embedded := false, tag := "", pkgPath := "runtime", byteOffset := 0 }, { name := "addr", type := 12, offset := 1, embedded := false, tag := "", pkgPath := "runtime", byteOffset := 16 }]) := ⟨Try.underlying13⟩
instance : Zec Try.prog 13 (Go.Value.agg #[(Go.Value.string { data := #[] }), (Go.Value.int Go.IntKind.u64 0)]) := ⟨ze13⟩
instance : Szc Try.prog 14 2 := ⟨sz14⟩
instance : Bsc Try.prog 14 24 := ⟨bs14⟩
instance : Und Try.prog 14 (Go.TypeDesc.struct #[{ name := "msg", type := 9, offset := 0, embedded := false, tag := "", pkgPath := "runtime", byteOffset := 0 }, { name := "addr", type := 12, offset := 1, embedded := false, tag := "", pkgPath := "runtime", byteOffset := 16 }]) := ⟨Try.underlying14⟩
instance : Zec Try.prog 14 (Go.Value.agg #[(Go.Value.string { data := #[] }), (Go.Value.int Go.IntKind.u64 0)]) := ⟨ze14⟩
instance : Szc Try.prog 15 1 := ⟨sz15⟩
instance : Bsc Try.prog 15 8 := ⟨bs15⟩
instance : Und Try.prog 15 (Go.TypeDesc.pointer 125) := ⟨Try.underlying15⟩
instance : Zec Try.prog 15 (Go.Value.pointer none) := ⟨ze15⟩
instance : Szc Try.prog 16 1 := ⟨sz16⟩
instance : Bsc Try.prog 16 8 := ⟨bs16⟩
instance : Und Try.prog 16 (Go.TypeDesc.pointer 128) := ⟨Try.underlying16⟩
instance : Zec Try.prog 16 (Go.Value.pointer none) := ⟨ze16⟩
instance : Szc Try.prog 17 1 := ⟨sz17⟩
instance : Bsc Try.prog 17 8 := ⟨bs17⟩
instance : Und Try.prog 17 (Go.TypeDesc.pointer 136) := ⟨Try.underlying17⟩
instance : Zec Try.prog 17 (Go.Value.pointer none) := ⟨ze17⟩
instance : Szc Try.prog 18 1 := ⟨sz18⟩
instance : Bsc Try.prog 18 8 := ⟨bs18⟩
instance : Und Try.prog 18 (Go.TypeDesc.struct #[{ name := "typ", type := 17, offset := 0, embedded := false, tag := "", pkgPath := "internal/runtime/maps", byteOffset := 0 }]) := ⟨Try.underlying18⟩
instance : Zec Try.prog 18 (Go.Value.agg #[(Go.Value.pointer none)]) := ⟨ze18⟩
instance : Szc Try.prog 19 1 := ⟨sz19⟩
instance : Bsc Try.prog 19 8 := ⟨bs19⟩
instance : Und Try.prog 19 (Go.TypeDesc.struct #[{ name := "typ", type := 17, offset := 0, embedded := false, tag := "", pkgPath := "internal/runtime/maps", byteOffset := 0 }]) := ⟨Try.underlying19⟩
instance : Zec Try.prog 19 (Go.Value.agg #[(Go.Value.pointer none)]) := ⟨ze19⟩
instance : Szc Try.prog 20 1 := ⟨sz20⟩
instance : Bsc Try.prog 20 16 := ⟨bs20⟩
instance : Und Try.prog 20 (Go.TypeDesc.interface #[]) := ⟨Try.underlying20⟩
instance : Zec Try.prog 20 (Go.Value.nilIface) := ⟨ze20⟩
instance : Szc Try.prog 21 1 := ⟨sz21⟩
instance : Bsc Try.prog 21 4 := ⟨bs21⟩
instance : Und Try.prog 21 (Go.TypeDesc.int Go.IntKind.i32) := ⟨Try.underlying21⟩
instance : Zec Try.prog 21 (Go.Value.int Go.IntKind.i32 0) := ⟨ze21⟩
instance : Szc Try.prog 22 1 := ⟨sz22⟩
instance : Bsc Try.prog 22 24 := ⟨bs22⟩
instance : Und Try.prog 22 (Go.TypeDesc.slice 28) := ⟨Try.underlying22⟩
instance : Zec Try.prog 22 (Go.Value.slice none 0 0) := ⟨ze22⟩
instance : Szc Try.prog 23 1 := ⟨sz23⟩
instance : Bsc Try.prog 23 8 := ⟨bs23⟩
instance : Und Try.prog 23 (Go.TypeDesc.func #[] #[22] false) := ⟨Try.underlying23⟩
instance : Zec Try.prog 23 (Go.Value.nilFunc) := ⟨ze23⟩
instance : Szc Try.prog 24 1 := ⟨sz24⟩
instance : Bsc Try.prog 24 8 := ⟨bs24⟩
instance : Und Try.prog 24 (Go.TypeDesc.func #[22, 22] #[4] false) := ⟨Try.underlying24⟩
instance : Zec Try.prog 24 (Go.Value.nilFunc) := ⟨ze24⟩
instance : Szc Try.prog 25 2 := ⟨sz25⟩
instance : Bsc Try.prog 25 32 := ⟨bs25⟩
instance : Und Try.prog 25 (Go.TypeDesc.struct #[{ name := "Num", type := 9, offset := 0, embedded := false, tag := "", pkgPath := "", byteOffset := 0 }, { name := "Den", type := 9, offset := 1, embedded := false, tag := "", pkgPath := "", byteOffset := 16 }]) := ⟨Try.underlying25⟩
instance : Zec Try.prog 25 (Go.Value.agg #[(Go.Value.string { data := #[] }), (Go.Value.string { data := #[] })]) := ⟨ze25⟩
instance : Szc Try.prog 26 2 := ⟨sz26⟩
instance : Bsc Try.prog 26 32 := ⟨bs26⟩
instance : Und Try.prog 26 (Go.TypeDesc.struct #[{ name := "Num", type := 9, offset := 0, embedded := false, tag := "", pkgPath := "", byteOffset := 0 }, { name := "Den", type := 9, offset := 1, embedded := false, tag := "", pkgPath := "", byteOffset := 16 }]) := ⟨Try.underlying26⟩
instance : Zec Try.prog 26 (Go.Value.agg #[(Go.Value.string { data := #[] }), (Go.Value.string { data := #[] })]) := ⟨ze26⟩
instance : Szc Try.prog 27 5 := ⟨sz27⟩
instance : Bsc Try.prog 27 72 := ⟨bs27⟩
instance : Und Try.prog 27 (Go.TypeDesc.struct #[{ name := "Name", type := 9, offset := 0, embedded := false, tag := "", pkgPath := "", byteOffset := 0 }, { name := "Symbol", type := 9, offset := 1, embedded := false, tag := "", pkgPath := "", byteOffset := 16 }, { name := "Factor", type := 26, offset := 2, embedded := false, tag := "", pkgPath := "", byteOffset := 32 }, { name := "Binary", type := 4, offset := 4, embedded := false, tag := "", pkgPath := "", byteOffset := 64 }]) := ⟨Try.underlying27⟩
instance : Zec Try.prog 27 (Go.Value.agg #[(Go.Value.string { data := #[] }), (Go.Value.string { data := #[] }), (Go.Value.string { data := #[] }), (Go.Value.string { data := #[] }), (Go.Value.bool false)]) := ⟨ze27⟩
instance : Szc Try.prog 28 5 := ⟨sz28⟩
instance : Bsc Try.prog 28 72 := ⟨bs28⟩
instance : Und Try.prog 28 (Go.TypeDesc.struct #[{ name := "Name", type := 9, offset := 0, embedded := false, tag := "", pkgPath := "", byteOffset := 0 }, { name := "Symbol", type := 9, offset := 1, embedded := false, tag := "", pkgPath := "", byteOffset := 16 }, { name := "Factor", type := 26, offset := 2, embedded := false, tag := "", pkgPath := "", byteOffset := 32 }, { name := "Binary", type := 4, offset := 4, embedded := false, tag := "", pkgPath := "", byteOffset := 64 }]) := ⟨Try.underlying28⟩
instance : Zec Try.prog 28 (Go.Value.agg #[(Go.Value.string { data := #[] }), (Go.Value.string { data := #[] }), (Go.Value.string { data := #[] }), (Go.Value.string { data := #[] }), (Go.Value.bool false)]) := ⟨ze28⟩
instance : Szc Try.prog 29 1 := ⟨sz29⟩
instance : Bsc Try.prog 29 8 := ⟨bs29⟩
instance : Und Try.prog 29 (Go.TypeDesc.func #[] #[4] false) := ⟨Try.underlying29⟩
instance : Zec Try.prog 29 (Go.Value.nilFunc) := ⟨ze29⟩
instance : Szc Try.prog 30 1 := ⟨sz30⟩
instance : Bsc Try.prog 30 0 := ⟨bs30⟩
instance : Und Try.prog 30 (Go.TypeDesc.tuple #[28, 4]) := ⟨Try.underlying30⟩
instance : Zec Try.prog 30 (Go.Value.tuple #[(Go.Value.agg #[(Go.Value.string { data := #[] }), (Go.Value.string { data := #[] }), (Go.Value.string { data := #[] }), (Go.Value.string { data := #[] }), (Go.Value.bool false)]), (Go.Value.bool false)]) := ⟨ze30⟩
instance : Szc Try.prog 31 1 := ⟨sz31⟩
instance : Bsc Try.prog 31 8 := ⟨bs31⟩
instance : Und Try.prog 31 (Go.TypeDesc.func #[9] #[28, 4] false) := ⟨Try.underlying31⟩
instance : Zec Try.prog 31 (Go.Value.nilFunc) := ⟨ze31⟩
instance : Szc Try.prog 32 1 := ⟨sz32⟩
instance : Bsc Try.prog 32 8 := ⟨bs32⟩
instance : Und Try.prog 32 (Go.TypeDesc.func #[9] #[4] false) := ⟨Try.underlying32⟩
instance : Zec Try.prog 32 (Go.Value.nilFunc) := ⟨ze32⟩
instance : Szc Try.prog 33 1 := ⟨sz33⟩
instance : Bsc Try.prog 33 8 := ⟨bs33⟩
instance : Und Try.prog 33 (Go.TypeDesc.int Go.IntKind.i64) := ⟨Try.underlying33⟩
instance : Zec Try.prog 33 (Go.Value.int Go.IntKind.i64 0) := ⟨ze33⟩
instance : Szc Try.prog 34 1 := ⟨sz34⟩
instance : Bsc Try.prog 34 0 := ⟨bs34⟩
instance : Und Try.prog 34 (Go.TypeDesc.tuple #[26, 33]) := ⟨Try.underlying34⟩
instance : Zec Try.prog 34 (Go.Value.tuple #[(Go.Value.agg #[(Go.Value.string { data := #[] }), (Go.Value.string { data := #[] })]), (Go.Value.int Go.IntKind.i64 0)]) := ⟨ze34⟩
instance : Szc Try.prog 35 1 := ⟨sz35⟩
instance : Bsc Try.prog 35 8 := ⟨bs35⟩
instance : Und Try.prog 35 (Go.TypeDesc.func #[26, 26] #[26, 33] false) := ⟨Try.underlying35⟩
instance : Zec Try.prog 35 (Go.Value.nilFunc) := ⟨ze35⟩
instance : Szc Try.prog 36 1 := ⟨sz36⟩
instance : Bsc Try.prog 36 8 := ⟨bs36⟩
instance : Und Try.prog 36 (Go.TypeDesc.func #[26, 3] #[26, 33] false) := ⟨Try.underlying36⟩
instance : Zec Try.prog 36 (Go.Value.nilFunc) := ⟨ze36⟩
instance : Szc Try.prog 37 1 := ⟨sz37⟩
instance : Bsc Try.prog 37 24 := ⟨bs37⟩
instance : Und Try.prog 37 (Go.TypeDesc.slice 43) := ⟨Try.underlying37⟩
instance : Zec Try.prog 37 (Go.Value.slice none 0 0) := ⟨ze37⟩
instance : Szc Try.prog 38 1 := ⟨sz38⟩
instance : Bsc Try.prog 38 0 := ⟨bs38⟩
instance : Und Try.prog 38 (Go.TypeDesc.tuple #[28, 3, 33]) := ⟨Try.underlying38⟩
instance : Zec Try.prog 38 (Go.Value.tuple #[(Go.Value.agg #[(Go.Value.string { data := #[] }), (Go.Value.string { data := #[] }), (Go.Value.string { data := #[] }), (Go.Value.string { data := #[] }), (Go.Value.bool false)]), (Go.Value.int Go.IntKind.i64 0), (Go.Value.int Go.IntKind.i64 0)]) := ⟨ze38⟩
instance : Szc Try.prog 39 1 := ⟨sz39⟩
instance : Bsc Try.prog 39 8 := ⟨bs39⟩
instance : Und Try.prog 39 (Go.TypeDesc.func #[9, 37] #[28, 3, 33] false) := ⟨Try.underlying39⟩
instance : Zec Try.prog 39 (Go.Value.nilFunc) := ⟨ze39⟩
instance : Szc Try.prog 40 8 := ⟨sz40⟩
instance : Bsc Try.prog 40 64 := ⟨bs40⟩
instance : Und Try.prog 40 (Go.TypeDesc.array 8 3) := ⟨Try.underlying40⟩
instance : Zec Try.prog 40 (Go.Value.agg #[(Go.Value.int Go.IntKind.i64 0), (Go.Value.int Go.IntKind.i64 0), (Go.Value.int Go.IntKind.i64 0), (Go.Value.int Go.IntKind.i64 0), (Go.Value.int Go.IntKind.i64 0), (Go.Value.int Go.IntKind.i64 0), (Go.Value.int Go.IntKind.i64 0), (Go.Value.int Go.IntKind.i64 0)]) := ⟨ze40⟩
instance : Szc Try.prog 41 8 := ⟨sz41⟩
instance : Bsc Try.prog 41 64 := ⟨bs41⟩
instance : Und Try.prog 41 (Go.TypeDesc.array 8 3) := ⟨Try.underlying41⟩
instance : Zec Try.prog 41 (Go.Value.agg #[(Go.Value.int Go.IntKind.i64 0), (Go.Value.int Go.IntKind.i64 0), (Go.Value.int Go.IntKind.i64 0), (Go.Value.int Go.IntKind.i64 0), (Go.Value.int Go.IntKind.i64 0), (Go.Value.int Go.IntKind.i64 0), (Go.Value.int Go.IntKind.i64 0), (Go.Value.int Go.IntKind.i64 0)]) := ⟨ze41⟩
instance : Szc Try.prog 42 15 := ⟨sz42⟩
instance : Bsc Try.prog 42 168 := ⟨bs42⟩
instance : Und Try.prog 42 (Go.TypeDesc.struct #[{ name := "Name", type := 9, offset := 0, embedded := false, tag := "", pkgPath := "", byteOffset := 0 }, { name := "Symbol", type := 9, offset := 1, embedded := false, tag := "", pkgPath := "", byteOffset := 16 }, { name := "Dim", type := 41, offset := 2, embedded := false, tag := "", pkgPath := "", byteOffset := 32 }, { name := "Factor", type := 26, offset := 10, embedded := false, tag := "", pkgPath := "", byteOffset := 96 }, { name := "Offset", type := 26, offset := 12, embedded := false, tag := "", pkgPath := "", byteOffset := 128 }, { name := "Takes", type := 3, offset := 14, embedded := false, tag := "", pkgPath := "", byteOffset := 160 }]) := ⟨Try.underlying42⟩
instance : Zec Try.prog 42 (Go.Value.agg #[(Go.Value.string { data := #[] }), (Go.Value.string { data := #[] }), (Go.Value.int Go.IntKind.i64 0), (Go.Value.int Go.IntKind.i64 0), (Go.Value.int Go.IntKind.i64 0), (Go.Value.int Go.IntKind.i64 0), (Go.Value.int Go.IntKind.i64 0), (Go.Value.int Go.IntKind.i64 0), (Go.Value.int Go.IntKind.i64 0), (Go.Value.int Go.IntKind.i64 0), (Go.Value.string { data := #[] }), (Go.Value.string { data := #[] }), (Go.Value.string { data := #[] }), (Go.Value.string { data := #[] }), (Go.Value.int Go.IntKind.i64 0)]) := ⟨ze42⟩
instance : Szc Try.prog 43 15 := ⟨sz43⟩
instance : Bsc Try.prog 43 168 := ⟨bs43⟩
instance : Und Try.prog 43 (Go.TypeDesc.struct #[{ name := "Name", type := 9, offset := 0, embedded := false, tag := "", pkgPath := "", byteOffset := 0 }, { name := "Symbol", type := 9, offset := 1, embedded := false, tag := "", pkgPath := "", byteOffset := 16 }, { name := "Dim", type := 41, offset := 2, embedded := false, tag := "", pkgPath := "", byteOffset := 32 }, { name := "Factor", type := 26, offset := 10, embedded := false, tag := "", pkgPath := "", byteOffset := 96 }, { name := "Offset", type := 26, offset := 12, embedded := false, tag := "", pkgPath := "", byteOffset := 128 }, { name := "Takes", type := 3, offset := 14, embedded := false, tag := "", pkgPath := "", byteOffset := 160 }]) := ⟨Try.underlying43⟩
instance : Zec Try.prog 43 (Go.Value.agg #[(Go.Value.string { data := #[] }), (Go.Value.string { data := #[] }), (Go.Value.int Go.IntKind.i64 0), (Go.Value.int Go.IntKind.i64 0), (Go.Value.int Go.IntKind.i64 0), (Go.Value.int Go.IntKind.i64 0), (Go.Value.int Go.IntKind.i64 0), (Go.Value.int Go.IntKind.i64 0), (Go.Value.int Go.IntKind.i64 0), (Go.Value.int Go.IntKind.i64 0), (Go.Value.string { data := #[] }), (Go.Value.string { data := #[] }), (Go.Value.string { data := #[] }), (Go.Value.string { data := #[] }), (Go.Value.int Go.IntKind.i64 0)]) := ⟨ze43⟩
instance : Szc Try.prog 44 1 := ⟨sz44⟩
instance : Bsc Try.prog 44 8 := ⟨bs44⟩
instance : Und Try.prog 44 (Go.TypeDesc.func #[9, 37] #[4] false) := ⟨Try.underlying44⟩
instance : Zec Try.prog 44 (Go.Value.nilFunc) := ⟨ze44⟩
instance : Szc Try.prog 45 1 := ⟨sz45⟩
instance : Bsc Try.prog 45 8 := ⟨bs45⟩
instance : Und Try.prog 45 (Go.TypeDesc.func #[] #[3] false) := ⟨Try.underlying45⟩
instance : Zec Try.prog 45 (Go.Value.nilFunc) := ⟨ze45⟩
instance : Szc Try.prog 46 4 := ⟨sz46⟩
instance : Bsc Try.prog 46 48 := ⟨bs46⟩
instance : Und Try.prog 46 (Go.TypeDesc.struct #[{ name := "name", type := 9, offset := 0, embedded := false, tag := "", pkgPath := "cubit/prefix", byteOffset := 0 }, { name := "symbol", type := 9, offset := 1, embedded := false, tag := "", pkgPath := "cubit/prefix", byteOffset := 16 }, { name := "power", type := 3, offset := 2, embedded := false, tag := "", pkgPath := "cubit/prefix", byteOffset := 32 }, { name := "binary", type := 4, offset := 3, embedded := false, tag := "", pkgPath := "cubit/prefix", byteOffset := 40 }]) := ⟨Try.underlying46⟩
instance : Zec Try.prog 46 (Go.Value.agg #[(Go.Value.string { data := #[] }), (Go.Value.string { data := #[] }), (Go.Value.int Go.IntKind.i64 0), (Go.Value.bool false)]) := ⟨ze46⟩
instance : Szc Try.prog 47 4 := ⟨sz47⟩
instance : Bsc Try.prog 47 48 := ⟨bs47⟩
instance : Und Try.prog 47 (Go.TypeDesc.struct #[{ name := "name", type := 9, offset := 0, embedded := false, tag := "", pkgPath := "cubit/prefix", byteOffset := 0 }, { name := "symbol", type := 9, offset := 1, embedded := false, tag := "", pkgPath := "cubit/prefix", byteOffset := 16 }, { name := "power", type := 3, offset := 2, embedded := false, tag := "", pkgPath := "cubit/prefix", byteOffset := 32 }, { name := "binary", type := 4, offset := 3, embedded := false, tag := "", pkgPath := "cubit/prefix", byteOffset := 40 }]) := ⟨Try.underlying47⟩
instance : Zec Try.prog 47 (Go.Value.agg #[(Go.Value.string { data := #[] }), (Go.Value.string { data := #[] }), (Go.Value.int Go.IntKind.i64 0), (Go.Value.bool false)]) := ⟨ze47⟩
instance : Szc Try.prog 48 1 := ⟨sz48⟩
instance : Bsc Try.prog 48 24 := ⟨bs48⟩
instance : Und Try.prog 48 (Go.TypeDesc.slice 47) := ⟨Try.underlying48⟩
instance : Zec Try.prog 48 (Go.Value.slice none 0 0) := ⟨ze48⟩
instance : Szc Try.prog 49 1 := ⟨sz49⟩
instance : Bsc Try.prog 49 8 := ⟨bs49⟩
instance : Und Try.prog 49 (Go.TypeDesc.func #[2] #[26] false) := ⟨Try.underlying49⟩
instance : Zec Try.prog 49 (Go.Value.nilFunc) := ⟨ze49⟩
instance : Szc Try.prog 50 1 := ⟨sz50⟩
instance : Bsc Try.prog 50 24 := ⟨bs50⟩
instance : Und Try.prog 50 (Go.TypeDesc.slice 53) := ⟨Try.underlying50⟩
instance : Zec Try.prog 50 (Go.Value.slice none 0 0) := ⟨ze50⟩
instance : Szc Try.prog 51 1 := ⟨sz51⟩
instance : Bsc Try.prog 51 8 := ⟨bs51⟩
instance : Und Try.prog 51 (Go.TypeDesc.func #[] #[50] false) := ⟨Try.underlying51⟩
instance : Zec Try.prog 51 (Go.Value.nilFunc) := ⟨ze51⟩
instance : Szc Try.prog 52 3 := ⟨sz52⟩
instance : Bsc Try.prog 52 40 := ⟨bs52⟩
instance : Und Try.prog 52 (Go.TypeDesc.struct #[{ name := "name", type := 9, offset := 0, embedded := false, tag := "", pkgPath := "cubit/cubitref07", byteOffset := 0 }, { name := "symbol", type := 9, offset := 1, embedded := false, tag := "", pkgPath := "cubit/cubitref07", byteOffset := 16 }, { name := "exp", type := 3, offset := 2, embedded := false, tag := "", pkgPath := "cubit/cubitref07", byteOffset := 32 }]) := ⟨Try.underlying52⟩
instance : Zec Try.prog 52 (Go.Value.agg #[(Go.Value.string { data := #[] }), (Go.Value.string { data := #[] }), (Go.Value.int Go.IntKind.i64 0)]) := ⟨ze52⟩
instance : Szc Try.prog 53 3 := ⟨sz53⟩
instance : Bsc Try.prog 53 40 := ⟨bs53⟩
instance : Und Try.prog 53 (Go.TypeDesc.struct #[{ name := "name", type := 9, offset := 0, embedded := false, tag := "", pkgPath := "cubit/cubitref07", byteOffset := 0 }, { name := "symbol", type := 9, offset := 1, embedded := false, tag := "", pkgPath := "cubit/cubitref07", byteOffset := 16 }, { name := "exp", type := 3, offset := 2, embedded := false, tag := "", pkgPath := "cubit/cubitref07", byteOffset := 32 }]) := ⟨Try.underlying53⟩
instance : Zec Try.prog 53 (Go.Value.agg #[(Go.Value.string { data := #[] }), (Go.Value.string { data := #[] }), (Go.Value.int Go.IntKind.i64 0)]) := ⟨ze53⟩
instance : Szc Try.prog 54 1 := ⟨sz54⟩
instance : Bsc Try.prog 54 8 := ⟨bs54⟩
instance : Und Try.prog 54 (Go.TypeDesc.func #[9, 3] #[9] false) := ⟨Try.underlying54⟩
instance : Zec Try.prog 54 (Go.Value.nilFunc) := ⟨ze54⟩
instance : Szc Try.prog 55 1 := ⟨sz55⟩
instance : Bsc Try.prog 55 8 := ⟨bs55⟩
instance : Und Try.prog 55 (Go.TypeDesc.func #[22, 9] #[28, 4] false) := ⟨Try.underlying55⟩
instance : Zec Try.prog 55 (Go.Value.nilFunc) := ⟨ze55⟩
instance : Szc Try.prog 56 1 := ⟨sz56⟩
instance : Bsc Try.prog 56 8 := ⟨bs56⟩
instance : Und Try.prog 56 (Go.TypeDesc.func #[28, 9] #[4] false) := ⟨Try.underlying56⟩
instance : Zec Try.prog 56 (Go.Value.nilFunc) := ⟨ze56⟩
instance : Szc Try.prog 57 1 := ⟨sz57⟩
instance : Bsc Try.prog 57 8 := ⟨bs57⟩
instance : Und Try.prog 57 (Go.TypeDesc.func #[26, 26, 60] #[26, 33] false) := ⟨Try.underlying57⟩
instance : Zec Try.prog 57 (Go.Value.nilFunc) := ⟨ze57⟩
instance : Szc Try.prog 58 1 := ⟨sz58⟩
instance : Bsc Try.prog 58 8 := ⟨bs58⟩
instance : Und Try.prog 58 (Go.TypeDesc.pointer 88) := ⟨Try.underlying58⟩
instance : Zec Try.prog 58 (Go.Value.pointer none) := ⟨ze58⟩
instance : Szc Try.prog 59 1 := ⟨sz59⟩
instance : Bsc Try.prog 59 8 := ⟨bs59⟩
instance : Und Try.prog 59 (Go.TypeDesc.func #[58, 58] #[58] false) := ⟨Try.underlying59⟩
instance : Zec Try.prog 59 (Go.Value.nilFunc) := ⟨ze59⟩
instance : Szc Try.prog 60 1 := ⟨sz60⟩
instance : Bsc Try.prog 60 8 := ⟨bs60⟩
instance : Und Try.prog 60 (Go.TypeDesc.func #[58, 58, 58] #[33] false) := ⟨Try.underlying60⟩
instance : Zec Try.prog 60 (Go.Value.nilFunc) := ⟨ze60⟩
instance : Szc Try.prog 61 1 := ⟨sz61⟩
instance : Bsc Try.prog 61 8 := ⟨bs61⟩
instance : Und Try.prog 61 (Go.TypeDesc.func #[26, 71] #[26, 33] false) := ⟨Try.underlying61⟩
instance : Zec Try.prog 61 (Go.Value.nilFunc) := ⟨ze61⟩
instance : Szc Try.prog 62 1 := ⟨sz62⟩
instance : Bsc Try.prog 62 8 := ⟨bs62⟩
instance : Und Try.prog 62 (Go.TypeDesc.pointer 68) := ⟨Try.underlying62⟩
instance : Zec Try.prog 62 (Go.Value.pointer none) := ⟨ze62⟩
instance : Szc Try.prog 63 1 := ⟨sz63⟩
instance : Bsc Try.prog 63 8 := ⟨bs63⟩
instance : Und Try.prog 63 (Go.TypeDesc.func #[2] #[62] false) := ⟨Try.underlying63⟩
instance : Zec Try.prog 63 (Go.Value.nilFunc) := ⟨ze63⟩
instance : Szc Try.prog 64 1 := ⟨sz64⟩
instance : Bsc Try.prog 64 8 := ⟨bs64⟩
instance : Und Try.prog 64 (Go.TypeDesc.func #[] #[62] false) := ⟨Try.underlying64⟩
instance : Zec Try.prog 64 (Go.Value.nilFunc) := ⟨ze64⟩
instance : Szc Try.prog 65 1 := ⟨sz65⟩
instance : Bsc Try.prog 65 8 := ⟨bs65⟩
instance : Und Try.prog 65 (Go.TypeDesc.func #[] #[2] false) := ⟨Try.underlying65⟩
instance : Zec Try.prog 65 (Go.Value.nilFunc) := ⟨ze65⟩
instance : Szc Try.prog 66 1 := ⟨sz66⟩
instance : Bsc Try.prog 66 24 := ⟨bs66⟩
instance : Und Try.prog 66 (Go.TypeDesc.slice 93) := ⟨Try.underlying66⟩
instance : Zec Try.prog 66 (Go.Value.slice none 0 0) := ⟨ze66⟩
instance : Szc Try.prog 67 2 := ⟨sz67⟩
instance : Bsc Try.prog 67 32 := ⟨bs67⟩
instance : Und Try.prog 67 (Go.TypeDesc.struct #[{ name := "neg", type := 4, offset := 0, embedded := false, tag := "", pkgPath := "cubit/ample", byteOffset := 0 }, { name := "w", type := 66, offset := 1, embedded := false, tag := "", pkgPath := "cubit/ample", byteOffset := 8 }]) := ⟨Try.underlying67⟩
instance : Zec Try.prog 67 (Go.Value.agg #[(Go.Value.bool false), (Go.Value.slice none 0 0)]) := ⟨ze67⟩
instance : Szc Try.prog 68 2 := ⟨sz68⟩
instance : Bsc Try.prog 68 32 := ⟨bs68⟩
instance : Und Try.prog 68 (Go.TypeDesc.struct #[{ name := "neg", type := 4, offset := 0, embedded := false, tag := "", pkgPath := "cubit/ample", byteOffset := 0 }, { name := "w", type := 66, offset := 1, embedded := false, tag := "", pkgPath := "cubit/ample", byteOffset := 8 }]) := ⟨Try.underlying68⟩
instance : Zec Try.prog 68 (Go.Value.agg #[(Go.Value.bool false), (Go.Value.slice none 0 0)]) := ⟨ze68⟩
instance : Szc Try.prog 69 1 := ⟨sz69⟩
instance : Bsc Try.prog 69 8 := ⟨bs69⟩
instance : Und Try.prog 69 (Go.TypeDesc.func #[62, 62, 62] #[62] false) := ⟨Try.underlying69⟩
instance : Zec Try.prog 69 (Go.Value.nilFunc) := ⟨ze69⟩
instance : Szc Try.prog 70 1 := ⟨sz70⟩
instance : Bsc Try.prog 70 8 := ⟨bs70⟩
instance : Und Try.prog 70 (Go.TypeDesc.func #[62, 62] #[58] false) := ⟨Try.underlying70⟩
instance : Zec Try.prog 70 (Go.Value.nilFunc) := ⟨ze70⟩
instance : Szc Try.prog 71 1 := ⟨sz71⟩
instance : Bsc Try.prog 71 8 := ⟨bs71⟩
instance : Und Try.prog 71 (Go.TypeDesc.func #[58, 58] #[33] false) := ⟨Try.underlying71⟩
instance : Zec Try.prog 71 (Go.Value.nilFunc) := ⟨ze71⟩
instance : Szc Try.prog 72 1 := ⟨sz72⟩
instance : Bsc Try.prog 72 24 := ⟨bs72⟩
instance : Und Try.prog 72 (Go.TypeDesc.slice 76) := ⟨Try.underlying72⟩
instance : Zec Try.prog 72 (Go.Value.slice none 0 0) := ⟨ze72⟩
instance : Szc Try.prog 73 1 := ⟨sz73⟩
instance : Bsc Try.prog 73 8 := ⟨bs73⟩
instance : Und Try.prog 73 (Go.TypeDesc.func #[] #[72] false) := ⟨Try.underlying73⟩
instance : Zec Try.prog 73 (Go.Value.nilFunc) := ⟨ze73⟩
instance : Szc Try.prog 74 1 := ⟨sz74⟩
instance : Bsc Try.prog 74 8 := ⟨bs74⟩
instance : Und Try.prog 74 (Go.TypeDesc.func #[43] #[9] false) := ⟨Try.underlying74⟩
instance : Zec Try.prog 74 (Go.Value.nilFunc) := ⟨ze74⟩
instance : Szc Try.prog 75 2 := ⟨sz75⟩
instance : Bsc Try.prog 75 16 := ⟨bs75⟩
instance : Und Try.prog 75 (Go.TypeDesc.struct #[{ name := "find", type := 55, offset := 0, embedded := false, tag := "", pkgPath := "cubit/prefix", byteOffset := 0 }, { name := "text", type := 74, offset := 1, embedded := false, tag := "", pkgPath := "cubit/prefix", byteOffset := 8 }]) := ⟨Try.underlying75⟩
instance : Zec Try.prog 75 (Go.Value.agg #[Go.Value.nilFunc, Go.Value.nilFunc]) := ⟨ze75⟩
instance : Szc Try.prog 76 2 := ⟨sz76⟩
instance : Bsc Try.prog 76 16 := ⟨bs76⟩
instance : Und Try.prog 76 (Go.TypeDesc.struct #[{ name := "find", type := 55, offset := 0, embedded := false, tag := "", pkgPath := "cubit/prefix", byteOffset := 0 }, { name := "text", type := 74, offset := 1, embedded := false, tag := "", pkgPath := "cubit/prefix", byteOffset := 8 }]) := ⟨Try.underlying76⟩
instance : Zec Try.prog 76 (Go.Value.agg #[Go.Value.nilFunc, Go.Value.nilFunc]) := ⟨ze76⟩
instance : Szc Try.prog 77 1 := ⟨sz77⟩
instance : Bsc Try.prog 77 8 := ⟨bs77⟩
instance : Und Try.prog 77 (Go.TypeDesc.func #[43, 28] #[4] false) := ⟨Try.underlying77⟩
instance : Zec Try.prog 77 (Go.Value.nilFunc) := ⟨ze77⟩
instance : Szc Try.prog 78 1 := ⟨sz78⟩
instance : Bsc Try.prog 78 8 := ⟨bs78⟩
instance : Und Try.prog 78 (Go.TypeDesc.func #[] #[9] false) := ⟨Try.underlying78⟩
instance : Zec Try.prog 78 (Go.Value.nilFunc) := ⟨ze78⟩
instance : Szc Try.prog 79 1 := ⟨sz79⟩
instance : Bsc Try.prog 79 8 := ⟨bs79⟩
instance : Und Try.prog 79 (Go.TypeDesc.func #[9, 9] #[9] false) := ⟨Try.underlying79⟩
instance : Zec Try.prog 79 (Go.Value.nilFunc) := ⟨ze79⟩
instance : Szc Try.prog 80 1 := ⟨sz80⟩
instance : Bsc Try.prog 80 16 := ⟨bs80⟩
instance : Und Try.prog 80 (Go.TypeDesc.struct #[{ name := "of", type := 9, offset := 0, embedded := false, tag := "", pkgPath := "cubit/prefix", byteOffset := 0 }]) := ⟨Try.underlying80⟩
instance : Zec Try.prog 80 (Go.Value.agg #[(Go.Value.string { data := #[] })]) := ⟨ze80⟩
instance : Szc Try.prog 81 1 := ⟨sz81⟩
instance : Bsc Try.prog 81 16 := ⟨bs81⟩
instance : Und Try.prog 81 (Go.TypeDesc.struct #[{ name := "of", type := 9, offset := 0, embedded := false, tag := "", pkgPath := "cubit/prefix", byteOffset := 0 }]) := ⟨Try.underlying81⟩
instance : Zec Try.prog 81 (Go.Value.agg #[(Go.Value.string { data := #[] })]) := ⟨ze81⟩
instance : Szc Try.prog 82 1 := ⟨sz82⟩
instance : Bsc Try.prog 82 0 := ⟨bs82⟩
instance : Und Try.prog 82 (Go.TypeDesc.tuple #[81, 4]) := ⟨Try.underlying82⟩
instance : Zec Try.prog 82 (Go.Value.tuple #[(Go.Value.agg #[(Go.Value.string { data := #[] })]), (Go.Value.bool false)]) := ⟨ze82⟩
instance : Szc Try.prog 83 1 := ⟨sz83⟩
instance : Bsc Try.prog 83 8 := ⟨bs83⟩
instance : Und Try.prog 83 (Go.TypeDesc.map 9 81) := ⟨Try.underlying83⟩
instance : Zec Try.prog 83 (Go.Value.map none) := ⟨ze83⟩
instance : Szc Try.prog 84 1 := ⟨sz84⟩
instance : Bsc Try.prog 84 8 := ⟨bs84⟩
instance : Und Try.prog 84 (Go.TypeDesc.func #[] #[83] false) := ⟨Try.underlying84⟩
instance : Zec Try.prog 84 (Go.Value.nilFunc) := ⟨ze84⟩
instance : Szc Try.prog 85 1 := ⟨sz85⟩
instance : Bsc Try.prog 85 24 := ⟨bs85⟩
instance : Und Try.prog 85 (Go.TypeDesc.slice 58) := ⟨Try.underlying85⟩
instance : Zec Try.prog 85 (Go.Value.slice none 0 0) := ⟨ze85⟩
instance : Szc Try.prog 86 1 := ⟨sz86⟩
instance : Bsc Try.prog 86 8 := ⟨bs86⟩
instance : Und Try.prog 86 (Go.TypeDesc.func #[109] #[85] true) := ⟨Try.underlying86⟩
instance : Zec Try.prog 86 (Go.Value.nilFunc) := ⟨ze86⟩
instance : Szc Try.prog 87 4 := ⟨sz87⟩
instance : Bsc Try.prog 87 64 := ⟨bs87⟩
instance : Und Try.prog 87 (Go.TypeDesc.struct #[{ name := "a", type := 68, offset := 0, embedded := false, tag := "", pkgPath := "cubit/ample", byteOffset := 0 }, { name := "b", type := 68, offset := 2, embedded := false, tag := "", pkgPath := "cubit/ample", byteOffset := 32 }]) := ⟨Try.underlying87⟩
instance : Zec Try.prog 87 (Go.Value.agg #[(Go.Value.bool false), (Go.Value.slice none 0 0), (Go.Value.bool false), (Go.Value.slice none 0 0)]) := ⟨ze87⟩
instance : Szc Try.prog 88 4 := ⟨sz88⟩
instance : Bsc Try.prog 88 64 := ⟨bs88⟩
instance : Und Try.prog 88 (Go.TypeDesc.struct #[{ name := "a", type := 68, offset := 0, embedded := false, tag := "", pkgPath := "cubit/ample", byteOffset := 0 }, { name := "b", type := 68, offset := 2, embedded := false, tag := "", pkgPath := "cubit/ample", byteOffset := 32 }]) := ⟨Try.underlying88⟩
instance : Zec Try.prog 88 (Go.Value.agg #[(Go.Value.bool false), (Go.Value.slice none 0 0), (Go.Value.bool false), (Go.Value.slice none 0 0)]) := ⟨ze88⟩
instance : Szc Try.prog 89 1 := ⟨sz89⟩
instance : Bsc Try.prog 89 8 := ⟨bs89⟩
instance : Und Try.prog 89 (Go.TypeDesc.func #[58] #[26, 33] false) := ⟨Try.underlying89⟩
instance : Zec Try.prog 89 (Go.Value.nilFunc) := ⟨ze89⟩
instance : Szc Try.prog 90 1 := ⟨sz90⟩
instance : Bsc Try.prog 90 8 := ⟨bs90⟩
instance : Und Try.prog 90 (Go.TypeDesc.func #[62, 62] #[62] false) := ⟨Try.underlying90⟩
instance : Zec Try.prog 90 (Go.Value.nilFunc) := ⟨ze90⟩
instance : Szc Try.prog 91 1 := ⟨sz91⟩
instance : Bsc Try.prog 91 8 := ⟨bs91⟩
instance : Und Try.prog 91 (Go.TypeDesc.func #[62] #[62] false) := ⟨Try.underlying91⟩
instance : Zec Try.prog 91 (Go.Value.nilFunc) := ⟨ze91⟩
instance : Szc Try.prog 92 1 := ⟨sz92⟩
instance : Bsc Try.prog 92 8 := ⟨bs92⟩
instance : Und Try.prog 92 (Go.TypeDesc.func #[93] #[3] false) := ⟨Try.underlying92⟩
instance : Zec Try.prog 92 (Go.Value.nilFunc) := ⟨ze92⟩
instance : Szc Try.prog 93 1 := ⟨sz93⟩
instance : Bsc Try.prog 93 4 := ⟨bs93⟩
instance : Und Try.prog 93 (Go.TypeDesc.int Go.IntKind.u32) := ⟨Try.underlying93⟩
instance : Zec Try.prog 93 (Go.Value.int Go.IntKind.u32 0) := ⟨ze93⟩
instance : Szc Try.prog 94 1 := ⟨sz94⟩
instance : Bsc Try.prog 94 8 := ⟨bs94⟩
instance : Und Try.prog 94 (Go.TypeDesc.int Go.IntKind.u64) := ⟨Try.underlying94⟩
instance : Zec Try.prog 94 (Go.Value.int Go.IntKind.u64 0) := ⟨ze94⟩
instance : Szc Try.prog 95 1 := ⟨sz95⟩
instance : Bsc Try.prog 95 8 := ⟨bs95⟩
instance : Und Try.prog 95 (Go.TypeDesc.int Go.IntKind.u64) := ⟨Try.underlying95⟩
instance : Zec Try.prog 95 (Go.Value.int Go.IntKind.u64 0) := ⟨ze95⟩
instance : Szc Try.prog 96 1 := ⟨sz96⟩
instance : Bsc Try.prog 96 8 := ⟨bs96⟩
instance : Und Try.prog 96 (Go.TypeDesc.func #[3] #[95] false) := ⟨Try.underlying96⟩
instance : Zec Try.prog 96 (Go.Value.nilFunc) := ⟨ze96⟩
instance : Szc Try.prog 97 1 := ⟨sz97⟩
instance : Bsc Try.prog 97 8 := ⟨bs97⟩
instance : Und Try.prog 97 (Go.TypeDesc.func #[62, 62, 62, 62] #[62] false) := ⟨Try.underlying97⟩
instance : Zec Try.prog 97 (Go.Value.nilFunc) := ⟨ze97⟩
instance : Szc Try.prog 98 1 := ⟨sz98⟩
instance : Bsc Try.prog 98 8 := ⟨bs98⟩
instance : Und Try.prog 98 (Go.TypeDesc.func #[62] #[3] false) := ⟨Try.underlying98⟩
instance : Zec Try.prog 98 (Go.Value.nilFunc) := ⟨ze98⟩
instance : Szc Try.prog 99 1 := ⟨sz99⟩
instance : Bsc Try.prog 99 8 := ⟨bs99⟩
instance : Und Try.prog 99 (Go.TypeDesc.func #[4, 66] #[62] false) := ⟨Try.underlying99⟩
instance : Zec Try.prog 99 (Go.Value.nilFunc) := ⟨ze99⟩
instance : Szc Try.prog 100 1 := ⟨sz100⟩
instance : Bsc Try.prog 100 24 := ⟨bs100⟩
instance : Und Try.prog 100 (Go.TypeDesc.slice 5) := ⟨Try.underlying100⟩
instance : Zec Try.prog 100 (Go.Value.slice none 0 0) := ⟨ze100⟩
instance : Szc Try.prog 101 1 := ⟨sz101⟩
instance : Bsc Try.prog 101 0 := ⟨bs101⟩
instance : Und Try.prog 101 (Go.TypeDesc.tuple #[66, 93]) := ⟨Try.underlying101⟩
instance : Zec Try.prog 101 (Go.Value.tuple #[(Go.Value.slice none 0 0), (Go.Value.int Go.IntKind.u32 0)]) := ⟨ze101⟩
instance : Szc Try.prog 102 1 := ⟨sz102⟩
instance : Bsc Try.prog 102 8 := ⟨bs102⟩
instance : Und Try.prog 102 (Go.TypeDesc.func #[66, 93] #[66, 93] false) := ⟨Try.underlying102⟩
instance : Zec Try.prog 102 (Go.Value.nilFunc) := ⟨ze102⟩
instance : Szc Try.prog 103 1 := ⟨sz103⟩
instance : Bsc Try.prog 103 8 := ⟨bs103⟩
instance : Und Try.prog 103 (Go.TypeDesc.func #[66] #[66] false) := ⟨Try.underlying103⟩
instance : Zec Try.prog 103 (Go.Value.nilFunc) := ⟨ze103⟩
instance : Szc Try.prog 104 1 := ⟨sz104⟩
instance : Bsc Try.prog 104 8 := ⟨bs104⟩
instance : Und Try.prog 104 (Go.TypeDesc.func #[100] #[] false) := ⟨Try.underlying104⟩
instance : Zec Try.prog 104 (Go.Value.nilFunc) := ⟨ze104⟩
instance : Szc Try.prog 105 1 := ⟨sz105⟩
instance : Bsc Try.prog 105 8 := ⟨bs105⟩
instance : Und Try.prog 105 (Go.TypeDesc.func #[106] #[9] false) := ⟨Try.underlying105⟩
instance : Zec Try.prog 105 (Go.Value.nilFunc) := ⟨ze105⟩
instance : Szc Try.prog 106 1 := ⟨sz106⟩
instance : Bsc Try.prog 106 24 := ⟨bs106⟩
instance : Und Try.prog 106 (Go.TypeDesc.slice 3) := ⟨Try.underlying106⟩
instance : Zec Try.prog 106 (Go.Value.slice none 0 0) := ⟨ze106⟩
instance : Szc Try.prog 107 1 := ⟨sz107⟩
instance : Bsc Try.prog 107 8 := ⟨bs107⟩
instance : Und Try.prog 107 (Go.TypeDesc.func #[106, 106] #[106] false) := ⟨Try.underlying107⟩
instance : Zec Try.prog 107 (Go.Value.nilFunc) := ⟨ze107⟩
instance : Szc Try.prog 108 1 := ⟨sz108⟩
instance : Bsc Try.prog 108 8 := ⟨bs108⟩
instance : Und Try.prog 108 (Go.TypeDesc.func #[9] #[106] false) := ⟨Try.underlying108⟩
instance : Zec Try.prog 108 (Go.Value.nilFunc) := ⟨ze108⟩
instance : Szc Try.prog 109 1 := ⟨sz109⟩
instance : Bsc Try.prog 109 24 := ⟨bs109⟩
instance : Und Try.prog 109 (Go.TypeDesc.slice 26) := ⟨Try.underlying109⟩
instance : Zec Try.prog 109 (Go.Value.slice none 0 0) := ⟨ze109⟩
instance : Szc Try.prog 110 1 := ⟨sz110⟩
instance : Bsc Try.prog 110 8 := ⟨bs110⟩
instance : Und Try.prog 110 (Go.TypeDesc.func #[26] #[58] false) := ⟨Try.underlying110⟩
instance : Zec Try.prog 110 (Go.Value.nilFunc) := ⟨ze110⟩
instance : Szc Try.prog 111 1 := ⟨sz111⟩
instance : Bsc Try.prog 111 0 := ⟨bs111⟩
instance : Und Try.prog 111 (Go.TypeDesc.tuple #[66, 66]) := ⟨Try.underlying111⟩
instance : Zec Try.prog 111 (Go.Value.tuple #[(Go.Value.slice none 0 0), (Go.Value.slice none 0 0)]) := ⟨ze111⟩
instance : Szc Try.prog 112 1 := ⟨sz112⟩
instance : Bsc Try.prog 112 8 := ⟨bs112⟩
instance : Und Try.prog 112 (Go.TypeDesc.func #[66, 66] #[66, 66] false) := ⟨Try.underlying112⟩
instance : Zec Try.prog 112 (Go.Value.nilFunc) := ⟨ze112⟩
instance : Szc Try.prog 113 1 := ⟨sz113⟩
instance : Bsc Try.prog 113 8 := ⟨bs113⟩
instance : Und Try.prog 113 (Go.TypeDesc.func #[66, 66] #[3] false) := ⟨Try.underlying113⟩
instance : Zec Try.prog 113 (Go.Value.nilFunc) := ⟨ze113⟩
instance : Szc Try.prog 114 1 := ⟨sz114⟩
instance : Bsc Try.prog 114 8 := ⟨bs114⟩
instance : Und Try.prog 114 (Go.TypeDesc.func #[106] #[106] false) := ⟨Try.underlying114⟩
instance : Zec Try.prog 114 (Go.Value.nilFunc) := ⟨ze114⟩
instance : Szc Try.prog 115 1 := ⟨sz115⟩
instance : Bsc Try.prog 115 8 := ⟨bs115⟩
instance : Und Try.prog 115 (Go.TypeDesc.func #[9] #[62] false) := ⟨Try.underlying115⟩
instance : Zec Try.prog 115 (Go.Value.nilFunc) := ⟨ze115⟩
instance : Szc Try.prog 116 1 := ⟨sz116⟩
instance : Bsc Try.prog 116 8 := ⟨bs116⟩
instance : Und Try.prog 116 (Go.TypeDesc.func #[66, 3] #[66] false) := ⟨Try.underlying116⟩
instance : Zec Try.prog 116 (Go.Value.nilFunc) := ⟨ze116⟩
instance : Szc Try.prog 117 1 := ⟨sz117⟩
instance : Bsc Try.prog 117 8 := ⟨bs117⟩
instance : Und Try.prog 117 (Go.TypeDesc.func #[66, 66] #[93] false) := ⟨Try.underlying117⟩
instance : Zec Try.prog 117 (Go.Value.nilFunc) := ⟨ze117⟩
instance : Szc Try.prog 118 1 := ⟨sz118⟩
instance : Bsc Try.prog 118 0 := ⟨bs118⟩
instance : Und Try.prog 118 (Go.TypeDesc.tuple #[9, 4]) := ⟨Try.underlying118⟩
instance : Zec Try.prog 118 (Go.Value.tuple #[(Go.Value.string { data := #[] }), (Go.Value.bool false)]) := ⟨ze118⟩
instance : Szc Try.prog 119 1 := ⟨sz119⟩
instance : Bsc Try.prog 119 8 := ⟨bs119⟩
instance : Und Try.prog 119 (Go.TypeDesc.func #[9, 9] #[9, 4] false) := ⟨Try.underlying119⟩
instance : Zec Try.prog 119 (Go.Value.nilFunc) := ⟨ze119⟩
instance : Szc Try.prog 120 1 := ⟨sz120⟩
instance : Bsc Try.prog 120 0 := ⟨bs120⟩
instance : Und Try.prog 120 (Go.TypeDesc.tuple #[62, 4]) := ⟨Try.underlying120⟩
instance : Zec Try.prog 120 (Go.Value.tuple #[(Go.Value.pointer none), (Go.Value.bool false)]) := ⟨ze120⟩
instance : Szc Try.prog 121 1 := ⟨sz121⟩
instance : Bsc Try.prog 121 8 := ⟨bs121⟩
instance : Und Try.prog 121 (Go.TypeDesc.func #[9, 3] #[62, 4] false) := ⟨Try.underlying121⟩
instance : Zec Try.prog 121 (Go.Value.nilFunc) := ⟨ze121⟩
instance : Szc Try.prog 122 1 := ⟨sz122⟩
instance : Bsc Try.prog 122 8 := ⟨bs122⟩
instance : Und Try.prog 122 (Go.TypeDesc.func #[9, 9] #[4] false) := ⟨Try.underlying122⟩
instance : Zec Try.prog 122 (Go.Value.nilFunc) := ⟨ze122⟩
instance : Szc Try.prog 123 1 := ⟨sz123⟩
instance : Bsc Try.prog 123 8 := ⟨bs123⟩
instance : Und Try.prog 123 (Go.TypeDesc.func #[66, 93, 93] #[66] false) := ⟨Try.underlying123⟩
instance : Zec Try.prog 123 (Go.Value.nilFunc) := ⟨ze123⟩
instance : Szc Try.prog 124 4 := ⟨sz124⟩
instance : Bsc Try.prog 124 40 := ⟨bs124⟩
instance : Und Try.prog 124 (Go.TypeDesc.struct #[{ name := "_interface", type := 17, offset := 0, embedded := false, tag := "", pkgPath := "runtime", byteOffset := 0 }, { name := "concrete", type := 17, offset := 1, embedded := false, tag := "", pkgPath := "runtime", byteOffset := 8 }, { name := "asserted", type := 17, offset := 2, embedded := false, tag := "", pkgPath := "runtime", byteOffset := 16 }, { name := "missingMethod", type := 9, offset := 3, embedded := false, tag := "", pkgPath := "runtime", byteOffset := 24 }]) := ⟨Try.underlying124⟩
instance : Zec Try.prog 124 (Go.Value.agg #[(Go.Value.pointer none), (Go.Value.pointer none), (Go.Value.pointer none), (Go.Value.string { data := #[] })]) := ⟨ze124⟩
instance : Szc Try.prog 125 4 := ⟨sz125⟩
instance : Bsc Try.prog 125 40 := ⟨bs125⟩
instance : Und Try.prog 125 (Go.TypeDesc.struct #[{ name := "_interface", type := 17, offset := 0, embedded := false, tag := "", pkgPath := "runtime", byteOffset := 0 }, { name := "concrete", type := 17, offset := 1, embedded := false, tag := "", pkgPath := "runtime", byteOffset := 8 }, { name := "asserted", type := 17, offset := 2, embedded := false, tag := "", pkgPath := "runtime", byteOffset := 16 }, { name := "missingMethod", type := 9, offset := 3, embedded := false, tag := "", pkgPath := "runtime", byteOffset := 24 }]) := ⟨Try.underlying125⟩
instance : Zec Try.prog 125 (Go.Value.agg #[(Go.Value.pointer none), (Go.Value.pointer none), (Go.Value.pointer none), (Go.Value.string { data := #[] })]) := ⟨ze125⟩
instance : Szc Try.prog 126 0 := ⟨sz126⟩
instance : Bsc Try.prog 126 0 := ⟨bs126⟩
instance : Und Try.prog 126 (Go.TypeDesc.array 0 16) := ⟨Try.underlying126⟩
instance : Zec Try.prog 126 (Go.Value.agg #[]) := ⟨ze126⟩
instance : Szc Try.prog 127 0 := ⟨sz127⟩
instance : Bsc Try.prog 127 0 := ⟨bs127⟩
instance : Und Try.prog 127 (Go.TypeDesc.struct #[{ name := "_", type := 126, offset := 0, embedded := false, tag := "", pkgPath := "runtime", byteOffset := 0 }]) := ⟨Try.underlying127⟩
instance : Zec Try.prog 127 (Go.Value.agg #[]) := ⟨ze127⟩
instance : Szc Try.prog 128 0 := ⟨sz128⟩
instance : Bsc Try.prog 128 0 := ⟨bs128⟩
instance : Und Try.prog 128 (Go.TypeDesc.struct #[{ name := "_", type := 126, offset := 0, embedded := false, tag := "", pkgPath := "runtime", byteOffset := 0 }]) := ⟨Try.underlying128⟩
instance : Zec Try.prog 128 (Go.Value.agg #[]) := ⟨ze128⟩
instance : Szc Try.prog 129 1 := ⟨sz129⟩
instance : Bsc Try.prog 129 1 := ⟨bs129⟩
instance : Und Try.prog 129 (Go.TypeDesc.int Go.IntKind.u8) := ⟨Try.underlying129⟩
instance : Zec Try.prog 129 (Go.Value.int Go.IntKind.u8 0) := ⟨ze129⟩
instance : Szc Try.prog 130 1 := ⟨sz130⟩
instance : Bsc Try.prog 130 1 := ⟨bs130⟩
instance : Und Try.prog 130 (Go.TypeDesc.int Go.IntKind.u8) := ⟨Try.underlying130⟩
instance : Zec Try.prog 130 (Go.Value.int Go.IntKind.u8 0) := ⟨ze130⟩
instance : Szc Try.prog 131 1 := ⟨sz131⟩
instance : Bsc Try.prog 131 8 := ⟨bs131⟩
instance : Und Try.prog 131 (Go.TypeDesc.func #[137, 137] #[4] false) := ⟨Try.underlying131⟩
instance : Zec Try.prog 131 (Go.Value.nilFunc) := ⟨ze131⟩
instance : Szc Try.prog 132 1 := ⟨sz132⟩
instance : Bsc Try.prog 132 8 := ⟨bs132⟩
instance : Und Try.prog 132 (Go.TypeDesc.pointer 5) := ⟨Try.underlying132⟩
instance : Zec Try.prog 132 (Go.Value.pointer none) := ⟨ze132⟩
instance : Szc Try.prog 133 1 := ⟨sz133⟩
instance : Bsc Try.prog 133 4 := ⟨bs133⟩
instance : Und Try.prog 133 (Go.TypeDesc.int Go.IntKind.i32) := ⟨Try.underlying133⟩
instance : Zec Try.prog 133 (Go.Value.int Go.IntKind.i32 0) := ⟨ze133⟩
instance : Szc Try.prog 134 1 := ⟨sz134⟩
instance : Bsc Try.prog 134 4 := ⟨bs134⟩
instance : Und Try.prog 134 (Go.TypeDesc.int Go.IntKind.i32) := ⟨Try.underlying134⟩
instance : Zec Try.prog 134 (Go.Value.int Go.IntKind.i32 0) := ⟨ze134⟩
instance : Szc Try.prog 135 11 := ⟨sz135⟩
instance : Bsc Try.prog 135 48 := ⟨bs135⟩
instance : Und Try.prog 135 (Go.TypeDesc.struct #[{ name := "Size_", type := 12, offset := 0, embedded := false, tag := "", pkgPath := "", byteOffset := 0 }, { name := "PtrBytes", type := 12, offset := 1, embedded := false, tag := "", pkgPath := "", byteOffset := 8 }, { name := "Hash", type := 93, offset := 2, embedded := false, tag := "", pkgPath := "", byteOffset := 16 }, { name := "TFlag", type := 129, offset := 3, embedded := false, tag := "", pkgPath := "", byteOffset := 20 }, { name := "Align_", type := 5, offset := 4, embedded := false, tag := "", pkgPath := "", byteOffset := 21 }, { name := "FieldAlign_", type := 5, offset := 5, embedded := false, tag := "", pkgPath := "", byteOffset := 22 }, { name := "Kind_", type := 130, offset := 6, embedded := false, tag := "", pkgPath := "", byteOffset := 23 }, { name := "Equal", type := 131, offset := 7, embedded := false, tag := "", pkgPath := "", byteOffset := 24 }, { name := "GCData", type := 132, offset := 8, embedded := false, tag := "", pkgPath := "", byteOffset := 32 }, { name := "Str", type := 133, offset := 9, embedded := false, tag := "", pkgPath := "", byteOffset := 40 }, { name := "PtrToThis", type := 134, offset := 10, embedded := false, tag := "", pkgPath := "", byteOffset := 44 }]) := ⟨Try.underlying135⟩
instance : Zec Try.prog 135 (Go.Value.agg #[(Go.Value.int Go.IntKind.u64 0), (Go.Value.int Go.IntKind.u64 0), (Go.Value.int Go.IntKind.u32 0), (Go.Value.int Go.IntKind.u8 0), (Go.Value.int Go.IntKind.u8 0), (Go.Value.int Go.IntKind.u8 0), (Go.Value.int Go.IntKind.u8 0), Go.Value.nilFunc, (Go.Value.pointer none), (Go.Value.int Go.IntKind.i32 0), (Go.Value.int Go.IntKind.i32 0)]) := ⟨ze135⟩
instance : Szc Try.prog 136 11 := ⟨sz136⟩
instance : Bsc Try.prog 136 48 := ⟨bs136⟩
instance : Und Try.prog 136 (Go.TypeDesc.struct #[{ name := "Size_", type := 12, offset := 0, embedded := false, tag := "", pkgPath := "", byteOffset := 0 }, { name := "PtrBytes", type := 12, offset := 1, embedded := false, tag := "", pkgPath := "", byteOffset := 8 }, { name := "Hash", type := 93, offset := 2, embedded := false, tag := "", pkgPath := "", byteOffset := 16 }, { name := "TFlag", type := 129, offset := 3, embedded := false, tag := "", pkgPath := "", byteOffset := 20 }, { name := "Align_", type := 5, offset := 4, embedded := false, tag := "", pkgPath := "", byteOffset := 21 }, { name := "FieldAlign_", type := 5, offset := 5, embedded := false, tag := "", pkgPath := "", byteOffset := 22 }, { name := "Kind_", type := 130, offset := 6, embedded := false, tag := "", pkgPath := "", byteOffset := 23 }, { name := "Equal", type := 131, offset := 7, embedded := false, tag := "", pkgPath := "", byteOffset := 24 }, { name := "GCData", type := 132, offset := 8, embedded := false, tag := "", pkgPath := "", byteOffset := 32 }, { name := "Str", type := 133, offset := 9, embedded := false, tag := "", pkgPath := "", byteOffset := 40 }, { name := "PtrToThis", type := 134, offset := 10, embedded := false, tag := "", pkgPath := "", byteOffset := 44 }]) := ⟨Try.underlying136⟩
instance : Zec Try.prog 136 (Go.Value.agg #[(Go.Value.int Go.IntKind.u64 0), (Go.Value.int Go.IntKind.u64 0), (Go.Value.int Go.IntKind.u32 0), (Go.Value.int Go.IntKind.u8 0), (Go.Value.int Go.IntKind.u8 0), (Go.Value.int Go.IntKind.u8 0), (Go.Value.int Go.IntKind.u8 0), Go.Value.nilFunc, (Go.Value.pointer none), (Go.Value.int Go.IntKind.i32 0), (Go.Value.int Go.IntKind.i32 0)]) := ⟨ze136⟩
instance : Szc Try.prog 137 1 := ⟨sz137⟩
instance : Bsc Try.prog 137 8 := ⟨bs137⟩
instance : Und Try.prog 137 Go.TypeDesc.unsafePointer := ⟨Try.underlying137⟩
instance : Zec Try.prog 137 (Go.Value.pointer none) := ⟨ze137⟩
theorem bld26_  : bldv Try.prog 26 [] = some (.agg #[(Go.Value.string { data := #[] }), (Go.Value.string { data := #[] })]) := by kernel_rfl
theorem bld26_0_1 (a0 : ByteArray) (a1 : ByteArray) : bldv Try.prog 26 [(0, (.string a0)), (1, (.string a1))] = some (.agg #[(.string a0), (.string a1)]) := by kernel_rfl
theorem bld28_  : bldv Try.prog 28 [] = some (.agg #[(Go.Value.string { data := #[] }), (Go.Value.string { data := #[] }), (Go.Value.string { data := #[] }), (Go.Value.string { data := #[] }), (Go.Value.bool false)]) := by kernel_rfl
theorem bld28_0_1_2_3 (a0 : ByteArray) (a1 : ByteArray) (a20 a21 : Value) (a3 : Bool) : bldv Try.prog 28 [(0, (.string a0)), (1, (.string a1)), (2, (.agg #[a20, a21])), (3, (.bool a3))] = some (.agg #[(.string a0), (.string a1), a20, a21, (.bool a3)]) := by kernel_rfl
theorem bld47_0_1_2_3 (a0 : ByteArray) (a1 : ByteArray) (a2 : Int) (a3 : Bool) : bldv Try.prog 47 [(0, (.string a0)), (1, (.string a1)), (2, (.int Go.IntKind.i64 a2)), (3, (.bool a3))] = some (.agg #[(.string a0), (.string a1), (.int Go.IntKind.i64 a2), (.bool a3)]) := by kernel_rfl
theorem bld53_0_1_2 (a0 : ByteArray) (a1 : ByteArray) (a2 : Int) : bldv Try.prog 53 [(0, (.string a0)), (1, (.string a1)), (2, (.int Go.IntKind.i64 a2))] = some (.agg #[(.string a0), (.string a1), (.int Go.IntKind.i64 a2)]) := by kernel_rfl
theorem bld76_0_1 (a0f : Fn) (a0x a0y : Array Value) (a1f : Fn) (a1x a1y : Array Value) : bldv Try.prog 76 [(0, (.func a0f a0x a0y)), (1, (.func a1f a1x a1y))] = some (.agg #[(.func a0f a0x a0y), (.func a1f a1x a1y)]) := by kernel_rfl
theorem bld81_0 (a0 : ByteArray) : bldv Try.prog 81 [(0, (.string a0))] = some (.agg #[(.string a0)]) := by kernel_rfl
theorem mixed : Try.prog.follows .mixedOrders = true := by kernel_rfl
end Go.Proofs.Ytnhbipachchlgaa.HL
