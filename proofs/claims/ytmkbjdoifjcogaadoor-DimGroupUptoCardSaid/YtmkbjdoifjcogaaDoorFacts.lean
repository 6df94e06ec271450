/- Facts: closed facts of the seat's types and functions, each by the kernel. No condition. -/
import Derived.Test.YtmkbjdoifjcogaaDoorHLm
import Derived.Test.YtmkbjdoifjcogaaDoorProg
namespace Go.Proofs.YtmkbjdoifjcogaaDoor.HL
open Go
set_option linter.unusedVariables false
theorem sz0 : szOf Tryd.prog 0 = some 1 := by kernel_rfl
theorem bs0 : bsOf Tryd.prog 0 = some 0 := by kernel_rfl
theorem ze0 : zeroOf Tryd.prog 0 = some (Go.Value.tuple #[]) := by kernel_rfl
theorem sz1 : szOf Tryd.prog 1 = some 1 := by kernel_rfl
theorem bs1 : bsOf Tryd.prog 1 = some 8 := by kernel_rfl
theorem ze1 : zeroOf Tryd.prog 1 = some Go.Value.nilFunc := by kernel_rfl
theorem sz2 : szOf Tryd.prog 2 = some 1 := by kernel_rfl
theorem bs2 : bsOf Tryd.prog 2 = some 8 := by kernel_rfl
theorem ze2 : zeroOf Tryd.prog 2 = some (Go.Value.int Go.IntKind.i64 0) := by kernel_rfl
theorem sz3 : szOf Tryd.prog 3 = some 1 := by kernel_rfl
theorem bs3 : bsOf Tryd.prog 3 = some 8 := by kernel_rfl
theorem ze3 : zeroOf Tryd.prog 3 = some (Go.Value.int Go.IntKind.i64 0) := by kernel_rfl
theorem sz4 : szOf Tryd.prog 4 = some 1 := by kernel_rfl
theorem bs4 : bsOf Tryd.prog 4 = some 1 := by kernel_rfl
theorem ze4 : zeroOf Tryd.prog 4 = some (Go.Value.bool false) := by kernel_rfl
theorem sz5 : szOf Tryd.prog 5 = some 1 := by kernel_rfl
theorem bs5 : bsOf Tryd.prog 5 = some 1 := by kernel_rfl
theorem ze5 : zeroOf Tryd.prog 5 = some (Go.Value.int Go.IntKind.u8 0) := by kernel_rfl
theorem sz6 : szOf Tryd.prog 6 = some 1 := by kernel_rfl
theorem bs6 : bsOf Tryd.prog 6 = some 1 := by kernel_rfl
theorem ze6 : zeroOf Tryd.prog 6 = some (Go.Value.int Go.IntKind.u8 0) := by kernel_rfl
theorem sz7 : szOf Tryd.prog 7 = some 4 := by kernel_rfl
theorem bs7 : bsOf Tryd.prog 7 = some 24 := by kernel_rfl
theorem ze7 : zeroOf Tryd.prog 7 = some (Go.Value.agg #[(Go.Value.int Go.IntKind.i64 0), (Go.Value.int Go.IntKind.i64 0), (Go.Value.bool false), (Go.Value.int Go.IntKind.u8 0)]) := by kernel_rfl
theorem sz8 : szOf Tryd.prog 8 = some 4 := by kernel_rfl
theorem bs8 : bsOf Tryd.prog 8 = some 24 := by kernel_rfl
theorem ze8 : zeroOf Tryd.prog 8 = some (Go.Value.agg #[(Go.Value.int Go.IntKind.i64 0), (Go.Value.int Go.IntKind.i64 0), (Go.Value.bool false), (Go.Value.int Go.IntKind.u8 0)]) := by kernel_rfl
theorem sz9 : szOf Tryd.prog 9 = some 1 := by kernel_rfl
theorem bs9 : bsOf Tryd.prog 9 = some 16 := by kernel_rfl
theorem ze9 : zeroOf Tryd.prog 9 = some (Go.Value.string { data := #[] }) := by kernel_rfl
theorem sz10 : szOf Tryd.prog 10 = some 1 := by kernel_rfl
theorem bs10 : bsOf Tryd.prog 10 = some 16 := by kernel_rfl
theorem ze10 : zeroOf Tryd.prog 10 = some (Go.Value.string { data := #[] }) := by kernel_rfl
theorem sz11 : szOf Tryd.prog 11 = some 1 := by kernel_rfl
theorem bs11 : bsOf Tryd.prog 11 = some 16 := by kernel_rfl
theorem ze11 : zeroOf Tryd.prog 11 = some (Go.Value.string { data := #[] }) := by kernel_rfl
theorem sz12 : szOf Tryd.prog 12 = some 1 := by kernel_rfl
theorem bs12 : bsOf Tryd.prog 12 = some 8 := by kernel_rfl
theorem ze12 : zeroOf Tryd.prog 12 = some (Go.Value.int Go.IntKind.u64 0) := by kernel_rfl
theorem sz13 : szOf Tryd.prog 13 = some 2 := by kernel_rfl
theorem bs13 : bsOf Tryd.prog 13 = some 24 := by kernel_rfl
theorem ze13 : zeroOf Tryd.prog 13 = some (Go.Value.agg #[(Go.Value.string { data := #[] }), (Go.Value.int Go.IntKind.u64 0)]) := by kernel_rfl
theorem sz14 : szOf Tryd.prog 14 = some 2 := by kernel_rfl
theorem bs14 : bsOf Tryd.prog 14 = some 24 := by kernel_rfl
theorem ze14 : zeroOf Tryd.prog 14 = some (Go.Value.agg #[(Go.Value.string { data := #[] }), (Go.Value.int Go.IntKind.u64 0)]) := by kernel_rfl
theorem sz15 : szOf Tryd.prog 15 = some 1 := by kernel_rfl
theorem bs15 : bsOf Tryd.prog 15 = some 8 := by kernel_rfl
theorem ze15 : zeroOf Tryd.prog 15 = some (Go.Value.pointer none) := by kernel_rfl
theorem sz16 : szOf Tryd.prog 16 = some 1 := by kernel_rfl
theorem bs16 : bsOf Tryd.prog 16 = some 8 := by kernel_rfl
theorem ze16 : zeroOf Tryd.prog 16 = some (Go.Value.pointer none) := by kernel_rfl
theorem sz17 : szOf Tryd.prog 17 = some 1 := by kernel_rfl
theorem bs17 : bsOf Tryd.prog 17 = some 8 := by kernel_rfl
theorem ze17 : zeroOf Tryd.prog 17 = some (Go.Value.pointer none) := by kernel_rfl
theorem sz18 : szOf Tryd.prog 18 = some 1 := by kernel_rfl
theorem bs18 : bsOf Tryd.prog 18 = some 8 := by kernel_rfl
theorem ze18 : zeroOf Tryd.prog 18 = some (Go.Value.agg #[(Go.Value.pointer none)]) := by kernel_rfl
theorem sz19 : szOf Tryd.prog 19 = some 1 := by kernel_rfl
theorem bs19 : bsOf Tryd.prog 19 = some 8 := by kernel_rfl
theorem ze19 : zeroOf Tryd.prog 19 = some (Go.Value.agg #[(Go.Value.pointer none)]) := by kernel_rfl
theorem sz20 : szOf Tryd.prog 20 = some 1 := by kernel_rfl
theorem bs20 : bsOf Tryd.prog 20 = some 16 := by kernel_rfl
theorem ze20 : zeroOf Tryd.prog 20 = some Go.Value.nilIface := by kernel_rfl
theorem sz21 : szOf Tryd.prog 21 = some 1 := by kernel_rfl
theorem bs21 : bsOf Tryd.prog 21 = some 4 := by kernel_rfl
theorem ze21 : zeroOf Tryd.prog 21 = some (Go.Value.int Go.IntKind.i32 0) := by kernel_rfl
theorem sz22 : szOf Tryd.prog 22 = some 1 := by kernel_rfl
theorem bs22 : bsOf Tryd.prog 22 = some 24 := by kernel_rfl
theorem ze22 : zeroOf Tryd.prog 22 = some (Go.Value.slice none 0 0) := by kernel_rfl
theorem sz23 : szOf Tryd.prog 23 = some 8 := by kernel_rfl
theorem bs23 : bsOf Tryd.prog 23 = some 64 := by kernel_rfl
theorem ze23 : zeroOf Tryd.prog 23 = some (Go.Value.agg #[(Go.Value.int Go.IntKind.i64 0), (Go.Value.int Go.IntKind.i64 0), (Go.Value.int Go.IntKind.i64 0), (Go.Value.int Go.IntKind.i64 0), (Go.Value.int Go.IntKind.i64 0), (Go.Value.int Go.IntKind.i64 0), (Go.Value.int Go.IntKind.i64 0), (Go.Value.int Go.IntKind.i64 0)]) := by kernel_rfl
theorem sz24 : szOf Tryd.prog 24 = some 8 := by kernel_rfl
theorem bs24 : bsOf Tryd.prog 24 = some 64 := by kernel_rfl
theorem ze24 : zeroOf Tryd.prog 24 = some (Go.Value.agg #[(Go.Value.int Go.IntKind.i64 0), (Go.Value.int Go.IntKind.i64 0), (Go.Value.int Go.IntKind.i64 0), (Go.Value.int Go.IntKind.i64 0), (Go.Value.int Go.IntKind.i64 0), (Go.Value.int Go.IntKind.i64 0), (Go.Value.int Go.IntKind.i64 0), (Go.Value.int Go.IntKind.i64 0)]) := by kernel_rfl
theorem sz25 : szOf Tryd.prog 25 = some 1 := by kernel_rfl
theorem bs25 : bsOf Tryd.prog 25 = some 8 := by kernel_rfl
theorem ze25 : zeroOf Tryd.prog 25 = some Go.Value.nilFunc := by kernel_rfl
theorem sz26 : szOf Tryd.prog 26 = some 1 := by kernel_rfl
theorem bs26 : bsOf Tryd.prog 26 = some 8 := by kernel_rfl
theorem ze26 : zeroOf Tryd.prog 26 = some (Go.Value.int Go.IntKind.i64 0) := by kernel_rfl
theorem sz27 : szOf Tryd.prog 27 = some 1 := by kernel_rfl
theorem bs27 : bsOf Tryd.prog 27 = some 0 := by kernel_rfl
theorem ze27 : zeroOf Tryd.prog 27 = some (Go.Value.tuple #[(Go.Value.agg #[(Go.Value.int Go.IntKind.i64 0), (Go.Value.int Go.IntKind.i64 0), (Go.Value.int Go.IntKind.i64 0), (Go.Value.int Go.IntKind.i64 0), (Go.Value.int Go.IntKind.i64 0), (Go.Value.int Go.IntKind.i64 0), (Go.Value.int Go.IntKind.i64 0), (Go.Value.int Go.IntKind.i64 0)]), (Go.Value.int Go.IntKind.i64 0)]) := by kernel_rfl
theorem sz28 : szOf Tryd.prog 28 = some 1 := by kernel_rfl
theorem bs28 : bsOf Tryd.prog 28 = some 8 := by kernel_rfl
theorem ze28 : zeroOf Tryd.prog 28 = some Go.Value.nilFunc := by kernel_rfl
theorem sz29 : szOf Tryd.prog 29 = some 1 := by kernel_rfl
theorem bs29 : bsOf Tryd.prog 29 = some 8 := by kernel_rfl
theorem ze29 : zeroOf Tryd.prog 29 = some Go.Value.nilFunc := by kernel_rfl
theorem sz30 : szOf Tryd.prog 30 = some 1 := by kernel_rfl
theorem bs30 : bsOf Tryd.prog 30 = some 8 := by kernel_rfl
theorem ze30 : zeroOf Tryd.prog 30 = some Go.Value.nilFunc := by kernel_rfl
theorem sz31 : szOf Tryd.prog 31 = some 1 := by kernel_rfl
theorem bs31 : bsOf Tryd.prog 31 = some 8 := by kernel_rfl
theorem ze31 : zeroOf Tryd.prog 31 = some Go.Value.nilFunc := by kernel_rfl
theorem sz32 : szOf Tryd.prog 32 = some 1 := by kernel_rfl
theorem bs32 : bsOf Tryd.prog 32 = some 8 := by kernel_rfl
theorem ze32 : zeroOf Tryd.prog 32 = some Go.Value.nilFunc := by kernel_rfl
theorem sz33 : szOf Tryd.prog 33 = some 1 := by kernel_rfl
theorem bs33 : bsOf Tryd.prog 33 = some 8 := by kernel_rfl
theorem ze33 : zeroOf Tryd.prog 33 = some Go.Value.nilFunc := by kernel_rfl
theorem sz34 : szOf Tryd.prog 34 = some 1 := by kernel_rfl
theorem bs34 : bsOf Tryd.prog 34 = some 8 := by kernel_rfl
theorem ze34 : zeroOf Tryd.prog 34 = some Go.Value.nilFunc := by kernel_rfl
theorem sz35 : szOf Tryd.prog 35 = some 1 := by kernel_rfl
theorem bs35 : bsOf Tryd.prog 35 = some 8 := by kernel_rfl
theorem ze35 : zeroOf Tryd.prog 35 = some Go.Value.nilFunc := by kernel_rfl
theorem sz36 : szOf Tryd.prog 36 = some 1 := by kernel_rfl
theorem bs36 : bsOf Tryd.prog 36 = some 8 := by kernel_rfl
theorem ze36 : zeroOf Tryd.prog 36 = some Go.Value.nilFunc := by kernel_rfl
theorem sz37 : szOf Tryd.prog 37 = some 1 := by kernel_rfl
theorem bs37 : bsOf Tryd.prog 37 = some 8 := by kernel_rfl
theorem ze37 : zeroOf Tryd.prog 37 = some Go.Value.nilFunc := by kernel_rfl
theorem sz38 : szOf Tryd.prog 38 = some 1 := by kernel_rfl
theorem bs38 : bsOf Tryd.prog 38 = some 8 := by kernel_rfl
theorem ze38 : zeroOf Tryd.prog 38 = some Go.Value.nilFunc := by kernel_rfl
theorem sz39 : szOf Tryd.prog 39 = some 1 := by kernel_rfl
theorem bs39 : bsOf Tryd.prog 39 = some 0 := by kernel_rfl
theorem ze39 : zeroOf Tryd.prog 39 = some (Go.Value.tuple #[(Go.Value.string { data := #[] }), (Go.Value.bool false)]) := by kernel_rfl
theorem sz40 : szOf Tryd.prog 40 = some 1 := by kernel_rfl
theorem bs40 : bsOf Tryd.prog 40 = some 8 := by kernel_rfl
theorem ze40 : zeroOf Tryd.prog 40 = some Go.Value.nilFunc := by kernel_rfl
theorem sz41 : szOf Tryd.prog 41 = some 1 := by kernel_rfl
theorem bs41 : bsOf Tryd.prog 41 = some 0 := by kernel_rfl
theorem ze41 : zeroOf Tryd.prog 41 = some (Go.Value.tuple #[(Go.Value.agg #[(Go.Value.int Go.IntKind.i64 0), (Go.Value.int Go.IntKind.i64 0), (Go.Value.int Go.IntKind.i64 0), (Go.Value.int Go.IntKind.i64 0), (Go.Value.int Go.IntKind.i64 0), (Go.Value.int Go.IntKind.i64 0), (Go.Value.int Go.IntKind.i64 0), (Go.Value.int Go.IntKind.i64 0)]), (Go.Value.bool false)]) := by kernel_rfl
theorem sz42 : szOf Tryd.prog 42 = some 1 := by kernel_rfl
theorem bs42 : bsOf Tryd.prog 42 = some 8 := by kernel_rfl
theorem ze42 : zeroOf Tryd.prog 42 = some Go.Value.nilFunc := by kernel_rfl
theorem sz43 : szOf Tryd.prog 43 = some 1 := by kernel_rfl
theorem bs43 : bsOf Tryd.prog 43 = some 8 := by kernel_rfl
theorem ze43 : zeroOf Tryd.prog 43 = some Go.Value.nilFunc := by kernel_rfl
theorem sz44 : szOf Tryd.prog 44 = some 1 := by kernel_rfl
theorem bs44 : bsOf Tryd.prog 44 = some 0 := by kernel_rfl
theorem ze44 : zeroOf Tryd.prog 44 = some (Go.Value.tuple #[(Go.Value.string { data := #[] }), (Go.Value.int Go.IntKind.i64 0)]) := by kernel_rfl
theorem sz45 : szOf Tryd.prog 45 = some 1 := by kernel_rfl
theorem bs45 : bsOf Tryd.prog 45 = some 8 := by kernel_rfl
theorem ze45 : zeroOf Tryd.prog 45 = some Go.Value.nilFunc := by kernel_rfl
theorem sz46 : szOf Tryd.prog 46 = some 1 := by kernel_rfl
theorem bs46 : bsOf Tryd.prog 46 = some 0 := by kernel_rfl
theorem ze46 : zeroOf Tryd.prog 46 = some (Go.Value.tuple #[(Go.Value.agg #[(Go.Value.int Go.IntKind.i64 0), (Go.Value.int Go.IntKind.i64 0), (Go.Value.int Go.IntKind.i64 0), (Go.Value.int Go.IntKind.i64 0), (Go.Value.int Go.IntKind.i64 0), (Go.Value.int Go.IntKind.i64 0), (Go.Value.int Go.IntKind.i64 0), (Go.Value.int Go.IntKind.i64 0)]), (Go.Value.int Go.IntKind.i64 0), (Go.Value.int Go.IntKind.i64 0)]) := by kernel_rfl
theorem sz47 : szOf Tryd.prog 47 = some 1 := by kernel_rfl
theorem bs47 : bsOf Tryd.prog 47 = some 8 := by kernel_rfl
theorem ze47 : zeroOf Tryd.prog 47 = some Go.Value.nilFunc := by kernel_rfl
theorem sz48 : szOf Tryd.prog 48 = some 1 := by kernel_rfl
theorem bs48 : bsOf Tryd.prog 48 = some 8 := by kernel_rfl
theorem ze48 : zeroOf Tryd.prog 48 = some Go.Value.nilFunc := by kernel_rfl
theorem sz49 : szOf Tryd.prog 49 = some 1 := by kernel_rfl
theorem bs49 : bsOf Tryd.prog 49 = some 24 := by kernel_rfl
theorem ze49 : zeroOf Tryd.prog 49 = some (Go.Value.slice none 0 0) := by kernel_rfl
theorem sz50 : szOf Tryd.prog 50 = some 1 := by kernel_rfl
theorem bs50 : bsOf Tryd.prog 50 = some 8 := by kernel_rfl
theorem ze50 : zeroOf Tryd.prog 50 = some Go.Value.nilFunc := by kernel_rfl
theorem sz51 : szOf Tryd.prog 51 = some 1 := by kernel_rfl
theorem bs51 : bsOf Tryd.prog 51 = some 24 := by kernel_rfl
theorem ze51 : zeroOf Tryd.prog 51 = some (Go.Value.slice none 0 0) := by kernel_rfl
theorem sz52 : szOf Tryd.prog 52 = some 1 := by kernel_rfl
theorem bs52 : bsOf Tryd.prog 52 = some 8 := by kernel_rfl
theorem ze52 : zeroOf Tryd.prog 52 = some Go.Value.nilFunc := by kernel_rfl
theorem sz53 : szOf Tryd.prog 53 = some 9 := by kernel_rfl
theorem bs53 : bsOf Tryd.prog 53 = some 80 := by kernel_rfl
theorem ze53 : zeroOf Tryd.prog 53 = some (Go.Value.agg #[(Go.Value.string { data := #[] }), (Go.Value.int Go.IntKind.i64 0), (Go.Value.int Go.IntKind.i64 0), (Go.Value.int Go.IntKind.i64 0), (Go.Value.int Go.IntKind.i64 0), (Go.Value.int Go.IntKind.i64 0), (Go.Value.int Go.IntKind.i64 0), (Go.Value.int Go.IntKind.i64 0), (Go.Value.int Go.IntKind.i64 0)]) := by kernel_rfl
theorem sz54 : szOf Tryd.prog 54 = some 9 := by kernel_rfl
theorem bs54 : bsOf Tryd.prog 54 = some 80 := by kernel_rfl
theorem ze54 : zeroOf Tryd.prog 54 = some (Go.Value.agg #[(Go.Value.string { data := #[] }), (Go.Value.int Go.IntKind.i64 0), (Go.Value.int Go.IntKind.i64 0), (Go.Value.int Go.IntKind.i64 0), (Go.Value.int Go.IntKind.i64 0), (Go.Value.int Go.IntKind.i64 0), (Go.Value.int Go.IntKind.i64 0), (Go.Value.int Go.IntKind.i64 0), (Go.Value.int Go.IntKind.i64 0)]) := by kernel_rfl
theorem sz55 : szOf Tryd.prog 55 = some 1 := by kernel_rfl
theorem bs55 : bsOf Tryd.prog 55 = some 24 := by kernel_rfl
theorem ze55 : zeroOf Tryd.prog 55 = some (Go.Value.slice none 0 0) := by kernel_rfl
theorem sz56 : szOf Tryd.prog 56 = some 1 := by kernel_rfl
theorem bs56 : bsOf Tryd.prog 56 = some 8 := by kernel_rfl
theorem ze56 : zeroOf Tryd.prog 56 = some Go.Value.nilFunc := by kernel_rfl
theorem sz57 : szOf Tryd.prog 57 = some 1 := by kernel_rfl
theorem bs57 : bsOf Tryd.prog 57 = some 8 := by kernel_rfl
theorem ze57 : zeroOf Tryd.prog 57 = some Go.Value.nilFunc := by kernel_rfl
theorem sz58 : szOf Tryd.prog 58 = some 1 := by kernel_rfl
theorem bs58 : bsOf Tryd.prog 58 = some 8 := by kernel_rfl
theorem ze58 : zeroOf Tryd.prog 58 = some Go.Value.nilFunc := by kernel_rfl
theorem sz59 : szOf Tryd.prog 59 = some 1 := by kernel_rfl
theorem bs59 : bsOf Tryd.prog 59 = some 0 := by kernel_rfl
theorem ze59 : zeroOf Tryd.prog 59 = some (Go.Value.tuple #[(Go.Value.int Go.IntKind.i64 0), (Go.Value.int Go.IntKind.i64 0), (Go.Value.int Go.IntKind.i64 0)]) := by kernel_rfl
theorem sz60 : szOf Tryd.prog 60 = some 1 := by kernel_rfl
theorem bs60 : bsOf Tryd.prog 60 = some 8 := by kernel_rfl
theorem ze60 : zeroOf Tryd.prog 60 = some Go.Value.nilFunc := by kernel_rfl
theorem sz61 : szOf Tryd.prog 61 = some 1 := by kernel_rfl
theorem bs61 : bsOf Tryd.prog 61 = some 8 := by kernel_rfl
theorem ze61 : zeroOf Tryd.prog 61 = some Go.Value.nilFunc := by kernel_rfl
theorem sz62 : szOf Tryd.prog 62 = some 1 := by kernel_rfl
theorem bs62 : bsOf Tryd.prog 62 = some 0 := by kernel_rfl
theorem ze62 : zeroOf Tryd.prog 62 = some (Go.Value.tuple #[(Go.Value.int Go.IntKind.i64 0), (Go.Value.int Go.IntKind.i64 0), (Go.Value.int Go.IntKind.i64 0), (Go.Value.int Go.IntKind.i64 0)]) := by kernel_rfl
theorem sz63 : szOf Tryd.prog 63 = some 1 := by kernel_rfl
theorem bs63 : bsOf Tryd.prog 63 = some 8 := by kernel_rfl
theorem ze63 : zeroOf Tryd.prog 63 = some Go.Value.nilFunc := by kernel_rfl
theorem sz64 : szOf Tryd.prog 64 = some 1 := by kernel_rfl
theorem bs64 : bsOf Tryd.prog 64 = some 8 := by kernel_rfl
theorem ze64 : zeroOf Tryd.prog 64 = some Go.Value.nilFunc := by kernel_rfl
theorem sz65 : szOf Tryd.prog 65 = some 1 := by kernel_rfl
theorem bs65 : bsOf Tryd.prog 65 = some 8 := by kernel_rfl
theorem ze65 : zeroOf Tryd.prog 65 = some (Go.Value.int Go.IntKind.u64 0) := by kernel_rfl
theorem sz66 : szOf Tryd.prog 66 = some 1 := by kernel_rfl
theorem bs66 : bsOf Tryd.prog 66 = some 8 := by kernel_rfl
theorem ze66 : zeroOf Tryd.prog 66 = some Go.Value.nilFunc := by kernel_rfl
theorem sz67 : szOf Tryd.prog 67 = some 1 := by kernel_rfl
theorem bs67 : bsOf Tryd.prog 67 = some 8 := by kernel_rfl
theorem ze67 : zeroOf Tryd.prog 67 = some Go.Value.nilFunc := by kernel_rfl
theorem sz68 : szOf Tryd.prog 68 = some 24 := by kernel_rfl
theorem bs68 : bsOf Tryd.prog 68 = some 24 := by kernel_rfl
theorem ze68 : zeroOf Tryd.prog 68 = some (Go.Value.agg #[(Go.Value.int Go.IntKind.u8 0), (Go.Value.int Go.IntKind.u8 0), (Go.Value.int Go.IntKind.u8 0), (Go.Value.int Go.IntKind.u8 0), (Go.Value.int Go.IntKind.u8 0), (Go.Value.int Go.IntKind.u8 0), (Go.Value.int Go.IntKind.u8 0), (Go.Value.int Go.IntKind.u8 0), (Go.Value.int Go.IntKind.u8 0), (Go.Value.int Go.IntKind.u8 0), (Go.Value.int Go.IntKind.u8 0), (Go.Value.int Go.IntKind.u8 0), (Go.Value.int Go.IntKind.u8 0), (Go.Value.int Go.IntKind.u8 0), (Go.Value.int Go.IntKind.u8 0), (Go.Value.int Go.IntKind.u8 0), (Go.Value.int Go.IntKind.u8 0), (Go.Value.int Go.IntKind.u8 0), (Go.Value.int Go.IntKind.u8 0), (Go.Value.int Go.IntKind.u8 0), (Go.Value.int Go.IntKind.u8 0), (Go.Value.int Go.IntKind.u8 0), (Go.Value.int Go.IntKind.u8 0), (Go.Value.int Go.IntKind.u8 0)]) := by kernel_rfl
theorem sz69 : szOf Tryd.prog 69 = some 1 := by kernel_rfl
theorem bs69 : bsOf Tryd.prog 69 = some 8 := by kernel_rfl
theorem ze69 : zeroOf Tryd.prog 69 = some Go.Value.nilFunc := by kernel_rfl
theorem sz70 : szOf Tryd.prog 70 = some 1 := by kernel_rfl
theorem bs70 : bsOf Tryd.prog 70 = some 8 := by kernel_rfl
theorem ze70 : zeroOf Tryd.prog 70 = some Go.Value.nilFunc := by kernel_rfl
theorem sz71 : szOf Tryd.prog 71 = some 1 := by kernel_rfl
theorem bs71 : bsOf Tryd.prog 71 = some 0 := by kernel_rfl
theorem ze71 : zeroOf Tryd.prog 71 = some (Go.Value.tuple #[(Go.Value.slice none 0 0), (Go.Value.string { data := #[] })]) := by kernel_rfl
theorem sz72 : szOf Tryd.prog 72 = some 1 := by kernel_rfl
theorem bs72 : bsOf Tryd.prog 72 = some 8 := by kernel_rfl
theorem ze72 : zeroOf Tryd.prog 72 = some Go.Value.nilFunc := by kernel_rfl
theorem sz73 : szOf Tryd.prog 73 = some 1 := by kernel_rfl
theorem bs73 : bsOf Tryd.prog 73 = some 8 := by kernel_rfl
theorem ze73 : zeroOf Tryd.prog 73 = some Go.Value.nilFunc := by kernel_rfl
theorem sz74 : szOf Tryd.prog 74 = some 1 := by kernel_rfl
theorem bs74 : bsOf Tryd.prog 74 = some 8 := by kernel_rfl
theorem ze74 : zeroOf Tryd.prog 74 = some Go.Value.nilFunc := by kernel_rfl
theorem sz75 : szOf Tryd.prog 75 = some 20 := by kernel_rfl
theorem bs75 : bsOf Tryd.prog 75 = some 160 := by kernel_rfl
theorem ze75 : zeroOf Tryd.prog 75 = some (Go.Value.agg #[(Go.Value.int Go.IntKind.u64 0), (Go.Value.int Go.IntKind.u64 0), (Go.Value.int Go.IntKind.u64 0), (Go.Value.int Go.IntKind.u64 0), (Go.Value.int Go.IntKind.u64 0), (Go.Value.int Go.IntKind.u64 0), (Go.Value.int Go.IntKind.u64 0), (Go.Value.int Go.IntKind.u64 0), (Go.Value.int Go.IntKind.u64 0), (Go.Value.int Go.IntKind.u64 0), (Go.Value.int Go.IntKind.u64 0), (Go.Value.int Go.IntKind.u64 0), (Go.Value.int Go.IntKind.u64 0), (Go.Value.int Go.IntKind.u64 0), (Go.Value.int Go.IntKind.u64 0), (Go.Value.int Go.IntKind.u64 0), (Go.Value.int Go.IntKind.u64 0), (Go.Value.int Go.IntKind.u64 0), (Go.Value.int Go.IntKind.u64 0), (Go.Value.int Go.IntKind.u64 0)]) := by kernel_rfl
theorem sz76 : szOf Tryd.prog 76 = some 1 := by kernel_rfl
theorem bs76 : bsOf Tryd.prog 76 = some 4 := by kernel_rfl
theorem ze76 : zeroOf Tryd.prog 76 = some (Go.Value.int Go.IntKind.u32 0) := by kernel_rfl
theorem sz77 : szOf Tryd.prog 77 = some 65 := by kernel_rfl
theorem bs77 : bsOf Tryd.prog 77 = some 65 := by kernel_rfl
theorem sz78 : szOf Tryd.prog 78 = some 1 := by kernel_rfl
theorem bs78 : bsOf Tryd.prog 78 = some 8 := by kernel_rfl
theorem ze78 : zeroOf Tryd.prog 78 = some Go.Value.nilFunc := by kernel_rfl
theorem sz79 : szOf Tryd.prog 79 = some 1 := by kernel_rfl
theorem bs79 : bsOf Tryd.prog 79 = some 8 := by kernel_rfl
theorem ze79 : zeroOf Tryd.prog 79 = some (Go.Value.int Go.IntKind.u64 0) := by kernel_rfl
theorem sz80 : szOf Tryd.prog 80 = some 1 := by kernel_rfl
theorem bs80 : bsOf Tryd.prog 80 = some 8 := by kernel_rfl
theorem ze80 : zeroOf Tryd.prog 80 = some Go.Value.nilFunc := by kernel_rfl
theorem sz81 : szOf Tryd.prog 81 = some 1 := by kernel_rfl
theorem bs81 : bsOf Tryd.prog 81 = some 8 := by kernel_rfl
theorem ze81 : zeroOf Tryd.prog 81 = some Go.Value.nilFunc := by kernel_rfl
theorem sz82 : szOf Tryd.prog 82 = some 32 := by kernel_rfl
theorem bs82 : bsOf Tryd.prog 82 = some 32 := by kernel_rfl
theorem ze82 : zeroOf Tryd.prog 82 = some (Go.Value.agg #[(Go.Value.int Go.IntKind.u8 0), (Go.Value.int Go.IntKind.u8 0), (Go.Value.int Go.IntKind.u8 0), (Go.Value.int Go.IntKind.u8 0), (Go.Value.int Go.IntKind.u8 0), (Go.Value.int Go.IntKind.u8 0), (Go.Value.int Go.IntKind.u8 0), (Go.Value.int Go.IntKind.u8 0), (Go.Value.int Go.IntKind.u8 0), (Go.Value.int Go.IntKind.u8 0), (Go.Value.int Go.IntKind.u8 0), (Go.Value.int Go.IntKind.u8 0), (Go.Value.int Go.IntKind.u8 0), (Go.Value.int Go.IntKind.u8 0), (Go.Value.int Go.IntKind.u8 0), (Go.Value.int Go.IntKind.u8 0), (Go.Value.int Go.IntKind.u8 0), (Go.Value.int Go.IntKind.u8 0), (Go.Value.int Go.IntKind.u8 0), (Go.Value.int Go.IntKind.u8 0), (Go.Value.int Go.IntKind.u8 0), (Go.Value.int Go.IntKind.u8 0), (Go.Value.int Go.IntKind.u8 0), (Go.Value.int Go.IntKind.u8 0), (Go.Value.int Go.IntKind.u8 0), (Go.Value.int Go.IntKind.u8 0), (Go.Value.int Go.IntKind.u8 0), (Go.Value.int Go.IntKind.u8 0), (Go.Value.int Go.IntKind.u8 0), (Go.Value.int Go.IntKind.u8 0), (Go.Value.int Go.IntKind.u8 0), (Go.Value.int Go.IntKind.u8 0)]) := by kernel_rfl
theorem sz83 : szOf Tryd.prog 83 = some 64 := by kernel_rfl
theorem bs83 : bsOf Tryd.prog 83 = some 64 := by kernel_rfl
theorem sz84 : szOf Tryd.prog 84 = some 1 := by kernel_rfl
theorem bs84 : bsOf Tryd.prog 84 = some 8 := by kernel_rfl
theorem ze84 : zeroOf Tryd.prog 84 = some Go.Value.nilFunc := by kernel_rfl
theorem sz85 : szOf Tryd.prog 85 = some 4 := by kernel_rfl
theorem bs85 : bsOf Tryd.prog 85 = some 40 := by kernel_rfl
theorem ze85 : zeroOf Tryd.prog 85 = some (Go.Value.agg #[(Go.Value.pointer none), (Go.Value.pointer none), (Go.Value.pointer none), (Go.Value.string { data := #[] })]) := by kernel_rfl
theorem sz86 : szOf Tryd.prog 86 = some 4 := by kernel_rfl
theorem bs86 : bsOf Tryd.prog 86 = some 40 := by kernel_rfl
theorem ze86 : zeroOf Tryd.prog 86 = some (Go.Value.agg #[(Go.Value.pointer none), (Go.Value.pointer none), (Go.Value.pointer none), (Go.Value.string { data := #[] })]) := by kernel_rfl
theorem sz87 : szOf Tryd.prog 87 = some 0 := by kernel_rfl
theorem bs87 : bsOf Tryd.prog 87 = some 0 := by kernel_rfl
theorem ze87 : zeroOf Tryd.prog 87 = some (Go.Value.agg #[]) := by kernel_rfl
theorem sz88 : szOf Tryd.prog 88 = some 0 := by kernel_rfl
theorem bs88 : bsOf Tryd.prog 88 = some 0 := by kernel_rfl
theorem ze88 : zeroOf Tryd.prog 88 = some (Go.Value.agg #[]) := by kernel_rfl
theorem sz89 : szOf Tryd.prog 89 = some 0 := by kernel_rfl
theorem bs89 : bsOf Tryd.prog 89 = some 0 := by kernel_rfl
theorem ze89 : zeroOf Tryd.prog 89 = some (Go.Value.agg #[]) := by kernel_rfl
theorem sz90 : szOf Tryd.prog 90 = some 1 := by kernel_rfl
theorem bs90 : bsOf Tryd.prog 90 = some 8 := by kernel_rfl
theorem ze90 : zeroOf Tryd.prog 90 = some Go.Value.nilFunc := by kernel_rfl
theorem sz91 : szOf Tryd.prog 91 = some 1 := by kernel_rfl
theorem bs91 : bsOf Tryd.prog 91 = some 1 := by kernel_rfl
theorem ze91 : zeroOf Tryd.prog 91 = some (Go.Value.int Go.IntKind.u8 0) := by kernel_rfl
theorem sz92 : szOf Tryd.prog 92 = some 1 := by kernel_rfl
theorem bs92 : bsOf Tryd.prog 92 = some 1 := by kernel_rfl
theorem ze92 : zeroOf Tryd.prog 92 = some (Go.Value.int Go.IntKind.u8 0) := by kernel_rfl
theorem sz93 : szOf Tryd.prog 93 = some 1 := by kernel_rfl
theorem bs93 : bsOf Tryd.prog 93 = some 8 := by kernel_rfl
theorem ze93 : zeroOf Tryd.prog 93 = some Go.Value.nilFunc := by kernel_rfl
theorem sz94 : szOf Tryd.prog 94 = some 1 := by kernel_rfl
theorem bs94 : bsOf Tryd.prog 94 = some 8 := by kernel_rfl
theorem ze94 : zeroOf Tryd.prog 94 = some (Go.Value.pointer none) := by kernel_rfl
theorem sz95 : szOf Tryd.prog 95 = some 1 := by kernel_rfl
theorem bs95 : bsOf Tryd.prog 95 = some 4 := by kernel_rfl
theorem ze95 : zeroOf Tryd.prog 95 = some (Go.Value.int Go.IntKind.i32 0) := by kernel_rfl
theorem sz96 : szOf Tryd.prog 96 = some 1 := by kernel_rfl
theorem bs96 : bsOf Tryd.prog 96 = some 4 := by kernel_rfl
theorem ze96 : zeroOf Tryd.prog 96 = some (Go.Value.int Go.IntKind.i32 0) := by kernel_rfl
theorem sz97 : szOf Tryd.prog 97 = some 11 := by kernel_rfl
theorem bs97 : bsOf Tryd.prog 97 = some 48 := by kernel_rfl
theorem ze97 : zeroOf Tryd.prog 97 = some (Go.Value.agg #[(Go.Value.int Go.IntKind.u64 0), (Go.Value.int Go.IntKind.u64 0), (Go.Value.int Go.IntKind.u32 0), (Go.Value.int Go.IntKind.u8 0), (Go.Value.int Go.IntKind.u8 0), (Go.Value.int Go.IntKind.u8 0), (Go.Value.int Go.IntKind.u8 0), Go.Value.nilFunc, (Go.Value.pointer none), (Go.Value.int Go.IntKind.i32 0), (Go.Value.int Go.IntKind.i32 0)]) := by kernel_rfl
theorem sz98 : szOf Tryd.prog 98 = some 11 := by kernel_rfl
theorem bs98 : bsOf Tryd.prog 98 = some 48 := by kernel_rfl
theorem ze98 : zeroOf Tryd.prog 98 = some (Go.Value.agg #[(Go.Value.int Go.IntKind.u64 0), (Go.Value.int Go.IntKind.u64 0), (Go.Value.int Go.IntKind.u32 0), (Go.Value.int Go.IntKind.u8 0), (Go.Value.int Go.IntKind.u8 0), (Go.Value.int Go.IntKind.u8 0), (Go.Value.int Go.IntKind.u8 0), Go.Value.nilFunc, (Go.Value.pointer none), (Go.Value.int Go.IntKind.i32 0), (Go.Value.int Go.IntKind.i32 0)]) := by kernel_rfl
theorem sz99 : szOf Tryd.prog 99 = some 1 := by kernel_rfl
theorem bs99 : bsOf Tryd.prog 99 = some 8 := by kernel_rfl
theorem ze99 : zeroOf Tryd.prog 99 = some (Go.Value.pointer none) := by kernel_rfl
theorem go2 : goFn Tryd.prog 2 = true := by kernel_rfl
theorem go3 : goFn Tryd.prog 3 = true := by kernel_rfl
theorem go4 : goFn Tryd.prog 4 = true := by kernel_rfl
theorem go5 : goFn Tryd.prog 5 = true := by kernel_rfl
theorem go6 : goFn Tryd.prog 6 = true := by kernel_rfl
theorem go7 : goFn Tryd.prog 7 = true := by kernel_rfl
theorem go8 : goFn Tryd.prog 8 = true := by kernel_rfl
theorem go9 : goFn Tryd.prog 9 = true := by kernel_rfl
theorem go10 : goFn Tryd.prog 10 = true := by kernel_rfl
theorem go11 : goFn Tryd.prog 11 = true := by kernel_rfl
theorem go12 : goFn Tryd.prog 12 = true := by kernel_rfl
theorem go13 : goFn Tryd.prog 13 = true := by kernel_rfl
theorem go14 : goFn Tryd.prog 14 = true := by kernel_rfl
theorem go15 : goFn Tryd.prog 15 = true := by kernel_rfl
theorem go16 : goFn Tryd.prog 16 = true := by kernel_rfl
theorem go17 : goFn Tryd.prog 17 = true := by kernel_rfl
theorem go18 : goFn Tryd.prog 18 = true := by kernel_rfl
theorem go19 : goFn Tryd.prog 19 = true := by kernel_rfl
theorem go20 : goFn Tryd.prog 20 = true := by kernel_rfl
theorem go21 : goFn Tryd.prog 21 = true := by kernel_rfl
theorem go22 : goFn Tryd.prog 22 = true := by kernel_rfl
theorem go23 : goFn Tryd.prog 23 = true := by kernel_rfl
theorem go24 : goFn Tryd.prog 24 = true := by kernel_rfl
theorem go25 : goFn Tryd.prog 25 = true := by kernel_rfl
theorem go26 : goFn Tryd.prog 26 = true := by kernel_rfl
theorem go27 : goFn Tryd.prog 27 = true := by kernel_rfl
theorem go28 : goFn Tryd.prog 28 = true := by kernel_rfl
theorem go29 : goFn Tryd.prog 29 = true := by kernel_rfl
theorem go30 : goFn Tryd.prog 30 = true := by kernel_rfl
theorem go31 : goFn Tryd.prog 31 = true := by kernel_rfl
theorem go32 : goFn Tryd.prog 32 = true := by kernel_rfl
theorem go33 : goFn Tryd.prog 33 = true := by kernel_rfl
theorem go34 : goFn Tryd.prog 34 = true := by kernel_rfl
theorem go35 : goFn Tryd.prog 35 = true := by kernel_rfl
theorem go36 : goFn Tryd.prog 36 = true := by kernel_rfl
theorem go37 : goFn Tryd.prog 37 = true := by kernel_rfl
theorem go38 : goFn Tryd.prog 38 = true := by kernel_rfl
theorem go39 : goFn Tryd.prog 39 = true := by kernel_rfl
theorem go40 : goFn Tryd.prog 40 = true := by kernel_rfl
theorem go41 : goFn Tryd.prog 41 = true := by kernel_rfl
theorem go42 : goFn Tryd.prog 42 = true := by kernel_rfl
theorem go43 : goFn Tryd.prog 43 = true := by kernel_rfl
theorem go44 : goFn Tryd.prog 44 = true := by kernel_rfl
theorem go45 : goFn Tryd.prog 45 = true := by kernel_rfl
theorem go46 : goFn Tryd.prog 46 = true := by kernel_rfl
theorem go47 : goFn Tryd.prog 47 = true := by kernel_rfl
theorem go48 : goFn Tryd.prog 48 = true := by kernel_rfl
theorem go49 : goFn Tryd.prog 49 = true := by kernel_rfl
theorem go50 : goFn Tryd.prog 50 = true := by kernel_rfl
theorem go51 : goFn Tryd.prog 51 = true := by kernel_rfl
theorem go52 : goFn Tryd.prog 52 = true := by kernel_rfl
theorem go53 : goFn Tryd.prog 53 = true := by kernel_rfl
theorem go54 : goFn Tryd.prog 54 = true := by kernel_rfl
theorem go55 : goFn Tryd.prog 55 = true := by kernel_rfl
theorem go56 : goFn Tryd.prog 56 = true := by kernel_rfl
theorem go78 : goFn Tryd.prog 78 = true := by kernel_rfl
instance : Szc Tryd.prog 0 1 := ⟨sz0⟩
instance : Bsc Tryd.prog 0 0 := ⟨bs0⟩
instance : Und Tryd.prog 0 (Go.TypeDesc.tuple #[]) := ⟨Tryd.underlying0⟩
instance : Zec Tryd.prog 0 (Go.Value.tuple #[]) := ⟨ze0⟩
instance : Szc Tryd.prog 1 1 := ⟨sz1⟩
instance : Bsc Tryd.prog 1 8 := ⟨bs1⟩
instance : Und Tryd.prog 1 (Go.TypeDesc.func #[] #[] false) := ⟨Tryd.underlying1⟩
instance : Zec Tryd.prog 1 (Go.Value.nilFunc) := ⟨ze1⟩
instance : Szc Tryd.prog 2 1 := ⟨sz2⟩
instance : Bsc Tryd.prog 2 8 := ⟨bs2⟩
instance : Und Tryd.prog 2 (Go.TypeDesc.int Go.IntKind.i64) := ⟨Tryd.underlying2⟩
instance : Zec Tryd.prog 2 (Go.Value.int Go.IntKind.i64 0) := ⟨ze2⟩
instance : Szc Tryd.prog 3 1 := ⟨sz3⟩
instance : Bsc Tryd.prog 3 8 := ⟨bs3⟩
instance : Und Tryd.prog 3 (Go.TypeDesc.int Go.IntKind.i64) := ⟨Tryd.underlying3⟩
instance : Zec Tryd.prog 3 (Go.Value.int Go.IntKind.i64 0) := ⟨ze3⟩
instance : Szc Tryd.prog 4 1 := ⟨sz4⟩
instance : Bsc Tryd.prog 4 1 := ⟨bs4⟩
instance : Und Tryd.prog 4 Go.TypeDesc.bool := ⟨Tryd.underlying4⟩
instance : Zec Tryd.prog 4 (Go.Value.bool false) := ⟨ze4⟩
instance : Szc Tryd.prog 5 1 := ⟨sz5⟩
instance : Bsc Tryd.prog 5 1 := ⟨bs5⟩
instance : Und Tryd.prog 5 (Go.TypeDesc.int Go.IntKind.u8) := ⟨Tryd.underlying5⟩
instance : Zec Tryd.prog 5 (Go.Value.int Go.IntKind.u8 0) := ⟨ze5⟩
instance : Szc Tryd.prog 6 1 := ⟨sz6⟩
instance : Bsc Tryd.prog 6 1 := ⟨bs6⟩
instance : Und Tryd.prog 6 (Go.TypeDesc.int Go.IntKind.u8) := ⟨Tryd.underlying6⟩
instance : Zec Tryd.prog 6 (Go.Value.int Go.IntKind.u8 0) := ⟨ze6⟩
instance : Szc Tryd.prog 7 4 := ⟨sz7⟩
instance : Bsc Tryd.prog 7 24 := ⟨bs7⟩
instance : Und Tryd.prog 7 (Go.TypeDesc.struct #[{ name := "x", type := 2, offset := 0, embedded := false, tag := "", pkgPath := "runtime", byteOffset := 0 }, { name := "y", type := 3, offset := 1, embedded := false, tag := "", pkgPath := "runtime", byteOffset := 8 }, { name := "signed", type := 4, offset := 2, embedded := false, tag := "", pkgPath := "runtime", byteOffset := 16 }, { name := "code", type := 6, offset := 3, embedded := false, tag := "", pkgPath := "runtime", byteOffset := 17 }]) := ⟨Tryd.underlying7⟩
instance : Zec Tryd.prog 7 (Go.Value.agg #[(Go.Value.int Go.IntKind.i64 0), (Go.Value.int Go.IntKind.i64 0), (Go.Value.bool false), (Go.Value.int Go.IntKind.u8 0)]) := ⟨ze7⟩
instance : Szc Tryd.prog 8 4 := ⟨sz8⟩
instance : Bsc Tryd.prog 8 24 := ⟨bs8⟩
instance : Und Tryd.prog 8 (Go.TypeDesc.struct #[{ name := "x", type := 2, offset := 0, embedded := false, tag := "", pkgPath := "runtime", byteOffset := 0 }, { name := "y", type := 3, offset := 1, embedded := false, tag := "", pkgPath := "runtime", byteOffset := 8 }, { name := "signed", type := 4, offset := 2, embedded := false, tag := "", pkgPath := "runtime", byteOffset := 16 }, { name := "code", type := 6, offset := 3, embedded := false, tag := "", pkgPath := "runtime", byteOffset := 17 }]) := ⟨Tryd.underlying8⟩
instance : Zec Tryd.prog 8 (Go.Value.agg #[(Go.Value.int Go.IntKind.i64 0), (Go.Value.int Go.IntKind.i64 0), (Go.Value.bool false), (Go.Value.int Go.IntKind.u8 0)]) := ⟨ze8⟩
instance : Szc Tryd.prog 9 1 := ⟨sz9⟩
instance : Bsc Tryd.prog 9 16 := ⟨bs9⟩
instance : Und Tryd.prog 9 Go.TypeDesc.string := ⟨Tryd.underlying9⟩
instance : Zec Tryd.prog 9 (Go.Value.string { data := #[] }) := ⟨ze9⟩
instance : Szc Tryd.prog 10 1 := ⟨sz10⟩
instance : Bsc Tryd.prog 10 16 := ⟨bs10⟩
instance : Und Tryd.prog 10 Go.TypeDesc.string := ⟨Tryd.underlying10⟩
instance : Zec Tryd.prog 10 (Go.Value.string { data := #[] }) := ⟨ze10⟩
instance : Szc Tryd.prog 11 1 := ⟨sz11⟩
instance : Bsc Tryd.prog 11 16 := ⟨bs11⟩
instance : Und Tryd.prog 11 Go.TypeDesc.string := ⟨Tryd.underlying11⟩
instance : Zec Tryd.prog 11 (Go.Value.string { data := #[] }) := ⟨ze11⟩
instance : Szc Tryd.prog 12 1 := ⟨sz12⟩
instance : Bsc Tryd.prog 12 8 := ⟨bs12⟩
instance : Und Tryd.prog 12 (Go.TypeDesc.int Go.IntKind.u64) := ⟨Tryd.underlying12⟩
instance : Zec Tryd.prog 12 (Go.Value.int Go.IntKind.u64 0) := ⟨ze12⟩
instance : Szc Tryd.prog 13 2 := ⟨sz13⟩
instance : Bsc Tryd.prog 13 24 := ⟨bs13⟩
instance : Und Tryd.prog 13 (Go.TypeDesc.struct #[{ name := "msg", type := 9, offset := 0, embedded := false, tag := "", pkgPath := "runtime", byteOffset := 0 }, { name := "addr", type := 12, offset := 1, embedded := false, tag := "", pkgPath := "runtime", byteOffset := 16 }]) := ⟨Tryd.underlying13⟩
instance : Zec Tryd.prog 13 (Go.Value.agg #[(Go.Value.string { data := #[] }), (Go.Value.int Go.IntKind.u64 0)]) := ⟨ze13⟩
instance : Szc Tryd.prog 14 2 := ⟨sz14⟩
instance : Bsc Tryd.prog 14 24 := ⟨bs14⟩
instance : Und Tryd.prog 14 (Go.TypeDesc.struct #[{ name := "msg", type := 9, offset := 0, embedded := false, tag := "", pkgPath := "runtime", byteOffset := 0 }, { name := "addr", type := 12, offset := 1, embedded := false, tag := "", pkgPath := "runtime", byteOffset := 16 }]) := ⟨Tryd.underlying14⟩
instance : Zec Tryd.prog 14 (Go.Value.agg #[(Go.Value.string { data := #[] }), (Go.Value.int Go.IntKind.u64 0)]) := ⟨ze14⟩
instance : Szc Tryd.prog 15 1 := ⟨sz15⟩
instance : Bsc Tryd.prog 15 8 := ⟨bs15⟩
instance : Und Tryd.prog 15 (Go.TypeDesc.pointer 86) := ⟨Tryd.underlying15⟩
instance : Zec Tryd.prog 15 (Go.Value.pointer none) := ⟨ze15⟩
instance : Szc Tryd.prog 16 1 := ⟨sz16⟩
instance : Bsc Tryd.prog 16 8 := ⟨bs16⟩
instance : Und Tryd.prog 16 (Go.TypeDesc.pointer 89) := ⟨Tryd.underlying16⟩
instance : Zec Tryd.prog 16 (Go.Value.pointer none) := ⟨ze16⟩
instance : Szc Tryd.prog 17 1 := ⟨sz17⟩
instance : Bsc Tryd.prog 17 8 := ⟨bs17⟩
instance : Und Tryd.prog 17 (Go.TypeDesc.pointer 98) := ⟨Tryd.underlying17⟩
instance : Zec Tryd.prog 17 (Go.Value.pointer none) := ⟨ze17⟩
instance : Szc Tryd.prog 18 1 := ⟨sz18⟩
instance : Bsc Tryd.prog 18 8 := ⟨bs18⟩
instance : Und Tryd.prog 18 (Go.TypeDesc.struct #[{ name := "typ", type := 17, offset := 0, embedded := false, tag := "", pkgPath := "internal/runtime/maps", byteOffset := 0 }]) := ⟨Tryd.underlying18⟩
instance : Zec Tryd.prog 18 (Go.Value.agg #[(Go.Value.pointer none)]) := ⟨ze18⟩
instance : Szc Tryd.prog 19 1 := ⟨sz19⟩
instance : Bsc Tryd.prog 19 8 := ⟨bs19⟩
instance : Und Tryd.prog 19 (Go.TypeDesc.struct #[{ name := "typ", type := 17, offset := 0, embedded := false, tag := "", pkgPath := "internal/runtime/maps", byteOffset := 0 }]) := ⟨Tryd.underlying19⟩
instance : Zec Tryd.prog 19 (Go.Value.agg #[(Go.Value.pointer none)]) := ⟨ze19⟩
instance : Szc Tryd.prog 20 1 := ⟨sz20⟩
instance : Bsc Tryd.prog 20 16 := ⟨bs20⟩
instance : Und Tryd.prog 20 (Go.TypeDesc.interface #[]) := ⟨Tryd.underlying20⟩
instance : Zec Tryd.prog 20 (Go.Value.nilIface) := ⟨ze20⟩
instance : Szc Tryd.prog 21 1 := ⟨sz21⟩
instance : Bsc Tryd.prog 21 4 := ⟨bs21⟩
instance : Und Tryd.prog 21 (Go.TypeDesc.int Go.IntKind.i32) := ⟨Tryd.underlying21⟩
instance : Zec Tryd.prog 21 (Go.Value.int Go.IntKind.i32 0) := ⟨ze21⟩
instance : Szc Tryd.prog 22 1 := ⟨sz22⟩
instance : Bsc Tryd.prog 22 24 := ⟨bs22⟩
instance : Und Tryd.prog 22 (Go.TypeDesc.slice 24) := ⟨Tryd.underlying22⟩
instance : Zec Tryd.prog 22 (Go.Value.slice none 0 0) := ⟨ze22⟩
instance : Szc Tryd.prog 23 8 := ⟨sz23⟩
instance : Bsc Tryd.prog 23 64 := ⟨bs23⟩
instance : Und Tryd.prog 23 (Go.TypeDesc.array 8 3) := ⟨Tryd.underlying23⟩
instance : Zec Tryd.prog 23 (Go.Value.agg #[(Go.Value.int Go.IntKind.i64 0), (Go.Value.int Go.IntKind.i64 0), (Go.Value.int Go.IntKind.i64 0), (Go.Value.int Go.IntKind.i64 0), (Go.Value.int Go.IntKind.i64 0), (Go.Value.int Go.IntKind.i64 0), (Go.Value.int Go.IntKind.i64 0), (Go.Value.int Go.IntKind.i64 0)]) := ⟨ze23⟩
instance : Szc Tryd.prog 24 8 := ⟨sz24⟩
instance : Bsc Tryd.prog 24 64 := ⟨bs24⟩
instance : Und Tryd.prog 24 (Go.TypeDesc.array 8 3) := ⟨Tryd.underlying24⟩
instance : Zec Tryd.prog 24 (Go.Value.agg #[(Go.Value.int Go.IntKind.i64 0), (Go.Value.int Go.IntKind.i64 0), (Go.Value.int Go.IntKind.i64 0), (Go.Value.int Go.IntKind.i64 0), (Go.Value.int Go.IntKind.i64 0), (Go.Value.int Go.IntKind.i64 0), (Go.Value.int Go.IntKind.i64 0), (Go.Value.int Go.IntKind.i64 0)]) := ⟨ze24⟩
instance : Szc Tryd.prog 25 1 := ⟨sz25⟩
instance : Bsc Tryd.prog 25 8 := ⟨bs25⟩
instance : Und Tryd.prog 25 (Go.TypeDesc.func #[22] #[22] false) := ⟨Tryd.underlying25⟩
instance : Zec Tryd.prog 25 (Go.Value.nilFunc) := ⟨ze25⟩
instance : Szc Tryd.prog 26 1 := ⟨sz26⟩
instance : Bsc Tryd.prog 26 8 := ⟨bs26⟩
instance : Und Tryd.prog 26 (Go.TypeDesc.int Go.IntKind.i64) := ⟨Tryd.underlying26⟩
instance : Zec Tryd.prog 26 (Go.Value.int Go.IntKind.i64 0) := ⟨ze26⟩
instance : Szc Tryd.prog 27 1 := ⟨sz27⟩
instance : Bsc Tryd.prog 27 0 := ⟨bs27⟩
instance : Und Tryd.prog 27 (Go.TypeDesc.tuple #[24, 26]) := ⟨Tryd.underlying27⟩
instance : Zec Tryd.prog 27 (Go.Value.tuple #[(Go.Value.agg #[(Go.Value.int Go.IntKind.i64 0), (Go.Value.int Go.IntKind.i64 0), (Go.Value.int Go.IntKind.i64 0), (Go.Value.int Go.IntKind.i64 0), (Go.Value.int Go.IntKind.i64 0), (Go.Value.int Go.IntKind.i64 0), (Go.Value.int Go.IntKind.i64 0), (Go.Value.int Go.IntKind.i64 0)]), (Go.Value.int Go.IntKind.i64 0)]) := ⟨ze27⟩
instance : Szc Tryd.prog 28 1 := ⟨sz28⟩
instance : Bsc Tryd.prog 28 8 := ⟨bs28⟩
instance : Und Tryd.prog 28 (Go.TypeDesc.func #[22] #[24, 26] true) := ⟨Tryd.underlying28⟩
instance : Zec Tryd.prog 28 (Go.Value.nilFunc) := ⟨ze28⟩
instance : Szc Tryd.prog 29 1 := ⟨sz29⟩
instance : Bsc Tryd.prog 29 8 := ⟨bs29⟩
instance : Und Tryd.prog 29 (Go.TypeDesc.func #[22] #[24, 26] false) := ⟨Tryd.underlying29⟩
instance : Zec Tryd.prog 29 (Go.Value.nilFunc) := ⟨ze29⟩
instance : Szc Tryd.prog 30 1 := ⟨sz30⟩
instance : Bsc Tryd.prog 30 8 := ⟨bs30⟩
instance : Und Tryd.prog 30 (Go.TypeDesc.func #[22, 22] #[4] false) := ⟨Tryd.underlying30⟩
instance : Zec Tryd.prog 30 (Go.Value.nilFunc) := ⟨ze30⟩
instance : Szc Tryd.prog 31 1 := ⟨sz31⟩
instance : Bsc Tryd.prog 31 8 := ⟨bs31⟩
instance : Und Tryd.prog 31 (Go.TypeDesc.func #[24] #[4] false) := ⟨Tryd.underlying31⟩
instance : Zec Tryd.prog 31 (Go.Value.nilFunc) := ⟨ze31⟩
instance : Szc Tryd.prog 32 1 := ⟨sz32⟩
instance : Bsc Tryd.prog 32 8 := ⟨bs32⟩
instance : Und Tryd.prog 32 (Go.TypeDesc.func #[24, 24] #[24, 26] false) := ⟨Tryd.underlying32⟩
instance : Zec Tryd.prog 32 (Go.Value.nilFunc) := ⟨ze32⟩
instance : Szc Tryd.prog 33 1 := ⟨sz33⟩
instance : Bsc Tryd.prog 33 8 := ⟨bs33⟩
instance : Und Tryd.prog 33 (Go.TypeDesc.func #[24, 3] #[24, 26] false) := ⟨Tryd.underlying33⟩
instance : Zec Tryd.prog 33 (Go.Value.nilFunc) := ⟨ze33⟩
instance : Szc Tryd.prog 34 1 := ⟨sz34⟩
instance : Bsc Tryd.prog 34 8 := ⟨bs34⟩
instance : Und Tryd.prog 34 (Go.TypeDesc.func #[] #[4] false) := ⟨Tryd.underlying34⟩
instance : Zec Tryd.prog 34 (Go.Value.nilFunc) := ⟨ze34⟩
instance : Szc Tryd.prog 35 1 := ⟨sz35⟩
instance : Bsc Tryd.prog 35 8 := ⟨bs35⟩
instance : Und Tryd.prog 35 (Go.TypeDesc.func #[22, 24, 24, 3] #[4] false) := ⟨Tryd.underlying35⟩
instance : Zec Tryd.prog 35 (Go.Value.nilFunc) := ⟨ze35⟩
instance : Szc Tryd.prog 36 1 := ⟨sz36⟩
instance : Bsc Tryd.prog 36 8 := ⟨bs36⟩
instance : Und Tryd.prog 36 (Go.TypeDesc.func #[24, 3] #[24] false) := ⟨Tryd.underlying36⟩
instance : Zec Tryd.prog 36 (Go.Value.nilFunc) := ⟨ze36⟩
instance : Szc Tryd.prog 37 1 := ⟨sz37⟩
instance : Bsc Tryd.prog 37 8 := ⟨bs37⟩
instance : Und Tryd.prog 37 (Go.TypeDesc.func #[3, 3] #[3] false) := ⟨Tryd.underlying37⟩
instance : Zec Tryd.prog 37 (Go.Value.nilFunc) := ⟨ze37⟩
instance : Szc Tryd.prog 38 1 := ⟨sz38⟩
instance : Bsc Tryd.prog 38 8 := ⟨bs38⟩
instance : Und Tryd.prog 38 (Go.TypeDesc.func #[24, 24, 24, 3, 3] #[4] false) := ⟨Tryd.underlying38⟩
instance : Zec Tryd.prog 38 (Go.Value.nilFunc) := ⟨ze38⟩
instance : Szc Tryd.prog 39 1 := ⟨sz39⟩
instance : Bsc Tryd.prog 39 0 := ⟨bs39⟩
instance : Und Tryd.prog 39 (Go.TypeDesc.tuple #[9, 4]) := ⟨Tryd.underlying39⟩
instance : Zec Tryd.prog 39 (Go.Value.tuple #[(Go.Value.string { data := #[] }), (Go.Value.bool false)]) := ⟨ze39⟩
instance : Szc Tryd.prog 40 1 := ⟨sz40⟩
instance : Bsc Tryd.prog 40 8 := ⟨bs40⟩
instance : Und Tryd.prog 40 (Go.TypeDesc.func #[24] #[9, 4] false) := ⟨Tryd.underlying40⟩
instance : Zec Tryd.prog 40 (Go.Value.nilFunc) := ⟨ze40⟩
instance : Szc Tryd.prog 41 1 := ⟨sz41⟩
instance : Bsc Tryd.prog 41 0 := ⟨bs41⟩
instance : Und Tryd.prog 41 (Go.TypeDesc.tuple #[24, 4]) := ⟨Tryd.underlying41⟩
instance : Zec Tryd.prog 41 (Go.Value.tuple #[(Go.Value.agg #[(Go.Value.int Go.IntKind.i64 0), (Go.Value.int Go.IntKind.i64 0), (Go.Value.int Go.IntKind.i64 0), (Go.Value.int Go.IntKind.i64 0), (Go.Value.int Go.IntKind.i64 0), (Go.Value.int Go.IntKind.i64 0), (Go.Value.int Go.IntKind.i64 0), (Go.Value.int Go.IntKind.i64 0)]), (Go.Value.bool false)]) := ⟨ze41⟩
instance : Szc Tryd.prog 42 1 := ⟨sz42⟩
instance : Bsc Tryd.prog 42 8 := ⟨bs42⟩
instance : Und Tryd.prog 42 (Go.TypeDesc.func #[9] #[24, 4] false) := ⟨Tryd.underlying42⟩
instance : Zec Tryd.prog 42 (Go.Value.nilFunc) := ⟨ze42⟩
instance : Szc Tryd.prog 43 1 := ⟨sz43⟩
instance : Bsc Tryd.prog 43 8 := ⟨bs43⟩
instance : Und Tryd.prog 43 (Go.TypeDesc.func #[24, 9] #[4] false) := ⟨Tryd.underlying43⟩
instance : Zec Tryd.prog 43 (Go.Value.nilFunc) := ⟨ze43⟩
instance : Szc Tryd.prog 44 1 := ⟨sz44⟩
instance : Bsc Tryd.prog 44 0 := ⟨bs44⟩
instance : Und Tryd.prog 44 (Go.TypeDesc.tuple #[9, 26]) := ⟨Tryd.underlying44⟩
instance : Zec Tryd.prog 44 (Go.Value.tuple #[(Go.Value.string { data := #[] }), (Go.Value.int Go.IntKind.i64 0)]) := ⟨ze44⟩
instance : Szc Tryd.prog 45 1 := ⟨sz45⟩
instance : Bsc Tryd.prog 45 8 := ⟨bs45⟩
instance : Und Tryd.prog 45 (Go.TypeDesc.func #[24] #[9, 26] false) := ⟨Tryd.underlying45⟩
instance : Zec Tryd.prog 45 (Go.Value.nilFunc) := ⟨ze45⟩
instance : Szc Tryd.prog 46 1 := ⟨sz46⟩
instance : Bsc Tryd.prog 46 0 := ⟨bs46⟩
instance : Und Tryd.prog 46 (Go.TypeDesc.tuple #[24, 26, 3]) := ⟨Tryd.underlying46⟩
instance : Zec Tryd.prog 46 (Go.Value.tuple #[(Go.Value.agg #[(Go.Value.int Go.IntKind.i64 0), (Go.Value.int Go.IntKind.i64 0), (Go.Value.int Go.IntKind.i64 0), (Go.Value.int Go.IntKind.i64 0), (Go.Value.int Go.IntKind.i64 0), (Go.Value.int Go.IntKind.i64 0), (Go.Value.int Go.IntKind.i64 0), (Go.Value.int Go.IntKind.i64 0)]), (Go.Value.int Go.IntKind.i64 0), (Go.Value.int Go.IntKind.i64 0)]) := ⟨ze46⟩
instance : Szc Tryd.prog 47 1 := ⟨sz47⟩
instance : Bsc Tryd.prog 47 8 := ⟨bs47⟩
instance : Und Tryd.prog 47 (Go.TypeDesc.func #[9] #[24, 26, 3] false) := ⟨Tryd.underlying47⟩
instance : Zec Tryd.prog 47 (Go.Value.nilFunc) := ⟨ze47⟩
instance : Szc Tryd.prog 48 1 := ⟨sz48⟩
instance : Bsc Tryd.prog 48 8 := ⟨bs48⟩
instance : Und Tryd.prog 48 (Go.TypeDesc.func #[24] #[24, 26] false) := ⟨Tryd.underlying48⟩
instance : Zec Tryd.prog 48 (Go.Value.nilFunc) := ⟨ze48⟩
instance : Szc Tryd.prog 49 1 := ⟨sz49⟩
instance : Bsc Tryd.prog 49 24 := ⟨bs49⟩
instance : Und Tryd.prog 49 (Go.TypeDesc.slice 9) := ⟨Tryd.underlying49⟩
instance : Zec Tryd.prog 49 (Go.Value.slice none 0 0) := ⟨ze49⟩
instance : Szc Tryd.prog 50 1 := ⟨sz50⟩
instance : Bsc Tryd.prog 50 8 := ⟨bs50⟩
instance : Und Tryd.prog 50 (Go.TypeDesc.func #[] #[49] false) := ⟨Tryd.underlying50⟩
instance : Zec Tryd.prog 50 (Go.Value.nilFunc) := ⟨ze50⟩
instance : Szc Tryd.prog 51 1 := ⟨sz51⟩
instance : Bsc Tryd.prog 51 24 := ⟨bs51⟩
instance : Und Tryd.prog 51 (Go.TypeDesc.slice 54) := ⟨Tryd.underlying51⟩
instance : Zec Tryd.prog 51 (Go.Value.slice none 0 0) := ⟨ze51⟩
instance : Szc Tryd.prog 52 1 := ⟨sz52⟩
instance : Bsc Tryd.prog 52 8 := ⟨bs52⟩
instance : Und Tryd.prog 52 (Go.TypeDesc.func #[] #[51] false) := ⟨Tryd.underlying52⟩
instance : Zec Tryd.prog 52 (Go.Value.nilFunc) := ⟨ze52⟩
instance : Szc Tryd.prog 53 9 := ⟨sz53⟩
instance : Bsc Tryd.prog 53 80 := ⟨bs53⟩
instance : Und Tryd.prog 53 (Go.TypeDesc.struct #[{ name := "name", type := 9, offset := 0, embedded := false, tag := "", pkgPath := "cubit/cubitref05", byteOffset := 0 }, { name := "d", type := 24, offset := 1, embedded := false, tag := "", pkgPath := "cubit/cubitref05", byteOffset := 16 }]) := ⟨Tryd.underlying53⟩
instance : Zec Tryd.prog 53 (Go.Value.agg #[(Go.Value.string { data := #[] }), (Go.Value.int Go.IntKind.i64 0), (Go.Value.int Go.IntKind.i64 0), (Go.Value.int Go.IntKind.i64 0), (Go.Value.int Go.IntKind.i64 0), (Go.Value.int Go.IntKind.i64 0), (Go.Value.int Go.IntKind.i64 0), (Go.Value.int Go.IntKind.i64 0), (Go.Value.int Go.IntKind.i64 0)]) := ⟨ze53⟩
instance : Szc Tryd.prog 54 9 := ⟨sz54⟩
instance : Bsc Tryd.prog 54 80 := ⟨bs54⟩
instance : Und Tryd.prog 54 (Go.TypeDesc.struct #[{ name := "name", type := 9, offset := 0, embedded := false, tag := "", pkgPath := "cubit/cubitref05", byteOffset := 0 }, { name := "d", type := 24, offset := 1, embedded := false, tag := "", pkgPath := "cubit/cubitref05", byteOffset := 16 }]) := ⟨Tryd.underlying54⟩
instance : Zec Tryd.prog 54 (Go.Value.agg #[(Go.Value.string { data := #[] }), (Go.Value.int Go.IntKind.i64 0), (Go.Value.int Go.IntKind.i64 0), (Go.Value.int Go.IntKind.i64 0), (Go.Value.int Go.IntKind.i64 0), (Go.Value.int Go.IntKind.i64 0), (Go.Value.int Go.IntKind.i64 0), (Go.Value.int Go.IntKind.i64 0), (Go.Value.int Go.IntKind.i64 0)]) := ⟨ze54⟩
instance : Szc Tryd.prog 55 1 := ⟨sz55⟩
instance : Bsc Tryd.prog 55 24 := ⟨bs55⟩
instance : Und Tryd.prog 55 (Go.TypeDesc.slice 5) := ⟨Tryd.underlying55⟩
instance : Zec Tryd.prog 55 (Go.Value.slice none 0 0) := ⟨ze55⟩
instance : Szc Tryd.prog 56 1 := ⟨sz56⟩
instance : Bsc Tryd.prog 56 8 := ⟨bs56⟩
instance : Und Tryd.prog 56 (Go.TypeDesc.func #[55, 2, 3] #[55] false) := ⟨Tryd.underlying56⟩
instance : Zec Tryd.prog 56 (Go.Value.nilFunc) := ⟨ze56⟩
instance : Szc Tryd.prog 57 1 := ⟨sz57⟩
instance : Bsc Tryd.prog 57 8 := ⟨bs57⟩
instance : Und Tryd.prog 57 (Go.TypeDesc.func #[21] #[3] false) := ⟨Tryd.underlying57⟩
instance : Zec Tryd.prog 57 (Go.Value.nilFunc) := ⟨ze57⟩
instance : Szc Tryd.prog 58 1 := ⟨sz58⟩
instance : Bsc Tryd.prog 58 8 := ⟨bs58⟩
instance : Und Tryd.prog 58 (Go.TypeDesc.func #[9, 3] #[24, 26, 3] false) := ⟨Tryd.underlying58⟩
instance : Zec Tryd.prog 58 (Go.Value.nilFunc) := ⟨ze58⟩
instance : Szc Tryd.prog 59 1 := ⟨sz59⟩
instance : Bsc Tryd.prog 59 0 := ⟨bs59⟩
instance : Und Tryd.prog 59 (Go.TypeDesc.tuple #[3, 26, 3]) := ⟨Tryd.underlying59⟩
instance : Zec Tryd.prog 59 (Go.Value.tuple #[(Go.Value.int Go.IntKind.i64 0), (Go.Value.int Go.IntKind.i64 0), (Go.Value.int Go.IntKind.i64 0)]) := ⟨ze59⟩
instance : Szc Tryd.prog 60 1 := ⟨sz60⟩
instance : Bsc Tryd.prog 60 8 := ⟨bs60⟩
instance : Und Tryd.prog 60 (Go.TypeDesc.func #[9, 3] #[3, 26, 3] false) := ⟨Tryd.underlying60⟩
instance : Zec Tryd.prog 60 (Go.Value.nilFunc) := ⟨ze60⟩
instance : Szc Tryd.prog 61 1 := ⟨sz61⟩
instance : Bsc Tryd.prog 61 8 := ⟨bs61⟩
instance : Und Tryd.prog 61 (Go.TypeDesc.func #[3] #[9] false) := ⟨Tryd.underlying61⟩
instance : Zec Tryd.prog 61 (Go.Value.nilFunc) := ⟨ze61⟩
instance : Szc Tryd.prog 62 1 := ⟨sz62⟩
instance : Bsc Tryd.prog 62 0 := ⟨bs62⟩
instance : Und Tryd.prog 62 (Go.TypeDesc.tuple #[3, 3, 3, 26]) := ⟨Tryd.underlying62⟩
instance : Zec Tryd.prog 62 (Go.Value.tuple #[(Go.Value.int Go.IntKind.i64 0), (Go.Value.int Go.IntKind.i64 0), (Go.Value.int Go.IntKind.i64 0), (Go.Value.int Go.IntKind.i64 0)]) := ⟨ze62⟩
instance : Szc Tryd.prog 63 1 := ⟨sz63⟩
instance : Bsc Tryd.prog 63 8 := ⟨bs63⟩
instance : Und Tryd.prog 63 (Go.TypeDesc.func #[9, 3] #[3, 3, 3, 26] false) := ⟨Tryd.underlying63⟩
instance : Zec Tryd.prog 63 (Go.Value.nilFunc) := ⟨ze63⟩
instance : Szc Tryd.prog 64 1 := ⟨sz64⟩
instance : Bsc Tryd.prog 64 8 := ⟨bs64⟩
instance : Und Tryd.prog 64 (Go.TypeDesc.func #[5] #[3] false) := ⟨Tryd.underlying64⟩
instance : Zec Tryd.prog 64 (Go.Value.nilFunc) := ⟨ze64⟩
instance : Szc Tryd.prog 65 1 := ⟨sz65⟩
instance : Bsc Tryd.prog 65 8 := ⟨bs65⟩
instance : Und Tryd.prog 65 (Go.TypeDesc.int Go.IntKind.u64) := ⟨Tryd.underlying65⟩
instance : Zec Tryd.prog 65 (Go.Value.int Go.IntKind.u64 0) := ⟨ze65⟩
instance : Szc Tryd.prog 66 1 := ⟨sz66⟩
instance : Bsc Tryd.prog 66 8 := ⟨bs66⟩
instance : Und Tryd.prog 66 (Go.TypeDesc.func #[55, 65, 3] #[55] false) := ⟨Tryd.underlying66⟩
instance : Zec Tryd.prog 66 (Go.Value.nilFunc) := ⟨ze66⟩
instance : Szc Tryd.prog 67 1 := ⟨sz67⟩
instance : Bsc Tryd.prog 67 8 := ⟨bs67⟩
instance : Und Tryd.prog 67 (Go.TypeDesc.func #[2, 3] #[9] false) := ⟨Tryd.underlying67⟩
instance : Zec Tryd.prog 67 (Go.Value.nilFunc) := ⟨ze67⟩
instance : Szc Tryd.prog 68 24 := ⟨sz68⟩
instance : Bsc Tryd.prog 68 24 := ⟨bs68⟩
instance : Und Tryd.prog 68 (Go.TypeDesc.array 24 5) := ⟨Tryd.underlying68⟩
instance : Zec Tryd.prog 68 (Go.Value.agg #[(Go.Value.int Go.IntKind.u8 0), (Go.Value.int Go.IntKind.u8 0), (Go.Value.int Go.IntKind.u8 0), (Go.Value.int Go.IntKind.u8 0), (Go.Value.int Go.IntKind.u8 0), (Go.Value.int Go.IntKind.u8 0), (Go.Value.int Go.IntKind.u8 0), (Go.Value.int Go.IntKind.u8 0), (Go.Value.int Go.IntKind.u8 0), (Go.Value.int Go.IntKind.u8 0), (Go.Value.int Go.IntKind.u8 0), (Go.Value.int Go.IntKind.u8 0), (Go.Value.int Go.IntKind.u8 0), (Go.Value.int Go.IntKind.u8 0), (Go.Value.int Go.IntKind.u8 0), (Go.Value.int Go.IntKind.u8 0), (Go.Value.int Go.IntKind.u8 0), (Go.Value.int Go.IntKind.u8 0), (Go.Value.int Go.IntKind.u8 0), (Go.Value.int Go.IntKind.u8 0), (Go.Value.int Go.IntKind.u8 0), (Go.Value.int Go.IntKind.u8 0), (Go.Value.int Go.IntKind.u8 0), (Go.Value.int Go.IntKind.u8 0)]) := ⟨ze68⟩
instance : Szc Tryd.prog 69 1 := ⟨sz69⟩
instance : Bsc Tryd.prog 69 8 := ⟨bs69⟩
instance : Und Tryd.prog 69 (Go.TypeDesc.func #[65] #[3] false) := ⟨Tryd.underlying69⟩
instance : Zec Tryd.prog 69 (Go.Value.nilFunc) := ⟨ze69⟩
instance : Szc Tryd.prog 70 1 := ⟨sz70⟩
instance : Bsc Tryd.prog 70 8 := ⟨bs70⟩
instance : Und Tryd.prog 70 (Go.TypeDesc.func #[55, 65] #[] false) := ⟨Tryd.underlying70⟩
instance : Zec Tryd.prog 70 (Go.Value.nilFunc) := ⟨ze70⟩
instance : Szc Tryd.prog 71 1 := ⟨sz71⟩
instance : Bsc Tryd.prog 71 0 := ⟨bs71⟩
instance : Und Tryd.prog 71 (Go.TypeDesc.tuple #[55, 9]) := ⟨Tryd.underlying71⟩
instance : Zec Tryd.prog 71 (Go.Value.tuple #[(Go.Value.slice none 0 0), (Go.Value.string { data := #[] })]) := ⟨ze71⟩
instance : Szc Tryd.prog 72 1 := ⟨sz72⟩
instance : Bsc Tryd.prog 72 8 := ⟨bs72⟩
instance : Und Tryd.prog 72 (Go.TypeDesc.func #[55, 65, 3, 4, 4] #[55, 9] false) := ⟨Tryd.underlying72⟩
instance : Zec Tryd.prog 72 (Go.Value.nilFunc) := ⟨ze72⟩
instance : Szc Tryd.prog 73 1 := ⟨sz73⟩
instance : Bsc Tryd.prog 73 8 := ⟨bs73⟩
instance : Und Tryd.prog 73 (Go.TypeDesc.func #[3] #[3] false) := ⟨Tryd.underlying73⟩
instance : Zec Tryd.prog 73 (Go.Value.nilFunc) := ⟨ze73⟩
instance : Szc Tryd.prog 74 1 := ⟨sz74⟩
instance : Bsc Tryd.prog 74 8 := ⟨bs74⟩
instance : Und Tryd.prog 74 (Go.TypeDesc.func #[4] #[3] false) := ⟨Tryd.underlying74⟩
instance : Zec Tryd.prog 74 (Go.Value.nilFunc) := ⟨ze74⟩
instance : Szc Tryd.prog 75 20 := ⟨sz75⟩
instance : Bsc Tryd.prog 75 160 := ⟨bs75⟩
instance : Und Tryd.prog 75 (Go.TypeDesc.array 20 65) := ⟨Tryd.underlying75⟩
instance : Zec Tryd.prog 75 (Go.Value.agg #[(Go.Value.int Go.IntKind.u64 0), (Go.Value.int Go.IntKind.u64 0), (Go.Value.int Go.IntKind.u64 0), (Go.Value.int Go.IntKind.u64 0), (Go.Value.int Go.IntKind.u64 0), (Go.Value.int Go.IntKind.u64 0), (Go.Value.int Go.IntKind.u64 0), (Go.Value.int Go.IntKind.u64 0), (Go.Value.int Go.IntKind.u64 0), (Go.Value.int Go.IntKind.u64 0), (Go.Value.int Go.IntKind.u64 0), (Go.Value.int Go.IntKind.u64 0), (Go.Value.int Go.IntKind.u64 0), (Go.Value.int Go.IntKind.u64 0), (Go.Value.int Go.IntKind.u64 0), (Go.Value.int Go.IntKind.u64 0), (Go.Value.int Go.IntKind.u64 0), (Go.Value.int Go.IntKind.u64 0), (Go.Value.int Go.IntKind.u64 0), (Go.Value.int Go.IntKind.u64 0)]) := ⟨ze75⟩
instance : Szc Tryd.prog 76 1 := ⟨sz76⟩
instance : Bsc Tryd.prog 76 4 := ⟨bs76⟩
instance : Und Tryd.prog 76 (Go.TypeDesc.int Go.IntKind.u32) := ⟨Tryd.underlying76⟩
instance : Zec Tryd.prog 76 (Go.Value.int Go.IntKind.u32 0) := ⟨ze76⟩
instance : Szc Tryd.prog 77 65 := ⟨sz77⟩
instance : Bsc Tryd.prog 77 65 := ⟨bs77⟩
instance : Und Tryd.prog 77 (Go.TypeDesc.array 65 5) := ⟨Tryd.underlying77⟩
instance : Szc Tryd.prog 78 1 := ⟨sz78⟩
instance : Bsc Tryd.prog 78 8 := ⟨bs78⟩
instance : Und Tryd.prog 78 (Go.TypeDesc.func #[3] #[4] false) := ⟨Tryd.underlying78⟩
instance : Zec Tryd.prog 78 (Go.Value.nilFunc) := ⟨ze78⟩
instance : Szc Tryd.prog 79 1 := ⟨sz79⟩
instance : Bsc Tryd.prog 79 8 := ⟨bs79⟩
instance : Und Tryd.prog 79 (Go.TypeDesc.int Go.IntKind.u64) := ⟨Tryd.underlying79⟩
instance : Zec Tryd.prog 79 (Go.Value.int Go.IntKind.u64 0) := ⟨ze79⟩
instance : Szc Tryd.prog 80 1 := ⟨sz80⟩
instance : Bsc Tryd.prog 80 8 := ⟨bs80⟩
instance : Und Tryd.prog 80 (Go.TypeDesc.func #[79] #[3] false) := ⟨Tryd.underlying80⟩
instance : Zec Tryd.prog 80 (Go.Value.nilFunc) := ⟨ze80⟩
instance : Szc Tryd.prog 81 1 := ⟨sz81⟩
instance : Bsc Tryd.prog 81 8 := ⟨bs81⟩
instance : Und Tryd.prog 81 (Go.TypeDesc.func #[76] #[3] false) := ⟨Tryd.underlying81⟩
instance : Zec Tryd.prog 81 (Go.Value.nilFunc) := ⟨ze81⟩
instance : Szc Tryd.prog 82 32 := ⟨sz82⟩
instance : Bsc Tryd.prog 82 32 := ⟨bs82⟩
instance : Und Tryd.prog 82 (Go.TypeDesc.array 32 5) := ⟨Tryd.underlying82⟩
instance : Zec Tryd.prog 82 (Go.Value.agg #[(Go.Value.int Go.IntKind.u8 0), (Go.Value.int Go.IntKind.u8 0), (Go.Value.int Go.IntKind.u8 0), (Go.Value.int Go.IntKind.u8 0), (Go.Value.int Go.IntKind.u8 0), (Go.Value.int Go.IntKind.u8 0), (Go.Value.int Go.IntKind.u8 0), (Go.Value.int Go.IntKind.u8 0), (Go.Value.int Go.IntKind.u8 0), (Go.Value.int Go.IntKind.u8 0), (Go.Value.int Go.IntKind.u8 0), (Go.Value.int Go.IntKind.u8 0), (Go.Value.int Go.IntKind.u8 0), (Go.Value.int Go.IntKind.u8 0), (Go.Value.int Go.IntKind.u8 0), (Go.Value.int Go.IntKind.u8 0), (Go.Value.int Go.IntKind.u8 0), (Go.Value.int Go.IntKind.u8 0), (Go.Value.int Go.IntKind.u8 0), (Go.Value.int Go.IntKind.u8 0), (Go.Value.int Go.IntKind.u8 0), (Go.Value.int Go.IntKind.u8 0), (Go.Value.int Go.IntKind.u8 0), (Go.Value.int Go.IntKind.u8 0), (Go.Value.int Go.IntKind.u8 0), (Go.Value.int Go.IntKind.u8 0), (Go.Value.int Go.IntKind.u8 0), (Go.Value.int Go.IntKind.u8 0), (Go.Value.int Go.IntKind.u8 0), (Go.Value.int Go.IntKind.u8 0), (Go.Value.int Go.IntKind.u8 0), (Go.Value.int Go.IntKind.u8 0)]) := ⟨ze82⟩
instance : Szc Tryd.prog 83 64 := ⟨sz83⟩
instance : Bsc Tryd.prog 83 64 := ⟨bs83⟩
instance : Und Tryd.prog 83 (Go.TypeDesc.array 64 5) := ⟨Tryd.underlying83⟩
instance : Szc Tryd.prog 84 1 := ⟨sz84⟩
instance : Bsc Tryd.prog 84 8 := ⟨bs84⟩
instance : Und Tryd.prog 84 (Go.TypeDesc.func #[] #[9] false) := ⟨Tryd.underlying84⟩
instance : Zec Tryd.prog 84 (Go.Value.nilFunc) := ⟨ze84⟩
instance : Szc Tryd.prog 85 4 := ⟨sz85⟩
instance : Bsc Tryd.prog 85 40 := ⟨bs85⟩
instance : Und Tryd.prog 85 (Go.TypeDesc.struct #[{ name := "_interface", type := 17, offset := 0, embedded := false, tag := "", pkgPath := "runtime", byteOffset := 0 }, { name := "concrete", type := 17, offset := 1, embedded := false, tag := "", pkgPath := "runtime", byteOffset := 8 }, { name := "asserted", type := 17, offset := 2, embedded := false, tag := "", pkgPath := "runtime", byteOffset := 16 }, { name := "missingMethod", type := 9, offset := 3, embedded := false, tag := "", pkgPath := "runtime", byteOffset := 24 }]) := ⟨Tryd.underlying85⟩
instance : Zec Tryd.prog 85 (Go.Value.agg #[(Go.Value.pointer none), (Go.Value.pointer none), (Go.Value.pointer none), (Go.Value.string { data := #[] })]) := ⟨ze85⟩
instance : Szc Tryd.prog 86 4 := ⟨sz86⟩
instance : Bsc Tryd.prog 86 40 := ⟨bs86⟩
instance : Und Tryd.prog 86 (Go.TypeDesc.struct #[{ name := "_interface", type := 17, offset := 0, embedded := false, tag := "", pkgPath := "runtime", byteOffset := 0 }, { name := "concrete", type := 17, offset := 1, embedded := false, tag := "", pkgPath := "runtime", byteOffset := 8 }, { name := "asserted", type := 17, offset := 2, embedded := false, tag := "", pkgPath := "runtime", byteOffset := 16 }, { name := "missingMethod", type := 9, offset := 3, embedded := false, tag := "", pkgPath := "runtime", byteOffset := 24 }]) := ⟨Tryd.underlying86⟩
instance : Zec Tryd.prog 86 (Go.Value.agg #[(Go.Value.pointer none), (Go.Value.pointer none), (Go.Value.pointer none), (Go.Value.string { data := #[] })]) := ⟨ze86⟩
instance : Szc Tryd.prog 87 0 := ⟨sz87⟩
instance : Bsc Tryd.prog 87 0 := ⟨bs87⟩
instance : Und Tryd.prog 87 (Go.TypeDesc.array 0 16) := ⟨Tryd.underlying87⟩
instance : Zec Tryd.prog 87 (Go.Value.agg #[]) := ⟨ze87⟩
instance : Szc Tryd.prog 88 0 := ⟨sz88⟩
instance : Bsc Tryd.prog 88 0 := ⟨bs88⟩
instance : Und Tryd.prog 88 (Go.TypeDesc.struct #[{ name := "_", type := 87, offset := 0, embedded := false, tag := "", pkgPath := "runtime", byteOffset := 0 }]) := ⟨Tryd.underlying88⟩
instance : Zec Tryd.prog 88 (Go.Value.agg #[]) := ⟨ze88⟩
instance : Szc Tryd.prog 89 0 := ⟨sz89⟩
instance : Bsc Tryd.prog 89 0 := ⟨bs89⟩
instance : Und Tryd.prog 89 (Go.TypeDesc.struct #[{ name := "_", type := 87, offset := 0, embedded := false, tag := "", pkgPath := "runtime", byteOffset := 0 }]) := ⟨Tryd.underlying89⟩
instance : Zec Tryd.prog 89 (Go.Value.agg #[]) := ⟨ze89⟩
instance : Szc Tryd.prog 90 1 := ⟨sz90⟩
instance : Bsc Tryd.prog 90 8 := ⟨bs90⟩
instance : Und Tryd.prog 90 (Go.TypeDesc.func #[] #[3] false) := ⟨Tryd.underlying90⟩
instance : Zec Tryd.prog 90 (Go.Value.nilFunc) := ⟨ze90⟩
instance : Szc Tryd.prog 91 1 := ⟨sz91⟩
instance : Bsc Tryd.prog 91 1 := ⟨bs91⟩
instance : Und Tryd.prog 91 (Go.TypeDesc.int Go.IntKind.u8) := ⟨Tryd.underlying91⟩
instance : Zec Tryd.prog 91 (Go.Value.int Go.IntKind.u8 0) := ⟨ze91⟩
instance : Szc Tryd.prog 92 1 := ⟨sz92⟩
instance : Bsc Tryd.prog 92 1 := ⟨bs92⟩
instance : Und Tryd.prog 92 (Go.TypeDesc.int Go.IntKind.u8) := ⟨Tryd.underlying92⟩
instance : Zec Tryd.prog 92 (Go.Value.int Go.IntKind.u8 0) := ⟨ze92⟩
instance : Szc Tryd.prog 93 1 := ⟨sz93⟩
instance : Bsc Tryd.prog 93 8 := ⟨bs93⟩
instance : Und Tryd.prog 93 (Go.TypeDesc.func #[99, 99] #[4] false) := ⟨Tryd.underlying93⟩
instance : Zec Tryd.prog 93 (Go.Value.nilFunc) := ⟨ze93⟩
instance : Szc Tryd.prog 94 1 := ⟨sz94⟩
instance : Bsc Tryd.prog 94 8 := ⟨bs94⟩
instance : Und Tryd.prog 94 (Go.TypeDesc.pointer 5) := ⟨Tryd.underlying94⟩
instance : Zec Tryd.prog 94 (Go.Value.pointer none) := ⟨ze94⟩
instance : Szc Tryd.prog 95 1 := ⟨sz95⟩
instance : Bsc Tryd.prog 95 4 := ⟨bs95⟩
instance : Und Tryd.prog 95 (Go.TypeDesc.int Go.IntKind.i32) := ⟨Tryd.underlying95⟩
instance : Zec Tryd.prog 95 (Go.Value.int Go.IntKind.i32 0) := ⟨ze95⟩
instance : Szc Tryd.prog 96 1 := ⟨sz96⟩
instance : Bsc Tryd.prog 96 4 := ⟨bs96⟩
instance : Und Tryd.prog 96 (Go.TypeDesc.int Go.IntKind.i32) := ⟨Tryd.underlying96⟩
instance : Zec Tryd.prog 96 (Go.Value.int Go.IntKind.i32 0) := ⟨ze96⟩
instance : Szc Tryd.prog 97 11 := ⟨sz97⟩
instance : Bsc Tryd.prog 97 48 := ⟨bs97⟩
instance : Und Tryd.prog 97 (Go.TypeDesc.struct #[{ name := "Size_", type := 12, offset := 0, embedded := false, tag := "", pkgPath := "", byteOffset := 0 }, { name := "PtrBytes", type := 12, offset := 1, embedded := false, tag := "", pkgPath := "", byteOffset := 8 }, { name := "Hash", type := 76, offset := 2, embedded := false, tag := "", pkgPath := "", byteOffset := 16 }, { name := "TFlag", type := 91, offset := 3, embedded := false, tag := "", pkgPath := "", byteOffset := 20 }, { name := "Align_", type := 5, offset := 4, embedded := false, tag := "", pkgPath := "", byteOffset := 21 }, { name := "FieldAlign_", type := 5, offset := 5, embedded := false, tag := "", pkgPath := "", byteOffset := 22 }, { name := "Kind_", type := 92, offset := 6, embedded := false, tag := "", pkgPath := "", byteOffset := 23 }, { name := "Equal", type := 93, offset := 7, embedded := false, tag := "", pkgPath := "", byteOffset := 24 }, { name := "GCData", type := 94, offset := 8, embedded := false, tag := "", pkgPath := "", byteOffset := 32 }, { name := "Str", type := 95, offset := 9, embedded := false, tag := "", pkgPath := "", byteOffset := 40 }, { name := "PtrToThis", type := 96, offset := 10, embedded := false, tag := "", pkgPath := "", byteOffset := 44 }]) := ⟨Tryd.underlying97⟩
instance : Zec Tryd.prog 97 (Go.Value.agg #[(Go.Value.int Go.IntKind.u64 0), (Go.Value.int Go.IntKind.u64 0), (Go.Value.int Go.IntKind.u32 0), (Go.Value.int Go.IntKind.u8 0), (Go.Value.int Go.IntKind.u8 0), (Go.Value.int Go.IntKind.u8 0), (Go.Value.int Go.IntKind.u8 0), Go.Value.nilFunc, (Go.Value.pointer none), (Go.Value.int Go.IntKind.i32 0), (Go.Value.int Go.IntKind.i32 0)]) := ⟨ze97⟩
instance : Szc Tryd.prog 98 11 := ⟨sz98⟩
instance : Bsc Tryd.prog 98 48 := ⟨bs98⟩
instance : Und Tryd.prog 98 (Go.TypeDesc.struct #[{ name := "Size_", type := 12, offset := 0, embedded := false, tag := "", pkgPath := "", byteOffset := 0 }, { name := "PtrBytes", type := 12, offset := 1, embedded := false, tag := "", pkgPath := "", byteOffset := 8 }, { name := "Hash", type := 76, offset := 2, embedded := false, tag := "", pkgPath := "", byteOffset := 16 }, { name := "TFlag", type := 91, offset := 3, embedded := false, tag := "", pkgPath := "", byteOffset := 20 }, { name := "Align_", type := 5, offset := 4, embedded := false, tag := "", pkgPath := "", byteOffset := 21 }, { name := "FieldAlign_", type := 5, offset := 5, embedded := false, tag := "", pkgPath := "", byteOffset := 22 }, { name := "Kind_", type := 92, offset := 6, embedded := false, tag := "", pkgPath := "", byteOffset := 23 }, { name := "Equal", type := 93, offset := 7, embedded := false, tag := "", pkgPath := "", byteOffset := 24 }, { name := "GCData", type := 94, offset := 8, embedded := false, tag := "", pkgPath := "", byteOffset := 32 }, { name := "Str", type := 95, offset := 9, embedded := false, tag := "", pkgPath := "", byteOffset := 40 }, { name := "PtrToThis", type := 96, offset := 10, embedded := false, tag := "", pkgPath := "", byteOffset := 44 }]) := ⟨Tryd.underlying98⟩
instance : Zec Tryd.prog 98 (Go.Value.agg #[(Go.Value.int Go.IntKind.u64 0), (Go.Value.int Go.IntKind.u64 0), (Go.Value.int Go.IntKind.u32 0), (Go.Value.int Go.IntKind.u8 0), (Go.Value.int Go.IntKind.u8 0), (Go.Value.int Go.IntKind.u8 0), (Go.Value.int Go.IntKind.u8 0), Go.Value.nilFunc, (Go.Value.pointer none), (Go.Value.int Go.IntKind.i32 0), (Go.Value.int Go.IntKind.i32 0)]) := ⟨ze98⟩
instance : Szc Tryd.prog 99 1 := ⟨sz99⟩
instance : Bsc Tryd.prog 99 8 := ⟨bs99⟩
instance : Und Tryd.prog 99 Go.TypeDesc.unsafePointer := ⟨Tryd.underlying99⟩
instance : Zec Tryd.prog 99 (Go.Value.pointer none) := ⟨ze99⟩
theorem bld24_  : bldv Tryd.prog 24 [] = some (.agg #[(Go.Value.int Go.IntKind.i64 0), (Go.Value.int Go.IntKind.i64 0), (Go.Value.int Go.IntKind.i64 0), (Go.Value.int Go.IntKind.i64 0), (Go.Value.int Go.IntKind.i64 0), (Go.Value.int Go.IntKind.i64 0), (Go.Value.int Go.IntKind.i64 0), (Go.Value.int Go.IntKind.i64 0)]) := by kernel_rfl
theorem bld24_0 (a0 : Int) : bldv Tryd.prog 24 [(0, (.int Go.IntKind.i64 a0))] = some (.agg #[(.int Go.IntKind.i64 a0), (Go.Value.int Go.IntKind.i64 0), (Go.Value.int Go.IntKind.i64 0), (Go.Value.int Go.IntKind.i64 0), (Go.Value.int Go.IntKind.i64 0), (Go.Value.int Go.IntKind.i64 0), (Go.Value.int Go.IntKind.i64 0), (Go.Value.int Go.IntKind.i64 0)]) := by kernel_rfl
theorem bld24_0_1 (a0 : Int) (a1 : Int) : bldv Tryd.prog 24 [(0, (.int Go.IntKind.i64 a0)), (1, (.int Go.IntKind.i64 a1))] = some (.agg #[(.int Go.IntKind.i64 a0), (.int Go.IntKind.i64 a1), (Go.Value.int Go.IntKind.i64 0), (Go.Value.int Go.IntKind.i64 0), (Go.Value.int Go.IntKind.i64 0), (Go.Value.int Go.IntKind.i64 0), (Go.Value.int Go.IntKind.i64 0), (Go.Value.int Go.IntKind.i64 0)]) := by kernel_rfl
theorem bld24_0_1_2 (a0 : Int) (a1 : Int) (a2 : Int) : bldv Tryd.prog 24 [(0, (.int Go.IntKind.i64 a0)), (1, (.int Go.IntKind.i64 a1)), (2, (.int Go.IntKind.i64 a2))] = some (.agg #[(.int Go.IntKind.i64 a0), (.int Go.IntKind.i64 a1), (.int Go.IntKind.i64 a2), (Go.Value.int Go.IntKind.i64 0), (Go.Value.int Go.IntKind.i64 0), (Go.Value.int Go.IntKind.i64 0), (Go.Value.int Go.IntKind.i64 0), (Go.Value.int Go.IntKind.i64 0)]) := by kernel_rfl
theorem bld24_0_1_2_3 (a0 : Int) (a1 : Int) (a2 : Int) (a3 : Int) : bldv Tryd.prog 24 [(0, (.int Go.IntKind.i64 a0)), (1, (.int Go.IntKind.i64 a1)), (2, (.int Go.IntKind.i64 a2)), (3, (.int Go.IntKind.i64 a3))] = some (.agg #[(.int Go.IntKind.i64 a0), (.int Go.IntKind.i64 a1), (.int Go.IntKind.i64 a2), (.int Go.IntKind.i64 a3), (Go.Value.int Go.IntKind.i64 0), (Go.Value.int Go.IntKind.i64 0), (Go.Value.int Go.IntKind.i64 0), (Go.Value.int Go.IntKind.i64 0)]) := by kernel_rfl
theorem bld24_0_1_2_3_4 (a0 : Int) (a1 : Int) (a2 : Int) (a3 : Int) (a4 : Int) : bldv Tryd.prog 24 [(0, (.int Go.IntKind.i64 a0)), (1, (.int Go.IntKind.i64 a1)), (2, (.int Go.IntKind.i64 a2)), (3, (.int Go.IntKind.i64 a3)), (4, (.int Go.IntKind.i64 a4))] = some (.agg #[(.int Go.IntKind.i64 a0), (.int Go.IntKind.i64 a1), (.int Go.IntKind.i64 a2), (.int Go.IntKind.i64 a3), (.int Go.IntKind.i64 a4), (Go.Value.int Go.IntKind.i64 0), (Go.Value.int Go.IntKind.i64 0), (Go.Value.int Go.IntKind.i64 0)]) := by kernel_rfl
theorem bld24_0_1_2_3_4_5 (a0 : Int) (a1 : Int) (a2 : Int) (a3 : Int) (a4 : Int) (a5 : Int) : bldv Tryd.prog 24 [(0, (.int Go.IntKind.i64 a0)), (1, (.int Go.IntKind.i64 a1)), (2, (.int Go.IntKind.i64 a2)), (3, (.int Go.IntKind.i64 a3)), (4, (.int Go.IntKind.i64 a4)), (5, (.int Go.IntKind.i64 a5))] = some (.agg #[(.int Go.IntKind.i64 a0), (.int Go.IntKind.i64 a1), (.int Go.IntKind.i64 a2), (.int Go.IntKind.i64 a3), (.int Go.IntKind.i64 a4), (.int Go.IntKind.i64 a5), (Go.Value.int Go.IntKind.i64 0), (Go.Value.int Go.IntKind.i64 0)]) := by kernel_rfl
theorem bld24_0_1_2_3_4_5_6 (a0 : Int) (a1 : Int) (a2 : Int) (a3 : Int) (a4 : Int) (a5 : Int) (a6 : Int) : bldv Tryd.prog 24 [(0, (.int Go.IntKind.i64 a0)), (1, (.int Go.IntKind.i64 a1)), (2, (.int Go.IntKind.i64 a2)), (3, (.int Go.IntKind.i64 a3)), (4, (.int Go.IntKind.i64 a4)), (5, (.int Go.IntKind.i64 a5)), (6, (.int Go.IntKind.i64 a6))] = some (.agg #[(.int Go.IntKind.i64 a0), (.int Go.IntKind.i64 a1), (.int Go.IntKind.i64 a2), (.int Go.IntKind.i64 a3), (.int Go.IntKind.i64 a4), (.int Go.IntKind.i64 a5), (.int Go.IntKind.i64 a6), (Go.Value.int Go.IntKind.i64 0)]) := by kernel_rfl
theorem bld24_0_1_2_3_4_5_6_7 (a0 : Int) (a1 : Int) (a2 : Int) (a3 : Int) (a4 : Int) (a5 : Int) (a6 : Int) (a7 : Int) : bldv Tryd.prog 24 [(0, (.int Go.IntKind.i64 a0)), (1, (.int Go.IntKind.i64 a1)), (2, (.int Go.IntKind.i64 a2)), (3, (.int Go.IntKind.i64 a3)), (4, (.int Go.IntKind.i64 a4)), (5, (.int Go.IntKind.i64 a5)), (6, (.int Go.IntKind.i64 a6)), (7, (.int Go.IntKind.i64 a7))] = some (.agg #[(.int Go.IntKind.i64 a0), (.int Go.IntKind.i64 a1), (.int Go.IntKind.i64 a2), (.int Go.IntKind.i64 a3), (.int Go.IntKind.i64 a4), (.int Go.IntKind.i64 a5), (.int Go.IntKind.i64 a6), (.int Go.IntKind.i64 a7)]) := by kernel_rfl
theorem bld24_7 (a0 : Int) : bldv Tryd.prog 24 [(7, (.int Go.IntKind.i64 a0))] = some (.agg #[(Go.Value.int Go.IntKind.i64 0), (Go.Value.int Go.IntKind.i64 0), (Go.Value.int Go.IntKind.i64 0), (Go.Value.int Go.IntKind.i64 0), (Go.Value.int Go.IntKind.i64 0), (Go.Value.int Go.IntKind.i64 0), (Go.Value.int Go.IntKind.i64 0), (.int Go.IntKind.i64 a0)]) := by kernel_rfl
theorem bld54_0_1 (a0 : ByteArray) (a10 a11 a12 a13 a14 a15 a16 a17 : Value) : bldv Tryd.prog 54 [(0, (.string a0)), (1, (.agg #[a10, a11, a12, a13, a14, a15, a16, a17]))] = some (.agg #[(.string a0), a10, a11, a12, a13, a14, a15, a16, a17]) := by kernel_rfl
theorem bld75_0_1_2_3_4_5_6_7_8_9_10_11_12_13_14_15_16_17_18_19 (a0 : Int) (a1 : Int) (a2 : Int) (a3 : Int) (a4 : Int) (a5 : Int) (a6 : Int) (a7 : Int) (a8 : Int) (a9 : Int) (a10 : Int) (a11 : Int) (a12 : Int) (a13 : Int) (a14 : Int) (a15 : Int) (a16 : Int) (a17 : Int) (a18 : Int) (a19 : Int) : bldv Tryd.prog 75 [(0, (.int Go.IntKind.u64 a0)), (1, (.int Go.IntKind.u64 a1)), (2, (.int Go.IntKind.u64 a2)), (3, (.int Go.IntKind.u64 a3)), (4, (.int Go.IntKind.u64 a4)), (5, (.int Go.IntKind.u64 a5)), (6, (.int Go.IntKind.u64 a6)), (7, (.int Go.IntKind.u64 a7)), (8, (.int Go.IntKind.u64 a8)), (9, (.int Go.IntKind.u64 a9)), (10, (.int Go.IntKind.u64 a10)), (11, (.int Go.IntKind.u64 a11)), (12, (.int Go.IntKind.u64 a12)), (13, (.int Go.IntKind.u64 a13)), (14, (.int Go.IntKind.u64 a14)), (15, (.int Go.IntKind.u64 a15)), (16, (.int Go.IntKind.u64 a16)), (17, (.int Go.IntKind.u64 a17)), (18, (.int Go.IntKind.u64 a18)), (19, (.int Go.IntKind.u64 a19))] = some (.agg #[(.int Go.IntKind.u64 a0), (.int Go.IntKind.u64 a1), (.int Go.IntKind.u64 a2), (.int Go.IntKind.u64 a3), (.int Go.IntKind.u64 a4), (.int Go.IntKind.u64 a5), (.int Go.IntKind.u64 a6), (.int Go.IntKind.u64 a7), (.int Go.IntKind.u64 a8), (.int Go.IntKind.u64 a9), (.int Go.IntKind.u64 a10), (.int Go.IntKind.u64 a11), (.int Go.IntKind.u64 a12), (.int Go.IntKind.u64 a13), (.int Go.IntKind.u64 a14), (.int Go.IntKind.u64 a15), (.int Go.IntKind.u64 a16), (.int Go.IntKind.u64 a17), (.int Go.IntKind.u64 a18), (.int Go.IntKind.u64 a19)]) := by kernel_rfl
theorem bld82_0_1_2_3_4_5_6_7_8_9_10_11_12_13_14_15_16_17_18_19_20_21_22_23_24_25_26_27_28_29_30_31 (a0 : Int) (a1 : Int) (a2 : Int) (a3 : Int) (a4 : Int) (a5 : Int) (a6 : Int) (a7 : Int) (a8 : Int) (a9 : Int) (a10 : Int) (a11 : Int) (a12 : Int) (a13 : Int) (a14 : Int) (a15 : Int) (a16 : Int) (a17 : Int) (a18 : Int) (a19 : Int) (a20 : Int) (a21 : Int) (a22 : Int) (a23 : Int) (a24 : Int) (a25 : Int) (a26 : Int) (a27 : Int) (a28 : Int) (a29 : Int) (a30 : Int) (a31 : Int) : bldv Tryd.prog 82 [(0, (.int Go.IntKind.u8 a0)), (1, (.int Go.IntKind.u8 a1)), (2, (.int Go.IntKind.u8 a2)), (3, (.int Go.IntKind.u8 a3)), (4, (.int Go.IntKind.u8 a4)), (5, (.int Go.IntKind.u8 a5)), (6, (.int Go.IntKind.u8 a6)), (7, (.int Go.IntKind.u8 a7)), (8, (.int Go.IntKind.u8 a8)), (9, (.int Go.IntKind.u8 a9)), (10, (.int Go.IntKind.u8 a10)), (11, (.int Go.IntKind.u8 a11)), (12, (.int Go.IntKind.u8 a12)), (13, (.int Go.IntKind.u8 a13)), (14, (.int Go.IntKind.u8 a14)), (15, (.int Go.IntKind.u8 a15)), (16, (.int Go.IntKind.u8 a16)), (17, (.int Go.IntKind.u8 a17)), (18, (.int Go.IntKind.u8 a18)), (19, (.int Go.IntKind.u8 a19)), (20, (.int Go.IntKind.u8 a20)), (21, (.int Go.IntKind.u8 a21)), (22, (.int Go.IntKind.u8 a22)), (23, (.int Go.IntKind.u8 a23)), (24, (.int Go.IntKind.u8 a24)), (25, (.int Go.IntKind.u8 a25)), (26, (.int Go.IntKind.u8 a26)), (27, (.int Go.IntKind.u8 a27)), (28, (.int Go.IntKind.u8 a28)), (29, (.int Go.IntKind.u8 a29)), (30, (.int Go.IntKind.u8 a30)), (31, (.int Go.IntKind.u8 a31))] = some (.agg #[(.int Go.IntKind.u8 a0), (.int Go.IntKind.u8 a1), (.int Go.IntKind.u8 a2), (.int Go.IntKind.u8 a3), (.int Go.IntKind.u8 a4), (.int Go.IntKind.u8 a5), (.int Go.IntKind.u8 a6), (.int Go.IntKind.u8 a7), (.int Go.IntKind.u8 a8), (.int Go.IntKind.u8 a9), (.int Go.IntKind.u8 a10), (.int Go.IntKind.u8 a11), (.int Go.IntKind.u8 a12), (.int Go.IntKind.u8 a13), (.int Go.IntKind.u8 a14), (.int Go.IntKind.u8 a15), (.int Go.IntKind.u8 a16), (.int Go.IntKind.u8 a17), (.int Go.IntKind.u8 a18), (.int Go.IntKind.u8 a19), (.int Go.IntKind.u8 a20), (.int Go.IntKind.u8 a21), (.int Go.IntKind.u8 a22), (.int Go.IntKind.u8 a23), (.int Go.IntKind.u8 a24), (.int Go.IntKind.u8 a25), (.int Go.IntKind.u8 a26), (.int Go.IntKind.u8 a27), (.int Go.IntKind.u8 a28), (.int Go.IntKind.u8 a29), (.int Go.IntKind.u8 a30), (.int Go.IntKind.u8 a31)]) := by kernel_rfl
theorem mixed : Tryd.prog.follows .mixedOrders = true := by kernel_rfl
end Go.Proofs.YtmkbjdoifjcogaaDoor.HL
