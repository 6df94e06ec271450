/- Facts: closed facts of the seat's types and functions, each by the kernel. No condition. -/
import Derived.Test.YtmgjmjhnhgnfcaaDoorHLm
import Derived.Test.YtmgjmjhnhgnfcaaDoorProg
namespace Go.Proofs.YtmgjmjhnhgnfcaaDoor.HL
open Go
set_option linter.unusedVariables false
theorem sz0 : szOf Tryd.prog 0 = some 1 := by kernel_rfl
theorem bs0 : bsOf Tryd.prog 0 = some 0 := by kernel_rfl
theorem ze0 : zeroOf Tryd.prog 0 = some (Go.Value.tuple #[]) := by kernel_rfl
theorem sz1 : szOf Tryd.prog 1 = some 1 := by kernel_rfl
theorem bs1 : bsOf Tryd.prog 1 = some 8 := by kernel_rfl
theorem ze1 : zeroOf Tryd.prog 1 = some Go.Value.nilFunc := by kernel_rfl
theorem sz2 : szOf Tryd.prog 2 = some 1 := by kernel_rfl
theorem bs2 : bsOf Tryd.prog 2 = some 8 := by kernel_rfl
theorem ze2 : zeroOf Tryd.prog 2 = some (Go.Value.int Go.IntKind.i64 0) := by kernel_rfl
theorem sz3 : szOf Tryd.prog 3 = some 1 := by kernel_rfl
theorem bs3 : bsOf Tryd.prog 3 = some 8 := by kernel_rfl
theorem ze3 : zeroOf Tryd.prog 3 = some (Go.Value.int Go.IntKind.i64 0) := by kernel_rfl
theorem sz4 : szOf Tryd.prog 4 = some 1 := by kernel_rfl
theorem bs4 : bsOf Tryd.prog 4 = some 1 := by kernel_rfl
theorem ze4 : zeroOf Tryd.prog 4 = some (Go.Value.bool false) := by kernel_rfl
theorem sz5 : szOf Tryd.prog 5 = some 1 := by kernel_rfl
theorem bs5 : bsOf Tryd.prog 5 = some 1 := by kernel_rfl
theorem ze5 : zeroOf Tryd.prog 5 = some (Go.Value.int Go.IntKind.u8 0) := by kernel_rfl
theorem sz6 : szOf Tryd.prog 6 = some 1 := by kernel_rfl
theorem bs6 : bsOf Tryd.prog 6 = some 1 := by kernel_rfl
theorem ze6 : zeroOf Tryd.prog 6 = some (Go.Value.int Go.IntKind.u8 0) := by kernel_rfl
theorem sz7 : szOf Tryd.prog 7 = some 4 := by kernel_rfl
theorem bs7 : bsOf Tryd.prog 7 = some 24 := by kernel_rfl
theorem ze7 : zeroOf Tryd.prog 7 = some (Go.Value.agg #[(Go.Value.int Go.IntKind.i64 0), (Go.Value.int Go.IntKind.i64 0), (Go.Value.bool false), (Go.Value.int Go.IntKind.u8 0)]) := by kernel_rfl
theorem sz8 : szOf Tryd.prog 8 = some 4 := by kernel_rfl
theorem bs8 : bsOf Tryd.prog 8 = some 24 := by kernel_rfl
theorem ze8 : zeroOf Tryd.prog 8 = some (Go.Value.agg #[(Go.Value.int Go.IntKind.i64 0), (Go.Value.int Go.IntKind.i64 0), (Go.Value.bool false), (Go.Value.int Go.IntKind.u8 0)]) := by kernel_rfl
theorem sz9 : szOf Tryd.prog 9 = some 1 := by kernel_rfl
theorem bs9 : bsOf Tryd.prog 9 = some 16 := by kernel_rfl
theorem ze9 : zeroOf Tryd.prog 9 = some (Go.Value.string { data := #[] }) := by kernel_rfl
theorem sz10 : szOf Tryd.prog 10 = some 1 := by kernel_rfl
theorem bs10 : bsOf Tryd.prog 10 = some 16 := by kernel_rfl
theorem ze10 : zeroOf Tryd.prog 10 = some (Go.Value.string { data := #[] }) := by kernel_rfl
theorem sz11 : szOf Tryd.prog 11 = some 1 := by kernel_rfl
theorem bs11 : bsOf Tryd.prog 11 = some 16 := by kernel_rfl
theorem ze11 : zeroOf Tryd.prog 11 = some (Go.Value.string { data := #[] }) := by kernel_rfl
theorem sz12 : szOf Tryd.prog 12 = some 1 := by kernel_rfl
theorem bs12 : bsOf Tryd.prog 12 = some 8 := by kernel_rfl
theorem ze12 : zeroOf Tryd.prog 12 = some (Go.Value.int Go.IntKind.u64 0) := by kernel_rfl
theorem sz13 : szOf Tryd.prog 13 = some 2 := by kernel_rfl
theorem bs13 : bsOf Tryd.prog 13 = some 24 := by kernel_rfl
theorem ze13 : zeroOf Tryd.prog 13 = some (Go.Value.agg #[(Go.Value.string { data := #[] }), (Go.Value.int Go.IntKind.u64 0)]) := by kernel_rfl
theorem sz14 : szOf Tryd.prog 14 = some 2 := by kernel_rfl
theorem bs14 : bsOf Tryd.prog 14 = some 24 := by kernel_rfl
theorem ze14 : zeroOf Tryd.prog 14 = some (Go.Value.agg #[(Go.Value.string { data := #[] }), (Go.Value.int Go.IntKind.u64 0)]) := by kernel_rfl
theorem sz15 : szOf Tryd.prog 15 = some 1 := by kernel_rfl
theorem bs15 : bsOf Tryd.prog 15 = some 8 := by kernel_rfl
theorem ze15 : zeroOf Tryd.prog 15 = some (Go.Value.pointer none) := by kernel_rfl
theorem sz16 : szOf Tryd.prog 16 = some 1 := by kernel_rfl
theorem bs16 : bsOf Tryd.prog 16 = some 8 := by kernel_rfl
theorem ze16 : zeroOf Tryd.prog 16 = some (Go.Value.pointer none) := by kernel_rfl
theorem sz17 : szOf Tryd.prog 17 = some 1 := by kernel_rfl
theorem bs17 : bsOf Tryd.prog 17 = some 8 := by kernel_rfl
theorem ze17 : zeroOf Tryd.prog 17 = some (Go.Value.pointer none) := by kernel_rfl
theorem sz18 : szOf Tryd.prog 18 = some 1 := by kernel_rfl
theorem bs18 : bsOf Tryd.prog 18 = some 8 := by kernel_rfl
theorem ze18 : zeroOf Tryd.prog 18 = some (Go.Value.agg #[(Go.Value.pointer none)]) := by kernel_rfl
theorem sz19 : szOf Tryd.prog 19 = some 1 := by kernel_rfl
theorem bs19 : bsOf Tryd.prog 19 = some 8 := by kernel_rfl
theorem ze19 : zeroOf Tryd.prog 19 = some (Go.Value.agg #[(Go.Value.pointer none)]) := by kernel_rfl
theorem sz20 : szOf Tryd.prog 20 = some 1 := by kernel_rfl
theorem bs20 : bsOf Tryd.prog 20 = some 16 := by kernel_rfl
theorem ze20 : zeroOf Tryd.prog 20 = some Go.Value.nilIface := by kernel_rfl
theorem sz21 : szOf Tryd.prog 21 = some 1 := by kernel_rfl
theorem bs21 : bsOf Tryd.prog 21 = some 4 := by kernel_rfl
theorem ze21 : zeroOf Tryd.prog 21 = some (Go.Value.int Go.IntKind.i32 0) := by kernel_rfl
theorem sz22 : szOf Tryd.prog 22 = some 1 := by kernel_rfl
theorem bs22 : bsOf Tryd.prog 22 = some 8 := by kernel_rfl
theorem ze22 : zeroOf Tryd.prog 22 = some (Go.Value.int Go.IntKind.i64 0) := by kernel_rfl
theorem sz23 : szOf Tryd.prog 23 = some 1 := by kernel_rfl
theorem bs23 : bsOf Tryd.prog 23 = some 0 := by kernel_rfl
theorem ze23 : zeroOf Tryd.prog 23 = some (Go.Value.tuple #[(Go.Value.int Go.IntKind.i64 0), (Go.Value.int Go.IntKind.i64 0)]) := by kernel_rfl
theorem sz24 : szOf Tryd.prog 24 = some 1 := by kernel_rfl
theorem bs24 : bsOf Tryd.prog 24 = some 8 := by kernel_rfl
theorem ze24 : zeroOf Tryd.prog 24 = some Go.Value.nilFunc := by kernel_rfl
theorem sz25 : szOf Tryd.prog 25 = some 1 := by kernel_rfl
theorem bs25 : bsOf Tryd.prog 25 = some 8 := by kernel_rfl
theorem ze25 : zeroOf Tryd.prog 25 = some Go.Value.nilFunc := by kernel_rfl
theorem sz26 : szOf Tryd.prog 26 = some 1 := by kernel_rfl
theorem bs26 : bsOf Tryd.prog 26 = some 8 := by kernel_rfl
theorem ze26 : zeroOf Tryd.prog 26 = some Go.Value.nilFunc := by kernel_rfl
theorem sz27 : szOf Tryd.prog 27 = some 1 := by kernel_rfl
theorem bs27 : bsOf Tryd.prog 27 = some 24 := by kernel_rfl
theorem ze27 : zeroOf Tryd.prog 27 = some (Go.Value.slice none 0 0) := by kernel_rfl
theorem sz28 : szOf Tryd.prog 28 = some 1 := by kernel_rfl
theorem bs28 : bsOf Tryd.prog 28 = some 8 := by kernel_rfl
theorem ze28 : zeroOf Tryd.prog 28 = some Go.Value.nilFunc := by kernel_rfl
theorem sz29 : szOf Tryd.prog 29 = some 1 := by kernel_rfl
theorem bs29 : bsOf Tryd.prog 29 = some 8 := by kernel_rfl
theorem ze29 : zeroOf Tryd.prog 29 = some Go.Value.nilFunc := by kernel_rfl
theorem sz30 : szOf Tryd.prog 30 = some 1 := by kernel_rfl
theorem bs30 : bsOf Tryd.prog 30 = some 0 := by kernel_rfl
theorem ze30 : zeroOf Tryd.prog 30 = some (Go.Value.tuple #[(Go.Value.string { data := #[] }), (Go.Value.int Go.IntKind.i64 0), (Go.Value.int Go.IntKind.i64 0)]) := by kernel_rfl
theorem sz31 : szOf Tryd.prog 31 = some 1 := by kernel_rfl
theorem bs31 : bsOf Tryd.prog 31 = some 8 := by kernel_rfl
theorem ze31 : zeroOf Tryd.prog 31 = some Go.Value.nilFunc := by kernel_rfl
theorem sz32 : szOf Tryd.prog 32 = some 1 := by kernel_rfl
theorem bs32 : bsOf Tryd.prog 32 = some 8 := by kernel_rfl
theorem ze32 : zeroOf Tryd.prog 32 = some Go.Value.nilFunc := by kernel_rfl
theorem sz33 : szOf Tryd.prog 33 = some 1 := by kernel_rfl
theorem bs33 : bsOf Tryd.prog 33 = some 8 := by kernel_rfl
theorem ze33 : zeroOf Tryd.prog 33 = some Go.Value.nilFunc := by kernel_rfl
theorem sz34 : szOf Tryd.prog 34 = some 1 := by kernel_rfl
theorem bs34 : bsOf Tryd.prog 34 = some 8 := by kernel_rfl
theorem ze34 : zeroOf Tryd.prog 34 = some Go.Value.nilFunc := by kernel_rfl
theorem sz35 : szOf Tryd.prog 35 = some 1 := by kernel_rfl
theorem bs35 : bsOf Tryd.prog 35 = some 0 := by kernel_rfl
theorem ze35 : zeroOf Tryd.prog 35 = some (Go.Value.tuple #[(Go.Value.string { data := #[] }), (Go.Value.int Go.IntKind.i64 0), (Go.Value.int Go.IntKind.i64 0)]) := by kernel_rfl
theorem sz36 : szOf Tryd.prog 36 = some 1 := by kernel_rfl
theorem bs36 : bsOf Tryd.prog 36 = some 8 := by kernel_rfl
theorem ze36 : zeroOf Tryd.prog 36 = some Go.Value.nilFunc := by kernel_rfl
theorem sz37 : szOf Tryd.prog 37 = some 1 := by kernel_rfl
theorem bs37 : bsOf Tryd.prog 37 = some 8 := by kernel_rfl
theorem ze37 : zeroOf Tryd.prog 37 = some Go.Value.nilFunc := by kernel_rfl
theorem sz38 : szOf Tryd.prog 38 = some 1 := by kernel_rfl
theorem bs38 : bsOf Tryd.prog 38 = some 24 := by kernel_rfl
theorem ze38 : zeroOf Tryd.prog 38 = some (Go.Value.slice none 0 0) := by kernel_rfl
theorem sz39 : szOf Tryd.prog 39 = some 1 := by kernel_rfl
theorem bs39 : bsOf Tryd.prog 39 = some 0 := by kernel_rfl
theorem ze39 : zeroOf Tryd.prog 39 = some (Go.Value.tuple #[(Go.Value.string { data := #[] }), (Go.Value.int Go.IntKind.i64 0)]) := by kernel_rfl
theorem sz40 : szOf Tryd.prog 40 = some 1 := by kernel_rfl
theorem bs40 : bsOf Tryd.prog 40 = some 8 := by kernel_rfl
theorem ze40 : zeroOf Tryd.prog 40 = some Go.Value.nilFunc := by kernel_rfl
theorem sz41 : szOf Tryd.prog 41 = some 1 := by kernel_rfl
theorem bs41 : bsOf Tryd.prog 41 = some 0 := by kernel_rfl
theorem ze41 : zeroOf Tryd.prog 41 = some (Go.Value.tuple #[(Go.Value.int Go.IntKind.i64 0), (Go.Value.int Go.IntKind.i64 0), (Go.Value.int Go.IntKind.i64 0)]) := by kernel_rfl
theorem sz42 : szOf Tryd.prog 42 = some 1 := by kernel_rfl
theorem bs42 : bsOf Tryd.prog 42 = some 8 := by kernel_rfl
theorem ze42 : zeroOf Tryd.prog 42 = some Go.Value.nilFunc := by kernel_rfl
theorem sz43 : szOf Tryd.prog 43 = some 1 := by kernel_rfl
theorem bs43 : bsOf Tryd.prog 43 = some 8 := by kernel_rfl
theorem ze43 : zeroOf Tryd.prog 43 = some Go.Value.nilFunc := by kernel_rfl
theorem sz44 : szOf Tryd.prog 44 = some 1 := by kernel_rfl
theorem bs44 : bsOf Tryd.prog 44 = some 24 := by kernel_rfl
theorem ze44 : zeroOf Tryd.prog 44 = some (Go.Value.slice none 0 0) := by kernel_rfl
theorem sz45 : szOf Tryd.prog 45 = some 1 := by kernel_rfl
theorem bs45 : bsOf Tryd.prog 45 = some 8 := by kernel_rfl
theorem ze45 : zeroOf Tryd.prog 45 = some Go.Value.nilFunc := by kernel_rfl
theorem sz46 : szOf Tryd.prog 46 = some 1 := by kernel_rfl
theorem bs46 : bsOf Tryd.prog 46 = some 8 := by kernel_rfl
theorem ze46 : zeroOf Tryd.prog 46 = some Go.Value.nilFunc := by kernel_rfl
theorem sz47 : szOf Tryd.prog 47 = some 1 := by kernel_rfl
theorem bs47 : bsOf Tryd.prog 47 = some 8 := by kernel_rfl
theorem ze47 : zeroOf Tryd.prog 47 = some Go.Value.nilFunc := by kernel_rfl
theorem sz48 : szOf Tryd.prog 48 = some 1 := by kernel_rfl
theorem bs48 : bsOf Tryd.prog 48 = some 8 := by kernel_rfl
theorem ze48 : zeroOf Tryd.prog 48 = some Go.Value.nilFunc := by kernel_rfl
theorem sz49 : szOf Tryd.prog 49 = some 1 := by kernel_rfl
theorem bs49 : bsOf Tryd.prog 49 = some 8 := by kernel_rfl
theorem ze49 : zeroOf Tryd.prog 49 = some Go.Value.nilFunc := by kernel_rfl
theorem sz50 : szOf Tryd.prog 50 = some 1 := by kernel_rfl
theorem bs50 : bsOf Tryd.prog 50 = some 8 := by kernel_rfl
theorem ze50 : zeroOf Tryd.prog 50 = some Go.Value.nilFunc := by kernel_rfl
theorem sz51 : szOf Tryd.prog 51 = some 1 := by kernel_rfl
theorem bs51 : bsOf Tryd.prog 51 = some 8 := by kernel_rfl
theorem ze51 : zeroOf Tryd.prog 51 = some Go.Value.nilFunc := by kernel_rfl
theorem sz52 : szOf Tryd.prog 52 = some 1 := by kernel_rfl
theorem bs52 : bsOf Tryd.prog 52 = some 24 := by kernel_rfl
theorem ze52 : zeroOf Tryd.prog 52 = some (Go.Value.slice none 0 0) := by kernel_rfl
theorem sz53 : szOf Tryd.prog 53 = some 1 := by kernel_rfl
theorem bs53 : bsOf Tryd.prog 53 = some 24 := by kernel_rfl
theorem ze53 : zeroOf Tryd.prog 53 = some (Go.Value.slice none 0 0) := by kernel_rfl
theorem sz54 : szOf Tryd.prog 54 = some 1 := by kernel_rfl
theorem bs54 : bsOf Tryd.prog 54 = some 8 := by kernel_rfl
theorem ze54 : zeroOf Tryd.prog 54 = some Go.Value.nilFunc := by kernel_rfl
theorem sz55 : szOf Tryd.prog 55 = some 5 := by kernel_rfl
theorem bs55 : bsOf Tryd.prog 55 = some 32 := by kernel_rfl
theorem ze55 : zeroOf Tryd.prog 55 = some (Go.Value.agg #[(Go.Value.int Go.IntKind.i32 0), (Go.Value.int Go.IntKind.i32 0), (Go.Value.bool false), (Go.Value.int Go.IntKind.i64 0), (Go.Value.int Go.IntKind.i64 0)]) := by kernel_rfl
theorem sz56 : szOf Tryd.prog 56 = some 5 := by kernel_rfl
theorem bs56 : bsOf Tryd.prog 56 = some 32 := by kernel_rfl
theorem ze56 : zeroOf Tryd.prog 56 = some (Go.Value.agg #[(Go.Value.int Go.IntKind.i32 0), (Go.Value.int Go.IntKind.i32 0), (Go.Value.bool false), (Go.Value.int Go.IntKind.i64 0), (Go.Value.int Go.IntKind.i64 0)]) := by kernel_rfl
theorem sz57 : szOf Tryd.prog 57 = some 1 := by kernel_rfl
theorem bs57 : bsOf Tryd.prog 57 = some 0 := by kernel_rfl
theorem ze57 : zeroOf Tryd.prog 57 = some (Go.Value.tuple #[(Go.Value.int Go.IntKind.i32 0), (Go.Value.int Go.IntKind.i64 0)]) := by kernel_rfl
theorem sz58 : szOf Tryd.prog 58 = some 1 := by kernel_rfl
theorem bs58 : bsOf Tryd.prog 58 = some 8 := by kernel_rfl
theorem ze58 : zeroOf Tryd.prog 58 = some Go.Value.nilFunc := by kernel_rfl
theorem sz59 : szOf Tryd.prog 59 = some 1 := by kernel_rfl
theorem bs59 : bsOf Tryd.prog 59 = some 8 := by kernel_rfl
theorem ze59 : zeroOf Tryd.prog 59 = some Go.Value.nilFunc := by kernel_rfl
theorem sz60 : szOf Tryd.prog 60 = some 1 := by kernel_rfl
theorem bs60 : bsOf Tryd.prog 60 = some 0 := by kernel_rfl
theorem ze60 : zeroOf Tryd.prog 60 = some (Go.Value.tuple #[(Go.Value.string { data := #[] }), (Go.Value.int Go.IntKind.i64 0)]) := by kernel_rfl
theorem sz61 : szOf Tryd.prog 61 = some 1 := by kernel_rfl
theorem bs61 : bsOf Tryd.prog 61 = some 8 := by kernel_rfl
theorem ze61 : zeroOf Tryd.prog 61 = some Go.Value.nilFunc := by kernel_rfl
theorem sz62 : szOf Tryd.prog 62 = some 1 := by kernel_rfl
theorem bs62 : bsOf Tryd.prog 62 = some 8 := by kernel_rfl
theorem ze62 : zeroOf Tryd.prog 62 = some Go.Value.nilFunc := by kernel_rfl
theorem sz63 : szOf Tryd.prog 63 = some 1 := by kernel_rfl
theorem bs63 : bsOf Tryd.prog 63 = some 8 := by kernel_rfl
theorem ze63 : zeroOf Tryd.prog 63 = some Go.Value.nilFunc := by kernel_rfl
theorem sz64 : szOf Tryd.prog 64 = some 1 := by kernel_rfl
theorem bs64 : bsOf Tryd.prog 64 = some 8 := by kernel_rfl
theorem ze64 : zeroOf Tryd.prog 64 = some Go.Value.nilFunc := by kernel_rfl
theorem sz65 : szOf Tryd.prog 65 = some 1 := by kernel_rfl
theorem bs65 : bsOf Tryd.prog 65 = some 8 := by kernel_rfl
theorem ze65 : zeroOf Tryd.prog 65 = some Go.Value.nilFunc := by kernel_rfl
theorem sz66 : szOf Tryd.prog 66 = some 1 := by kernel_rfl
theorem bs66 : bsOf Tryd.prog 66 = some 8 := by kernel_rfl
theorem ze66 : zeroOf Tryd.prog 66 = some Go.Value.nilFunc := by kernel_rfl
theorem sz67 : szOf Tryd.prog 67 = some 1 := by kernel_rfl
theorem bs67 : bsOf Tryd.prog 67 = some 8 := by kernel_rfl
theorem ze67 : zeroOf Tryd.prog 67 = some Go.Value.nilFunc := by kernel_rfl
theorem sz68 : szOf Tryd.prog 68 = some 1 := by kernel_rfl
theorem bs68 : bsOf Tryd.prog 68 = some 8 := by kernel_rfl
theorem ze68 : zeroOf Tryd.prog 68 = some Go.Value.nilFunc := by kernel_rfl
theorem sz69 : szOf Tryd.prog 69 = some 1 := by kernel_rfl
theorem bs69 : bsOf Tryd.prog 69 = some 8 := by kernel_rfl
theorem ze69 : zeroOf Tryd.prog 69 = some Go.Value.nilFunc := by kernel_rfl
theorem sz70 : szOf Tryd.prog 70 = some 1 := by kernel_rfl
theorem bs70 : bsOf Tryd.prog 70 = some 24 := by kernel_rfl
theorem ze70 : zeroOf Tryd.prog 70 = some (Go.Value.slice none 0 0) := by kernel_rfl
theorem sz71 : szOf Tryd.prog 71 = some 1 := by kernel_rfl
theorem bs71 : bsOf Tryd.prog 71 = some 8 := by kernel_rfl
theorem ze71 : zeroOf Tryd.prog 71 = some Go.Value.nilFunc := by kernel_rfl
theorem sz72 : szOf Tryd.prog 72 = some 1 := by kernel_rfl
theorem bs72 : bsOf Tryd.prog 72 = some 8 := by kernel_rfl
theorem ze72 : zeroOf Tryd.prog 72 = some Go.Value.nilFunc := by kernel_rfl
theorem sz73 : szOf Tryd.prog 73 = some 1 := by kernel_rfl
theorem bs73 : bsOf Tryd.prog 73 = some 8 := by kernel_rfl
theorem ze73 : zeroOf Tryd.prog 73 = some (Go.Value.pointer none) := by kernel_rfl
theorem sz74 : szOf Tryd.prog 74 = some 2 := by kernel_rfl
theorem bs74 : bsOf Tryd.prog 74 = some 32 := by kernel_rfl
theorem ze74 : zeroOf Tryd.prog 74 = some (Go.Value.agg #[(Go.Value.pointer none), (Go.Value.slice none 0 0)]) := by kernel_rfl
theorem sz75 : szOf Tryd.prog 75 = some 2 := by kernel_rfl
theorem bs75 : bsOf Tryd.prog 75 = some 32 := by kernel_rfl
theorem ze75 : zeroOf Tryd.prog 75 = some (Go.Value.agg #[(Go.Value.pointer none), (Go.Value.slice none 0 0)]) := by kernel_rfl
theorem sz76 : szOf Tryd.prog 76 = some 1 := by kernel_rfl
theorem bs76 : bsOf Tryd.prog 76 = some 8 := by kernel_rfl
theorem ze76 : zeroOf Tryd.prog 76 = some Go.Value.nilFunc := by kernel_rfl
theorem sz77 : szOf Tryd.prog 77 = some 1 := by kernel_rfl
theorem bs77 : bsOf Tryd.prog 77 = some 16 := by kernel_rfl
theorem ze77 : zeroOf Tryd.prog 77 = some Go.Value.nilIface := by kernel_rfl
theorem sz78 : szOf Tryd.prog 78 = some 1 := by kernel_rfl
theorem bs78 : bsOf Tryd.prog 78 = some 16 := by kernel_rfl
theorem ze78 : zeroOf Tryd.prog 78 = some Go.Value.nilIface := by kernel_rfl
theorem sz79 : szOf Tryd.prog 79 = some 1 := by kernel_rfl
theorem bs79 : bsOf Tryd.prog 79 = some 0 := by kernel_rfl
theorem ze79 : zeroOf Tryd.prog 79 = some (Go.Value.tuple #[(Go.Value.int Go.IntKind.i64 0), Go.Value.nilIface]) := by kernel_rfl
theorem sz80 : szOf Tryd.prog 80 = some 1 := by kernel_rfl
theorem bs80 : bsOf Tryd.prog 80 = some 8 := by kernel_rfl
theorem ze80 : zeroOf Tryd.prog 80 = some Go.Value.nilFunc := by kernel_rfl
theorem sz81 : szOf Tryd.prog 81 = some 1 := by kernel_rfl
theorem bs81 : bsOf Tryd.prog 81 = some 8 := by kernel_rfl
theorem ze81 : zeroOf Tryd.prog 81 = some Go.Value.nilFunc := by kernel_rfl
theorem sz82 : szOf Tryd.prog 82 = some 1 := by kernel_rfl
theorem bs82 : bsOf Tryd.prog 82 = some 8 := by kernel_rfl
theorem ze82 : zeroOf Tryd.prog 82 = some Go.Value.nilFunc := by kernel_rfl
theorem sz83 : szOf Tryd.prog 83 = some 1 := by kernel_rfl
theorem bs83 : bsOf Tryd.prog 83 = some 8 := by kernel_rfl
theorem ze83 : zeroOf Tryd.prog 83 = some Go.Value.nilFunc := by kernel_rfl
theorem sz84 : szOf Tryd.prog 84 = some 256 := by kernel_rfl
theorem bs84 : bsOf Tryd.prog 84 = some 256 := by kernel_rfl
theorem sz85 : szOf Tryd.prog 85 = some 1 := by kernel_rfl
theorem bs85 : bsOf Tryd.prog 85 = some 8 := by kernel_rfl
theorem ze85 : zeroOf Tryd.prog 85 = some (Go.Value.int Go.IntKind.u64 0) := by kernel_rfl
theorem sz86 : szOf Tryd.prog 86 = some 2 := by kernel_rfl
theorem bs86 : bsOf Tryd.prog 86 = some 2 := by kernel_rfl
theorem ze86 : zeroOf Tryd.prog 86 = some (Go.Value.agg #[(Go.Value.int Go.IntKind.u8 0), (Go.Value.int Go.IntKind.u8 0)]) := by kernel_rfl
theorem sz87 : szOf Tryd.prog 87 = some 2 := by kernel_rfl
theorem bs87 : bsOf Tryd.prog 87 = some 2 := by kernel_rfl
theorem ze87 : zeroOf Tryd.prog 87 = some (Go.Value.agg #[(Go.Value.int Go.IntKind.u8 0), (Go.Value.int Go.IntKind.u8 0)]) := by kernel_rfl
theorem sz88 : szOf Tryd.prog 88 = some 32 := by kernel_rfl
theorem bs88 : bsOf Tryd.prog 88 = some 32 := by kernel_rfl
theorem ze88 : zeroOf Tryd.prog 88 = some (Go.Value.agg #[(Go.Value.int Go.IntKind.u8 0), (Go.Value.int Go.IntKind.u8 0), (Go.Value.int Go.IntKind.u8 0), (Go.Value.int Go.IntKind.u8 0), (Go.Value.int Go.IntKind.u8 0), (Go.Value.int Go.IntKind.u8 0), (Go.Value.int Go.IntKind.u8 0), (Go.Value.int Go.IntKind.u8 0), (Go.Value.int Go.IntKind.u8 0), (Go.Value.int Go.IntKind.u8 0), (Go.Value.int Go.IntKind.u8 0), (Go.Value.int Go.IntKind.u8 0), (Go.Value.int Go.IntKind.u8 0), (Go.Value.int Go.IntKind.u8 0), (Go.Value.int Go.IntKind.u8 0), (Go.Value.int Go.IntKind.u8 0), (Go.Value.int Go.IntKind.u8 0), (Go.Value.int Go.IntKind.u8 0), (Go.Value.int Go.IntKind.u8 0), (Go.Value.int Go.IntKind.u8 0), (Go.Value.int Go.IntKind.u8 0), (Go.Value.int Go.IntKind.u8 0), (Go.Value.int Go.IntKind.u8 0), (Go.Value.int Go.IntKind.u8 0), (Go.Value.int Go.IntKind.u8 0), (Go.Value.int Go.IntKind.u8 0), (Go.Value.int Go.IntKind.u8 0), (Go.Value.int Go.IntKind.u8 0), (Go.Value.int Go.IntKind.u8 0), (Go.Value.int Go.IntKind.u8 0), (Go.Value.int Go.IntKind.u8 0), (Go.Value.int Go.IntKind.u8 0)]) := by kernel_rfl
theorem sz89 : szOf Tryd.prog 89 = some 1 := by kernel_rfl
theorem bs89 : bsOf Tryd.prog 89 = some 8 := by kernel_rfl
theorem ze89 : zeroOf Tryd.prog 89 = some (Go.Value.pointer none) := by kernel_rfl
theorem sz90 : szOf Tryd.prog 90 = some 1 := by kernel_rfl
theorem bs90 : bsOf Tryd.prog 90 = some 8 := by kernel_rfl
theorem ze90 : zeroOf Tryd.prog 90 = some Go.Value.nilFunc := by kernel_rfl
theorem sz91 : szOf Tryd.prog 91 = some 1 := by kernel_rfl
theorem bs91 : bsOf Tryd.prog 91 = some 8 := by kernel_rfl
theorem ze91 : zeroOf Tryd.prog 91 = some Go.Value.nilFunc := by kernel_rfl
theorem sz92 : szOf Tryd.prog 92 = some 1 := by kernel_rfl
theorem bs92 : bsOf Tryd.prog 92 = some 8 := by kernel_rfl
theorem ze92 : zeroOf Tryd.prog 92 = some Go.Value.nilFunc := by kernel_rfl
theorem sz93 : szOf Tryd.prog 93 = some 1 := by kernel_rfl
theorem bs93 : bsOf Tryd.prog 93 = some 8 := by kernel_rfl
theorem ze93 : zeroOf Tryd.prog 93 = some Go.Value.nilFunc := by kernel_rfl
theorem sz94 : szOf Tryd.prog 94 = some 1 := by kernel_rfl
theorem bs94 : bsOf Tryd.prog 94 = some 8 := by kernel_rfl
theorem ze94 : zeroOf Tryd.prog 94 = some Go.Value.nilFunc := by kernel_rfl
theorem sz95 : szOf Tryd.prog 95 = some 1 := by kernel_rfl
theorem bs95 : bsOf Tryd.prog 95 = some 8 := by kernel_rfl
theorem ze95 : zeroOf Tryd.prog 95 = some (Go.Value.pointer none) := by kernel_rfl
theorem sz96 : szOf Tryd.prog 96 = some 1 := by kernel_rfl
theorem bs96 : bsOf Tryd.prog 96 = some 8 := by kernel_rfl
theorem ze96 : zeroOf Tryd.prog 96 = some Go.Value.nilFunc := by kernel_rfl
theorem sz97 : szOf Tryd.prog 97 = some 1 := by kernel_rfl
theorem bs97 : bsOf Tryd.prog 97 = some 4 := by kernel_rfl
theorem ze97 : zeroOf Tryd.prog 97 = some (Go.Value.int Go.IntKind.u32 0) := by kernel_rfl
theorem sz98 : szOf Tryd.prog 98 = some 24 := by kernel_rfl
theorem bs98 : bsOf Tryd.prog 98 = some 24 := by kernel_rfl
theorem ze98 : zeroOf Tryd.prog 98 = some (Go.Value.agg #[(Go.Value.int Go.IntKind.u8 0), (Go.Value.int Go.IntKind.u8 0), (Go.Value.int Go.IntKind.u8 0), (Go.Value.int Go.IntKind.u8 0), (Go.Value.int Go.IntKind.u8 0), (Go.Value.int Go.IntKind.u8 0), (Go.Value.int Go.IntKind.u8 0), (Go.Value.int Go.IntKind.u8 0), (Go.Value.int Go.IntKind.u8 0), (Go.Value.int Go.IntKind.u8 0), (Go.Value.int Go.IntKind.u8 0), (Go.Value.int Go.IntKind.u8 0), (Go.Value.int Go.IntKind.u8 0), (Go.Value.int Go.IntKind.u8 0), (Go.Value.int Go.IntKind.u8 0), (Go.Value.int Go.IntKind.u8 0), (Go.Value.int Go.IntKind.u8 0), (Go.Value.int Go.IntKind.u8 0), (Go.Value.int Go.IntKind.u8 0), (Go.Value.int Go.IntKind.u8 0), (Go.Value.int Go.IntKind.u8 0), (Go.Value.int Go.IntKind.u8 0), (Go.Value.int Go.IntKind.u8 0), (Go.Value.int Go.IntKind.u8 0)]) := by kernel_rfl
theorem sz99 : szOf Tryd.prog 99 = some 1 := by kernel_rfl
theorem bs99 : bsOf Tryd.prog 99 = some 8 := by kernel_rfl
theorem ze99 : zeroOf Tryd.prog 99 = some (Go.Value.int Go.IntKind.u64 0) := by kernel_rfl
theorem sz100 : szOf Tryd.prog 100 = some 1 := by kernel_rfl
theorem bs100 : bsOf Tryd.prog 100 = some 8 := by kernel_rfl
theorem ze100 : zeroOf Tryd.prog 100 = some Go.Value.nilFunc := by kernel_rfl
theorem sz101 : szOf Tryd.prog 101 = some 1 := by kernel_rfl
theorem bs101 : bsOf Tryd.prog 101 = some 8 := by kernel_rfl
theorem ze101 : zeroOf Tryd.prog 101 = some Go.Value.nilFunc := by kernel_rfl
theorem sz102 : szOf Tryd.prog 102 = some 1 := by kernel_rfl
theorem bs102 : bsOf Tryd.prog 102 = some 0 := by kernel_rfl
theorem ze102 : zeroOf Tryd.prog 102 = some (Go.Value.tuple #[(Go.Value.slice none 0 0), (Go.Value.string { data := #[] })]) := by kernel_rfl
theorem sz103 : szOf Tryd.prog 103 = some 1 := by kernel_rfl
theorem bs103 : bsOf Tryd.prog 103 = some 8 := by kernel_rfl
theorem ze103 : zeroOf Tryd.prog 103 = some Go.Value.nilFunc := by kernel_rfl
theorem sz104 : szOf Tryd.prog 104 = some 1 := by kernel_rfl
theorem bs104 : bsOf Tryd.prog 104 = some 8 := by kernel_rfl
theorem ze104 : zeroOf Tryd.prog 104 = some Go.Value.nilFunc := by kernel_rfl
theorem sz105 : szOf Tryd.prog 105 = some 1 := by kernel_rfl
theorem bs105 : bsOf Tryd.prog 105 = some 8 := by kernel_rfl
theorem ze105 : zeroOf Tryd.prog 105 = some Go.Value.nilFunc := by kernel_rfl
theorem sz106 : szOf Tryd.prog 106 = some 20 := by kernel_rfl
theorem bs106 : bsOf Tryd.prog 106 = some 160 := by kernel_rfl
theorem ze106 : zeroOf Tryd.prog 106 = some (Go.Value.agg #[(Go.Value.int Go.IntKind.u64 0), (Go.Value.int Go.IntKind.u64 0), (Go.Value.int Go.IntKind.u64 0), (Go.Value.int Go.IntKind.u64 0), (Go.Value.int Go.IntKind.u64 0), (Go.Value.int Go.IntKind.u64 0), (Go.Value.int Go.IntKind.u64 0), (Go.Value.int Go.IntKind.u64 0), (Go.Value.int Go.IntKind.u64 0), (Go.Value.int Go.IntKind.u64 0), (Go.Value.int Go.IntKind.u64 0), (Go.Value.int Go.IntKind.u64 0), (Go.Value.int Go.IntKind.u64 0), (Go.Value.int Go.IntKind.u64 0), (Go.Value.int Go.IntKind.u64 0), (Go.Value.int Go.IntKind.u64 0), (Go.Value.int Go.IntKind.u64 0), (Go.Value.int Go.IntKind.u64 0), (Go.Value.int Go.IntKind.u64 0), (Go.Value.int Go.IntKind.u64 0)]) := by kernel_rfl
theorem sz107 : szOf Tryd.prog 107 = some 65 := by kernel_rfl
theorem bs107 : bsOf Tryd.prog 107 = some 65 := by kernel_rfl
theorem sz108 : szOf Tryd.prog 108 = some 1 := by kernel_rfl
theorem bs108 : bsOf Tryd.prog 108 = some 8 := by kernel_rfl
theorem ze108 : zeroOf Tryd.prog 108 = some Go.Value.nilFunc := by kernel_rfl
theorem sz109 : szOf Tryd.prog 109 = some 1 := by kernel_rfl
theorem bs109 : bsOf Tryd.prog 109 = some 8 := by kernel_rfl
theorem ze109 : zeroOf Tryd.prog 109 = some Go.Value.nilFunc := by kernel_rfl
theorem sz110 : szOf Tryd.prog 110 = some 1 := by kernel_rfl
theorem bs110 : bsOf Tryd.prog 110 = some 8 := by kernel_rfl
theorem ze110 : zeroOf Tryd.prog 110 = some Go.Value.nilFunc := by kernel_rfl
theorem sz111 : szOf Tryd.prog 111 = some 32 := by kernel_rfl
theorem bs111 : bsOf Tryd.prog 111 = some 32 := by kernel_rfl
theorem ze111 : zeroOf Tryd.prog 111 = some (Go.Value.agg #[(Go.Value.int Go.IntKind.u8 0), (Go.Value.int Go.IntKind.u8 0), (Go.Value.int Go.IntKind.u8 0), (Go.Value.int Go.IntKind.u8 0), (Go.Value.int Go.IntKind.u8 0), (Go.Value.int Go.IntKind.u8 0), (Go.Value.int Go.IntKind.u8 0), (Go.Value.int Go.IntKind.u8 0), (Go.Value.int Go.IntKind.u8 0), (Go.Value.int Go.IntKind.u8 0), (Go.Value.int Go.IntKind.u8 0), (Go.Value.int Go.IntKind.u8 0), (Go.Value.int Go.IntKind.u8 0), (Go.Value.int Go.IntKind.u8 0), (Go.Value.int Go.IntKind.u8 0), (Go.Value.int Go.IntKind.u8 0), (Go.Value.int Go.IntKind.u8 0), (Go.Value.int Go.IntKind.u8 0), (Go.Value.int Go.IntKind.u8 0), (Go.Value.int Go.IntKind.u8 0), (Go.Value.int Go.IntKind.u8 0), (Go.Value.int Go.IntKind.u8 0), (Go.Value.int Go.IntKind.u8 0), (Go.Value.int Go.IntKind.u8 0), (Go.Value.int Go.IntKind.u8 0), (Go.Value.int Go.IntKind.u8 0), (Go.Value.int Go.IntKind.u8 0), (Go.Value.int Go.IntKind.u8 0), (Go.Value.int Go.IntKind.u8 0), (Go.Value.int Go.IntKind.u8 0), (Go.Value.int Go.IntKind.u8 0), (Go.Value.int Go.IntKind.u8 0)]) := by kernel_rfl
theorem sz112 : szOf Tryd.prog 112 = some 64 := by kernel_rfl
theorem bs112 : bsOf Tryd.prog 112 = some 64 := by kernel_rfl
theorem sz113 : szOf Tryd.prog 113 = some 4 := by kernel_rfl
theorem bs113 : bsOf Tryd.prog 113 = some 40 := by kernel_rfl
theorem ze113 : zeroOf Tryd.prog 113 = some (Go.Value.agg #[(Go.Value.pointer none), (Go.Value.pointer none), (Go.Value.pointer none), (Go.Value.string { data := #[] })]) := by kernel_rfl
theorem sz114 : szOf Tryd.prog 114 = some 4 := by kernel_rfl
theorem bs114 : bsOf Tryd.prog 114 = some 40 := by kernel_rfl
theorem ze114 : zeroOf Tryd.prog 114 = some (Go.Value.agg #[(Go.Value.pointer none), (Go.Value.pointer none), (Go.Value.pointer none), (Go.Value.string { data := #[] })]) := by kernel_rfl
theorem sz115 : szOf Tryd.prog 115 = some 0 := by kernel_rfl
theorem bs115 : bsOf Tryd.prog 115 = some 0 := by kernel_rfl
theorem ze115 : zeroOf Tryd.prog 115 = some (Go.Value.agg #[]) := by kernel_rfl
theorem sz116 : szOf Tryd.prog 116 = some 0 := by kernel_rfl
theorem bs116 : bsOf Tryd.prog 116 = some 0 := by kernel_rfl
theorem ze116 : zeroOf Tryd.prog 116 = some (Go.Value.agg #[]) := by kernel_rfl
theorem sz117 : szOf Tryd.prog 117 = some 0 := by kernel_rfl
theorem bs117 : bsOf Tryd.prog 117 = some 0 := by kernel_rfl
theorem ze117 : zeroOf Tryd.prog 117 = some (Go.Value.agg #[]) := by kernel_rfl
theorem sz118 : szOf Tryd.prog 118 = some 1 := by kernel_rfl
theorem bs118 : bsOf Tryd.prog 118 = some 8 := by kernel_rfl
theorem ze118 : zeroOf Tryd.prog 118 = some Go.Value.nilFunc := by kernel_rfl
theorem sz119 : szOf Tryd.prog 119 = some 1 := by kernel_rfl
theorem bs119 : bsOf Tryd.prog 119 = some 1 := by kernel_rfl
theorem ze119 : zeroOf Tryd.prog 119 = some (Go.Value.int Go.IntKind.u8 0) := by kernel_rfl
theorem sz120 : szOf Tryd.prog 120 = some 1 := by kernel_rfl
theorem bs120 : bsOf Tryd.prog 120 = some 1 := by kernel_rfl
theorem ze120 : zeroOf Tryd.prog 120 = some (Go.Value.int Go.IntKind.u8 0) := by kernel_rfl
theorem sz121 : szOf Tryd.prog 121 = some 1 := by kernel_rfl
theorem bs121 : bsOf Tryd.prog 121 = some 8 := by kernel_rfl
theorem ze121 : zeroOf Tryd.prog 121 = some Go.Value.nilFunc := by kernel_rfl
theorem sz122 : szOf Tryd.prog 122 = some 1 := by kernel_rfl
theorem bs122 : bsOf Tryd.prog 122 = some 4 := by kernel_rfl
theorem ze122 : zeroOf Tryd.prog 122 = some (Go.Value.int Go.IntKind.i32 0) := by kernel_rfl
theorem sz123 : szOf Tryd.prog 123 = some 1 := by kernel_rfl
theorem bs123 : bsOf Tryd.prog 123 = some 4 := by kernel_rfl
theorem ze123 : zeroOf Tryd.prog 123 = some (Go.Value.int Go.IntKind.i32 0) := by kernel_rfl
theorem sz124 : szOf Tryd.prog 124 = some 11 := by kernel_rfl
theorem bs124 : bsOf Tryd.prog 124 = some 48 := by kernel_rfl
theorem ze124 : zeroOf Tryd.prog 124 = some (Go.Value.agg #[(Go.Value.int Go.IntKind.u64 0), (Go.Value.int Go.IntKind.u64 0), (Go.Value.int Go.IntKind.u32 0), (Go.Value.int Go.IntKind.u8 0), (Go.Value.int Go.IntKind.u8 0), (Go.Value.int Go.IntKind.u8 0), (Go.Value.int Go.IntKind.u8 0), Go.Value.nilFunc, (Go.Value.pointer none), (Go.Value.int Go.IntKind.i32 0), (Go.Value.int Go.IntKind.i32 0)]) := by kernel_rfl
theorem sz125 : szOf Tryd.prog 125 = some 11 := by kernel_rfl
theorem bs125 : bsOf Tryd.prog 125 = some 48 := by kernel_rfl
theorem ze125 : zeroOf Tryd.prog 125 = some (Go.Value.agg #[(Go.Value.int Go.IntKind.u64 0), (Go.Value.int Go.IntKind.u64 0), (Go.Value.int Go.IntKind.u32 0), (Go.Value.int Go.IntKind.u8 0), (Go.Value.int Go.IntKind.u8 0), (Go.Value.int Go.IntKind.u8 0), (Go.Value.int Go.IntKind.u8 0), Go.Value.nilFunc, (Go.Value.pointer none), (Go.Value.int Go.IntKind.i32 0), (Go.Value.int Go.IntKind.i32 0)]) := by kernel_rfl
theorem go2 : goFn Tryd.prog 2 = true := by kernel_rfl
theorem go3 : goFn Tryd.prog 3 = true := by kernel_rfl
theorem go4 : goFn Tryd.prog 4 = true := by kernel_rfl
theorem go5 : goFn Tryd.prog 5 = true := by kernel_rfl
theorem go6 : goFn Tryd.prog 6 = true := by kernel_rfl
theorem go7 : goFn Tryd.prog 7 = true := by kernel_rfl
theorem go8 : goFn Tryd.prog 8 = true := by kernel_rfl
theorem go9 : goFn Tryd.prog 9 = true := by kernel_rfl
theorem go10 : goFn Tryd.prog 10 = true := by kernel_rfl
theorem go11 : goFn Tryd.prog 11 = true := by kernel_rfl
theorem go12 : goFn Tryd.prog 12 = true := by kernel_rfl
theorem go13 : goFn Tryd.prog 13 = true := by kernel_rfl
theorem go14 : goFn Tryd.prog 14 = true := by kernel_rfl
theorem go15 : goFn Tryd.prog 15 = true := by kernel_rfl
theorem go16 : goFn Tryd.prog 16 = true := by kernel_rfl
theorem go17 : goFn Tryd.prog 17 = true := by kernel_rfl
theorem go18 : goFn Tryd.prog 18 = true := by kernel_rfl
theorem go19 : goFn Tryd.prog 19 = true := by kernel_rfl
theorem go20 : goFn Tryd.prog 20 = true := by kernel_rfl
theorem go21 : goFn Tryd.prog 21 = true := by kernel_rfl
theorem go22 : goFn Tryd.prog 22 = true := by kernel_rfl
theorem go23 : goFn Tryd.prog 23 = true := by kernel_rfl
theorem go24 : goFn Tryd.prog 24 = true := by kernel_rfl
theorem go25 : goFn Tryd.prog 25 = true := by kernel_rfl
theorem go26 : goFn Tryd.prog 26 = true := by kernel_rfl
theorem go27 : goFn Tryd.prog 27 = true := by kernel_rfl
theorem go28 : goFn Tryd.prog 28 = true := by kernel_rfl
theorem go29 : goFn Tryd.prog 29 = true := by kernel_rfl
theorem go30 : goFn Tryd.prog 30 = true := by kernel_rfl
theorem go31 : goFn Tryd.prog 31 = true := by kernel_rfl
theorem go32 : goFn Tryd.prog 32 = true := by kernel_rfl
theorem go33 : goFn Tryd.prog 33 = true := by kernel_rfl
theorem go34 : goFn Tryd.prog 34 = true := by kernel_rfl
theorem go35 : goFn Tryd.prog 35 = true := by kernel_rfl
theorem go36 : goFn Tryd.prog 36 = true := by kernel_rfl
theorem go37 : goFn Tryd.prog 37 = true := by kernel_rfl
theorem go38 : goFn Tryd.prog 38 = true := by kernel_rfl
theorem go39 : goFn Tryd.prog 39 = true := by kernel_rfl
theorem go40 : goFn Tryd.prog 40 = true := by kernel_rfl
theorem go41 : goFn Tryd.prog 41 = true := by kernel_rfl
theorem go42 : goFn Tryd.prog 42 = true := by kernel_rfl
theorem go43 : goFn Tryd.prog 43 = true := by kernel_rfl
theorem go44 : goFn Tryd.prog 44 = true := by kernel_rfl
theorem go45 : goFn Tryd.prog 45 = true := by kernel_rfl
theorem go46 : goFn Tryd.prog 46 = true := by kernel_rfl
theorem go47 : goFn Tryd.prog 47 = true := by kernel_rfl
theorem go48 : goFn Tryd.prog 48 = true := by kernel_rfl
theorem go49 : goFn Tryd.prog 49 = true := by kernel_rfl
theorem go50 : goFn Tryd.prog 50 = true := by kernel_rfl
theorem go51 : goFn Tryd.prog 51 = true := by kernel_rfl
theorem go52 : goFn Tryd.prog 52 = true := by kernel_rfl
theorem go53 : goFn Tryd.prog 53 = true := by kernel_rfl
theorem go54 : goFn Tryd.prog 54 = true := by kernel_rfl
theorem go55 : goFn Tryd.prog 55 = true := by kernel_rfl
theorem go56 : goFn Tryd.prog 56 = true := by kernel_rfl
theorem go57 : goFn Tryd.prog 57 = true := by kernel_rfl
theorem go58 : goFn Tryd.prog 58 = true := by kernel_rfl
theorem go59 : goFn Tryd.prog 59 = true := by kernel_rfl
theorem go60 : goFn Tryd.prog 60 = true := by kernel_rfl
theorem go61 : goFn Tryd.prog 61 = true := by kernel_rfl
theorem go62 : goFn Tryd.prog 62 = true := by kernel_rfl
theorem go63 : goFn Tryd.prog 63 = true := by kernel_rfl
theorem go64 : goFn Tryd.prog 64 = true := by kernel_rfl
theorem go65 : goFn Tryd.prog 65 = true := by kernel_rfl
theorem go66 : goFn Tryd.prog 66 = true := by kernel_rfl
theorem go67 : goFn Tryd.prog 67 = true := by kernel_rfl
theorem go68 : goFn Tryd.prog 68 = true := by kernel_rfl
theorem go70 : goFn Tryd.prog 70 = true := by kernel_rfl
theorem go72 : goFn Tryd.prog 72 = true := by kernel_rfl
theorem go73 : goFn Tryd.prog 73 = true := by kernel_rfl
theorem go74 : goFn Tryd.prog 74 = true := by kernel_rfl
theorem go75 : goFn Tryd.prog 75 = true := by kernel_rfl
theorem go76 : goFn Tryd.prog 76 = true := by kernel_rfl
theorem go77 : goFn Tryd.prog 77 = true := by kernel_rfl
theorem go78 : goFn Tryd.prog 78 = true := by kernel_rfl
theorem go79 : goFn Tryd.prog 79 = true := by kernel_rfl
theorem go80 : goFn Tryd.prog 80 = true := by kernel_rfl
theorem go81 : goFn Tryd.prog 81 = true := by kernel_rfl
theorem go82 : goFn Tryd.prog 82 = true := by kernel_rfl
theorem go83 : goFn Tryd.prog 83 = true := by kernel_rfl
theorem go84 : goFn Tryd.prog 84 = true := by kernel_rfl
theorem go85 : goFn Tryd.prog 85 = true := by kernel_rfl
theorem go110 : goFn Tryd.prog 110 = true := by kernel_rfl
instance : Szc Tryd.prog 0 1 := ⟨sz0⟩
instance : Bsc Tryd.prog 0 0 := ⟨bs0⟩
instance : Und Tryd.prog 0 (Go.TypeDesc.tuple #[]) := ⟨Tryd.underlying0⟩
instance : Zec Tryd.prog 0 (Go.Value.tuple #[]) := ⟨ze0⟩
instance : Szc Tryd.prog 1 1 := ⟨sz1⟩
instance : Bsc Tryd.prog 1 8 := ⟨bs1⟩
instance : Und Tryd.prog 1 (Go.TypeDesc.func #[] #[] false) := ⟨Tryd.underlying1⟩
instance : Zec Tryd.prog 1 (Go.Value.nilFunc) := ⟨ze1⟩
instance : Szc Tryd.prog 2 1 := ⟨sz2⟩
instance : Bsc Tryd.prog 2 8 := ⟨bs2⟩
instance : Und Tryd.prog 2 (Go.TypeDesc.int Go.IntKind.i64) := ⟨Tryd.underlying2⟩
instance : Zec Tryd.prog 2 (Go.Value.int Go.IntKind.i64 0) := ⟨ze2⟩
instance : Szc Tryd.prog 3 1 := ⟨sz3⟩
instance : Bsc Tryd.prog 3 8 := ⟨bs3⟩
instance : Und Tryd.prog 3 (Go.TypeDesc.int Go.IntKind.i64) := ⟨Tryd.underlying3⟩
instance : Zec Tryd.prog 3 (Go.Value.int Go.IntKind.i64 0) := ⟨ze3⟩
instance : Szc Tryd.prog 4 1 := ⟨sz4⟩
instance : Bsc Tryd.prog 4 1 := ⟨bs4⟩
instance : Und Tryd.prog 4 Go.TypeDesc.bool := ⟨Tryd.underlying4⟩
instance : Zec Tryd.prog 4 (Go.Value.bool false) := ⟨ze4⟩
instance : Szc Tryd.prog 5 1 := ⟨sz5⟩
instance : Bsc Tryd.prog 5 1 := ⟨bs5⟩
instance : Und Tryd.prog 5 (Go.TypeDesc.int Go.IntKind.u8) := ⟨Tryd.underlying5⟩
instance : Zec Tryd.prog 5 (Go.Value.int Go.IntKind.u8 0) := ⟨ze5⟩
instance : Szc Tryd.prog 6 1 := ⟨sz6⟩
instance : Bsc Tryd.prog 6 1 := ⟨bs6⟩
instance : Und Tryd.prog 6 (Go.TypeDesc.int Go.IntKind.u8) := ⟨Tryd.underlying6⟩
instance : Zec Tryd.prog 6 (Go.Value.int Go.IntKind.u8 0) := ⟨ze6⟩
instance : Szc Tryd.prog 7 4 := ⟨sz7⟩
instance : Bsc Tryd.prog 7 24 := ⟨bs7⟩
instance : Und Tryd.prog 7 (Go.TypeDesc.struct #[{ name := "x", type := 2, offset := 0, embedded := false, tag := "", pkgPath := "runtime", byteOffset := 0 }, { name := "y", type := 3, offset := 1, embedded := false, tag := "", pkgPath := "runtime", byteOffset := 8 }, { name := "signed", type := 4, offset := 2, embedded := false, tag := "", pkgPath := "runtime", byteOffset := 16 }, { name := "code", type := 6, offset := 3, embedded := false, tag := "", pkgPath := "runtime", byteOffset := 17 }]) := ⟨Tryd.underlying7⟩
instance : Zec Tryd.prog 7 (Go.Value.agg #[(Go.Value.int Go.IntKind.i64 0), (Go.Value.int Go.IntKind.i64 0), (Go.Value.bool false), (Go.Value.int Go.IntKind.u8 0)]) := ⟨ze7⟩
instance : Szc Tryd.prog 8 4 := ⟨sz8⟩
instance : Bsc Tryd.prog 8 24 := ⟨bs8⟩
instance : Und Tryd.prog 8 (Go.TypeDesc.struct #[{ name := "x", type := 2, offset := 0, embedded := false, tag := "", pkgPath := "runtime", byteOffset := 0 }, { name := "y", type := 3, offset := 1, embedded := false, tag := "", pkgPath := "runtime", byteOffset := 8 }, { name := "signed", type := 4, offset := 2, embedded := false, tag := "", pkgPath := "runtime", byteOffset := 16 }, { name := "code", type := 6, offset := 3, embedded := false, tag := "", pkgPath := "runtime", byteOffset := 17 }]) := ⟨Tryd.underlying8⟩
instance : Zec Tryd.prog 8 (Go.Value.agg #[(Go.Value.int Go.IntKind.i64 0), (Go.Value.int Go.IntKind.i64 0), (Go.Value.bool false), (Go.Value.int Go.IntKind.u8 0)]) := ⟨ze8⟩
instance : Szc Tryd.prog 9 1 := ⟨sz9⟩
instance : Bsc Tryd.prog 9 16 := ⟨bs9⟩
instance : Und Tryd.prog 9 Go.TypeDesc.string := ⟨Tryd.underlying9⟩
instance : Zec Tryd.prog 9 (Go.Value.string { data := #[] }) := ⟨ze9⟩
instance : Szc Tryd.prog 10 1 := ⟨sz10⟩
instance : Bsc Tryd.prog 10 16 := ⟨bs10⟩
instance : Und Tryd.prog 10 Go.TypeDesc.string := ⟨Tryd.underlying10⟩
instance : Zec Tryd.prog 10 (Go.Value.string { data := #[] }) := ⟨ze10⟩
instance : Szc Tryd.prog 11 1 := ⟨sz11⟩
instance : Bsc Tryd.prog 11 16 := ⟨bs11⟩
instance : Und Tryd.prog 11 Go.TypeDesc.string := ⟨Tryd.underlying11⟩
instance : Zec Tryd.prog 11 (Go.Value.string { data := #[] }) := ⟨ze11⟩
instance : Szc Tryd.prog 12 1 := ⟨sz12⟩
instance : Bsc Tryd.prog 12 8 := ⟨bs12⟩
instance : Und Tryd.prog 12 (Go.TypeDesc.int Go.IntKind.u64) := ⟨Tryd.underlying12⟩
instance : Zec Tryd.prog 12 (Go.Value.int Go.IntKind.u64 0) := ⟨ze12⟩
instance : Szc Tryd.prog 13 2 := ⟨sz13⟩
instance : Bsc Tryd.prog 13 24 := ⟨bs13⟩
instance : Und Tryd.prog 13 (Go.TypeDesc.struct #[{ name := "msg", type := 9, offset := 0, embedded := false, tag := "", pkgPath := "runtime", byteOffset := 0 }, { name := "addr", type := 12, offset := 1, embedded := false, tag := "", pkgPath := "runtime", byteOffset := 16 }]) := ⟨Tryd.underlying13⟩
instance : Zec Tryd.prog 13 (Go.Value.agg #[(Go.Value.string { data := #[] }), (Go.Value.int Go.IntKind.u64 0)]) := ⟨ze13⟩
instance : Szc Tryd.prog 14 2 := ⟨sz14⟩
instance : Bsc Tryd.prog 14 24 := ⟨bs14⟩
instance : Und Tryd.prog 14 (Go.TypeDesc.struct #[{ name := "msg", type := 9, offset := 0, embedded := false, tag := "", pkgPath := "runtime", byteOffset := 0 }, { name := "addr", type := 12, offset := 1, embedded := false, tag := "", pkgPath := "runtime", byteOffset := 16 }]) := ⟨Tryd.underlying14⟩
instance : Zec Tryd.prog 14 (Go.Value.agg #[(Go.Value.string { data := #[] }), (Go.Value.int Go.IntKind.u64 0)]) := ⟨ze14⟩
instance : Szc Tryd.prog 15 1 := ⟨sz15⟩
instance : Bsc Tryd.prog 15 8 := ⟨bs15⟩
instance : Und Tryd.prog 15 (Go.TypeDesc.pointer 114) := ⟨Tryd.underlying15⟩
instance : Zec Tryd.prog 15 (Go.Value.pointer none) := ⟨ze15⟩
instance : Szc Tryd.prog 16 1 := ⟨sz16⟩
instance : Bsc Tryd.prog 16 8 := ⟨bs16⟩
instance : Und Tryd.prog 16 (Go.TypeDesc.pointer 117) := ⟨Tryd.underlying16⟩
instance : Zec Tryd.prog 16 (Go.Value.pointer none) := ⟨ze16⟩
instance : Szc Tryd.prog 17 1 := ⟨sz17⟩
instance : Bsc Tryd.prog 17 8 := ⟨bs17⟩
instance : Und Tryd.prog 17 (Go.TypeDesc.pointer 125) := ⟨Tryd.underlying17⟩
instance : Zec Tryd.prog 17 (Go.Value.pointer none) := ⟨ze17⟩
instance : Szc Tryd.prog 18 1 := ⟨sz18⟩
instance : Bsc Tryd.prog 18 8 := ⟨bs18⟩
instance : Und Tryd.prog 18 (Go.TypeDesc.struct #[{ name := "typ", type := 17, offset := 0, embedded := false, tag := "", pkgPath := "internal/runtime/maps", byteOffset := 0 }]) := ⟨Tryd.underlying18⟩
instance : Zec Tryd.prog 18 (Go.Value.agg #[(Go.Value.pointer none)]) := ⟨ze18⟩
instance : Szc Tryd.prog 19 1 := ⟨sz19⟩
instance : Bsc Tryd.prog 19 8 := ⟨bs19⟩
instance : Und Tryd.prog 19 (Go.TypeDesc.struct #[{ name := "typ", type := 17, offset := 0, embedded := false, tag := "", pkgPath := "internal/runtime/maps", byteOffset := 0 }]) := ⟨Tryd.underlying19⟩
instance : Zec Tryd.prog 19 (Go.Value.agg #[(Go.Value.pointer none)]) := ⟨ze19⟩
instance : Szc Tryd.prog 20 1 := ⟨sz20⟩
instance : Bsc Tryd.prog 20 16 := ⟨bs20⟩
instance : Und Tryd.prog 20 (Go.TypeDesc.interface #[]) := ⟨Tryd.underlying20⟩
instance : Zec Tryd.prog 20 (Go.Value.nilIface) := ⟨ze20⟩
instance : Szc Tryd.prog 21 1 := ⟨sz21⟩
instance : Bsc Tryd.prog 21 4 := ⟨bs21⟩
instance : Und Tryd.prog 21 (Go.TypeDesc.int Go.IntKind.i32) := ⟨Tryd.underlying21⟩
instance : Zec Tryd.prog 21 (Go.Value.int Go.IntKind.i32 0) := ⟨ze21⟩
instance : Szc Tryd.prog 22 1 := ⟨sz22⟩
instance : Bsc Tryd.prog 22 8 := ⟨bs22⟩
instance : Und Tryd.prog 22 (Go.TypeDesc.int Go.IntKind.i64) := ⟨Tryd.underlying22⟩
instance : Zec Tryd.prog 22 (Go.Value.int Go.IntKind.i64 0) := ⟨ze22⟩
instance : Szc Tryd.prog 23 1 := ⟨sz23⟩
instance : Bsc Tryd.prog 23 0 := ⟨bs23⟩
instance : Und Tryd.prog 23 (Go.TypeDesc.tuple #[3, 22]) := ⟨Tryd.underlying23⟩
instance : Zec Tryd.prog 23 (Go.Value.tuple #[(Go.Value.int Go.IntKind.i64 0), (Go.Value.int Go.IntKind.i64 0)]) := ⟨ze23⟩
instance : Szc Tryd.prog 24 1 := ⟨sz24⟩
instance : Bsc Tryd.prog 24 8 := ⟨bs24⟩
instance : Und Tryd.prog 24 (Go.TypeDesc.func #[9, 9] #[3, 22] false) := ⟨Tryd.underlying24⟩
instance : Zec Tryd.prog 24 (Go.Value.nilFunc) := ⟨ze24⟩
instance : Szc Tryd.prog 25 1 := ⟨sz25⟩
instance : Bsc Tryd.prog 25 8 := ⟨bs25⟩
instance : Und Tryd.prog 25 (Go.TypeDesc.func #[] #[4] false) := ⟨Tryd.underlying25⟩
instance : Zec Tryd.prog 25 (Go.Value.nilFunc) := ⟨ze25⟩
instance : Szc Tryd.prog 26 1 := ⟨sz26⟩
instance : Bsc Tryd.prog 26 8 := ⟨bs26⟩
instance : Und Tryd.prog 26 (Go.TypeDesc.func #[9, 9] #[4] false) := ⟨Tryd.underlying26⟩
instance : Zec Tryd.prog 26 (Go.Value.nilFunc) := ⟨ze26⟩
instance : Szc Tryd.prog 27 1 := ⟨sz27⟩
instance : Bsc Tryd.prog 27 24 := ⟨bs27⟩
instance : Und Tryd.prog 27 (Go.TypeDesc.slice 56) := ⟨Tryd.underlying27⟩
instance : Zec Tryd.prog 27 (Go.Value.slice none 0 0) := ⟨ze27⟩
instance : Szc Tryd.prog 28 1 := ⟨sz28⟩
instance : Bsc Tryd.prog 28 8 := ⟨bs28⟩
instance : Und Tryd.prog 28 (Go.TypeDesc.func #[9] #[27] false) := ⟨Tryd.underlying28⟩
instance : Zec Tryd.prog 28 (Go.Value.nilFunc) := ⟨ze28⟩
instance : Szc Tryd.prog 29 1 := ⟨sz29⟩
instance : Bsc Tryd.prog 29 8 := ⟨bs29⟩
instance : Und Tryd.prog 29 (Go.TypeDesc.func #[9, 9, 21] #[4] false) := ⟨Tryd.underlying29⟩
instance : Zec Tryd.prog 29 (Go.Value.nilFunc) := ⟨ze29⟩
instance : Szc Tryd.prog 30 1 := ⟨sz30⟩
instance : Bsc Tryd.prog 30 0 := ⟨bs30⟩
instance : Und Tryd.prog 30 (Go.TypeDesc.tuple #[9, 22, 3]) := ⟨Tryd.underlying30⟩
instance : Zec Tryd.prog 30 (Go.Value.tuple #[(Go.Value.string { data := #[] }), (Go.Value.int Go.IntKind.i64 0), (Go.Value.int Go.IntKind.i64 0)]) := ⟨ze30⟩
instance : Szc Tryd.prog 31 1 := ⟨sz31⟩
instance : Bsc Tryd.prog 31 8 := ⟨bs31⟩
instance : Und Tryd.prog 31 (Go.TypeDesc.func #[9] #[9, 22, 3] false) := ⟨Tryd.underlying31⟩
instance : Zec Tryd.prog 31 (Go.Value.nilFunc) := ⟨ze31⟩
instance : Szc Tryd.prog 32 1 := ⟨sz32⟩
instance : Bsc Tryd.prog 32 8 := ⟨bs32⟩
instance : Und Tryd.prog 32 (Go.TypeDesc.func #[9] #[4] false) := ⟨Tryd.underlying32⟩
instance : Zec Tryd.prog 32 (Go.Value.nilFunc) := ⟨ze32⟩
instance : Szc Tryd.prog 33 1 := ⟨sz33⟩
instance : Bsc Tryd.prog 33 8 := ⟨bs33⟩
instance : Und Tryd.prog 33 (Go.TypeDesc.func #[21] #[3] false) := ⟨Tryd.underlying33⟩
instance : Zec Tryd.prog 33 (Go.Value.nilFunc) := ⟨ze33⟩
instance : Szc Tryd.prog 34 1 := ⟨sz34⟩
instance : Bsc Tryd.prog 34 8 := ⟨bs34⟩
instance : Und Tryd.prog 34 (Go.TypeDesc.func #[9, 21] #[4] false) := ⟨Tryd.underlying34⟩
instance : Zec Tryd.prog 34 (Go.Value.nilFunc) := ⟨ze34⟩
instance : Szc Tryd.prog 35 1 := ⟨sz35⟩
instance : Bsc Tryd.prog 35 0 := ⟨bs35⟩
instance : Und Tryd.prog 35 (Go.TypeDesc.tuple #[9, 3, 22]) := ⟨Tryd.underlying35⟩
instance : Zec Tryd.prog 35 (Go.Value.tuple #[(Go.Value.string { data := #[] }), (Go.Value.int Go.IntKind.i64 0), (Go.Value.int Go.IntKind.i64 0)]) := ⟨ze35⟩
instance : Szc Tryd.prog 36 1 := ⟨sz36⟩
instance : Bsc Tryd.prog 36 8 := ⟨bs36⟩
instance : Und Tryd.prog 36 (Go.TypeDesc.func #[9, 3] #[9, 3, 22] false) := ⟨Tryd.underlying36⟩
instance : Zec Tryd.prog 36 (Go.Value.nilFunc) := ⟨ze36⟩
instance : Szc Tryd.prog 37 1 := ⟨sz37⟩
instance : Bsc Tryd.prog 37 8 := ⟨bs37⟩
instance : Und Tryd.prog 37 (Go.TypeDesc.func #[9, 3] #[4] false) := ⟨Tryd.underlying37⟩
instance : Zec Tryd.prog 37 (Go.Value.nilFunc) := ⟨ze37⟩
instance : Szc Tryd.prog 38 1 := ⟨sz38⟩
instance : Bsc Tryd.prog 38 24 := ⟨bs38⟩
instance : Und Tryd.prog 38 (Go.TypeDesc.slice 21) := ⟨Tryd.underlying38⟩
instance : Zec Tryd.prog 38 (Go.Value.slice none 0 0) := ⟨ze38⟩
instance : Szc Tryd.prog 39 1 := ⟨sz39⟩
instance : Bsc Tryd.prog 39 0 := ⟨bs39⟩
instance : Und Tryd.prog 39 (Go.TypeDesc.tuple #[9, 22]) := ⟨Tryd.underlying39⟩
instance : Zec Tryd.prog 39 (Go.Value.tuple #[(Go.Value.string { data := #[] }), (Go.Value.int Go.IntKind.i64 0)]) := ⟨ze39⟩
instance : Szc Tryd.prog 40 1 := ⟨sz40⟩
instance : Bsc Tryd.prog 40 8 := ⟨bs40⟩
instance : Und Tryd.prog 40 (Go.TypeDesc.func #[3] #[9, 22] false) := ⟨Tryd.underlying40⟩
instance : Zec Tryd.prog 40 (Go.Value.nilFunc) := ⟨ze40⟩
instance : Szc Tryd.prog 41 1 := ⟨sz41⟩
instance : Bsc Tryd.prog 41 0 := ⟨bs41⟩
instance : Und Tryd.prog 41 (Go.TypeDesc.tuple #[3, 3, 22]) := ⟨Tryd.underlying41⟩
instance : Zec Tryd.prog 41 (Go.Value.tuple #[(Go.Value.int Go.IntKind.i64 0), (Go.Value.int Go.IntKind.i64 0), (Go.Value.int Go.IntKind.i64 0)]) := ⟨ze41⟩
instance : Szc Tryd.prog 42 1 := ⟨sz42⟩
instance : Bsc Tryd.prog 42 8 := ⟨bs42⟩
instance : Und Tryd.prog 42 (Go.TypeDesc.func #[9, 3] #[3, 3, 22] false) := ⟨Tryd.underlying42⟩
instance : Zec Tryd.prog 42 (Go.Value.nilFunc) := ⟨ze42⟩
instance : Szc Tryd.prog 43 1 := ⟨sz43⟩
instance : Bsc Tryd.prog 43 8 := ⟨bs43⟩
instance : Und Tryd.prog 43 (Go.TypeDesc.func #[3, 9] #[4] false) := ⟨Tryd.underlying43⟩
instance : Zec Tryd.prog 43 (Go.Value.nilFunc) := ⟨ze43⟩
instance : Szc Tryd.prog 44 1 := ⟨sz44⟩
instance : Bsc Tryd.prog 44 24 := ⟨bs44⟩
instance : Und Tryd.prog 44 (Go.TypeDesc.slice 9) := ⟨Tryd.underlying44⟩
instance : Zec Tryd.prog 44 (Go.Value.slice none 0 0) := ⟨ze44⟩
instance : Szc Tryd.prog 45 1 := ⟨sz45⟩
instance : Bsc Tryd.prog 45 8 := ⟨bs45⟩
instance : Und Tryd.prog 45 (Go.TypeDesc.func #[44] #[44] false) := ⟨Tryd.underlying45⟩
instance : Zec Tryd.prog 45 (Go.Value.nilFunc) := ⟨ze45⟩
instance : Szc Tryd.prog 46 1 := ⟨sz46⟩
instance : Bsc Tryd.prog 46 8 := ⟨bs46⟩
instance : Und Tryd.prog 46 (Go.TypeDesc.func #[44, 44] #[4] false) := ⟨Tryd.underlying46⟩
instance : Zec Tryd.prog 46 (Go.Value.nilFunc) := ⟨ze46⟩
instance : Szc Tryd.prog 47 1 := ⟨sz47⟩
instance : Bsc Tryd.prog 47 8 := ⟨bs47⟩
instance : Und Tryd.prog 47 (Go.TypeDesc.func #[44] #[4] false) := ⟨Tryd.underlying47⟩
instance : Zec Tryd.prog 47 (Go.Value.nilFunc) := ⟨ze47⟩
instance : Szc Tryd.prog 48 1 := ⟨sz48⟩
instance : Bsc Tryd.prog 48 8 := ⟨bs48⟩
instance : Und Tryd.prog 48 (Go.TypeDesc.func #[9, 3, 3] #[4] false) := ⟨Tryd.underlying48⟩
instance : Zec Tryd.prog 48 (Go.Value.nilFunc) := ⟨ze48⟩
instance : Szc Tryd.prog 49 1 := ⟨sz49⟩
instance : Bsc Tryd.prog 49 8 := ⟨bs49⟩
instance : Und Tryd.prog 49 (Go.TypeDesc.func #[9, 44, 3] #[44] false) := ⟨Tryd.underlying49⟩
instance : Zec Tryd.prog 49 (Go.Value.nilFunc) := ⟨ze49⟩
instance : Szc Tryd.prog 50 1 := ⟨sz50⟩
instance : Bsc Tryd.prog 50 8 := ⟨bs50⟩
instance : Und Tryd.prog 50 (Go.TypeDesc.func #[9, 44, 3] #[4] false) := ⟨Tryd.underlying50⟩
instance : Zec Tryd.prog 50 (Go.Value.nilFunc) := ⟨ze50⟩
instance : Szc Tryd.prog 51 1 := ⟨sz51⟩
instance : Bsc Tryd.prog 51 8 := ⟨bs51⟩
instance : Und Tryd.prog 51 (Go.TypeDesc.func #[9, 4] #[38] false) := ⟨Tryd.underlying51⟩
instance : Zec Tryd.prog 51 (Go.Value.nilFunc) := ⟨ze51⟩
instance : Szc Tryd.prog 52 1 := ⟨sz52⟩
instance : Bsc Tryd.prog 52 24 := ⟨bs52⟩
instance : Und Tryd.prog 52 (Go.TypeDesc.slice 53) := ⟨Tryd.underlying52⟩
instance : Zec Tryd.prog 52 (Go.Value.slice none 0 0) := ⟨ze52⟩
instance : Szc Tryd.prog 53 1 := ⟨sz53⟩
instance : Bsc Tryd.prog 53 24 := ⟨bs53⟩
instance : Und Tryd.prog 53 (Go.TypeDesc.slice 3) := ⟨Tryd.underlying53⟩
instance : Zec Tryd.prog 53 (Go.Value.slice none 0 0) := ⟨ze53⟩
instance : Szc Tryd.prog 54 1 := ⟨sz54⟩
instance : Bsc Tryd.prog 54 8 := ⟨bs54⟩
instance : Und Tryd.prog 54 (Go.TypeDesc.func #[9, 56, 9, 56] #[4] false) := ⟨Tryd.underlying54⟩
instance : Zec Tryd.prog 54 (Go.Value.nilFunc) := ⟨ze54⟩
instance : Szc Tryd.prog 55 5 := ⟨sz55⟩
instance : Bsc Tryd.prog 55 32 := ⟨bs55⟩
instance : Und Tryd.prog 55 (Go.TypeDesc.struct #[{ name := "R", type := 21, offset := 0, embedded := false, tag := "", pkgPath := "", byteOffset := 0 }, { name := "Folded", type := 21, offset := 1, embedded := false, tag := "", pkgPath := "", byteOffset := 4 }, { name := "Broken", type := 4, offset := 2, embedded := false, tag := "", pkgPath := "", byteOffset := 8 }, { name := "At", type := 3, offset := 3, embedded := false, tag := "", pkgPath := "", byteOffset := 16 }, { name := "Len", type := 3, offset := 4, embedded := false, tag := "", pkgPath := "", byteOffset := 24 }]) := ⟨Tryd.underlying55⟩
instance : Zec Tryd.prog 55 (Go.Value.agg #[(Go.Value.int Go.IntKind.i32 0), (Go.Value.int Go.IntKind.i32 0), (Go.Value.bool false), (Go.Value.int Go.IntKind.i64 0), (Go.Value.int Go.IntKind.i64 0)]) := ⟨ze55⟩
instance : Szc Tryd.prog 56 5 := ⟨sz56⟩
instance : Bsc Tryd.prog 56 32 := ⟨bs56⟩
instance : Und Tryd.prog 56 (Go.TypeDesc.struct #[{ name := "R", type := 21, offset := 0, embedded := false, tag := "", pkgPath := "", byteOffset := 0 }, { name := "Folded", type := 21, offset := 1, embedded := false, tag := "", pkgPath := "", byteOffset := 4 }, { name := "Broken", type := 4, offset := 2, embedded := false, tag := "", pkgPath := "", byteOffset := 8 }, { name := "At", type := 3, offset := 3, embedded := false, tag := "", pkgPath := "", byteOffset := 16 }, { name := "Len", type := 3, offset := 4, embedded := false, tag := "", pkgPath := "", byteOffset := 24 }]) := ⟨Tryd.underlying56⟩
instance : Zec Tryd.prog 56 (Go.Value.agg #[(Go.Value.int Go.IntKind.i32 0), (Go.Value.int Go.IntKind.i32 0), (Go.Value.bool false), (Go.Value.int Go.IntKind.i64 0), (Go.Value.int Go.IntKind.i64 0)]) := ⟨ze56⟩
instance : Szc Tryd.prog 57 1 := ⟨sz57⟩
instance : Bsc Tryd.prog 57 0 := ⟨bs57⟩
instance : Und Tryd.prog 57 (Go.TypeDesc.tuple #[21, 3]) := ⟨Tryd.underlying57⟩
instance : Zec Tryd.prog 57 (Go.Value.tuple #[(Go.Value.int Go.IntKind.i32 0), (Go.Value.int Go.IntKind.i64 0)]) := ⟨ze57⟩
instance : Szc Tryd.prog 58 1 := ⟨sz58⟩
instance : Bsc Tryd.prog 58 8 := ⟨bs58⟩
instance : Und Tryd.prog 58 (Go.TypeDesc.func #[9] #[21, 3] false) := ⟨Tryd.underlying58⟩
instance : Zec Tryd.prog 58 (Go.Value.nilFunc) := ⟨ze58⟩
instance : Szc Tryd.prog 59 1 := ⟨sz59⟩
instance : Bsc Tryd.prog 59 8 := ⟨bs59⟩
instance : Und Tryd.prog 59 (Go.TypeDesc.func #[21] #[21] false) := ⟨Tryd.underlying59⟩
instance : Zec Tryd.prog 59 (Go.Value.nilFunc) := ⟨ze59⟩
instance : Szc Tryd.prog 60 1 := ⟨sz60⟩
instance : Bsc Tryd.prog 60 0 := ⟨bs60⟩
instance : Und Tryd.prog 60 (Go.TypeDesc.tuple #[9, 3]) := ⟨Tryd.underlying60⟩
instance : Zec Tryd.prog 60 (Go.Value.tuple #[(Go.Value.string { data := #[] }), (Go.Value.int Go.IntKind.i64 0)]) := ⟨ze60⟩
instance : Szc Tryd.prog 61 1 := ⟨sz61⟩
instance : Bsc Tryd.prog 61 8 := ⟨bs61⟩
instance : Und Tryd.prog 61 (Go.TypeDesc.func #[9] #[9, 3] false) := ⟨Tryd.underlying61⟩
instance : Zec Tryd.prog 61 (Go.Value.nilFunc) := ⟨ze61⟩
instance : Szc Tryd.prog 62 1 := ⟨sz62⟩
instance : Bsc Tryd.prog 62 8 := ⟨bs62⟩
instance : Und Tryd.prog 62 (Go.TypeDesc.func #[27] #[3] false) := ⟨Tryd.underlying62⟩
instance : Zec Tryd.prog 62 (Go.Value.nilFunc) := ⟨ze62⟩
instance : Szc Tryd.prog 63 1 := ⟨sz63⟩
instance : Bsc Tryd.prog 63 8 := ⟨bs63⟩
instance : Und Tryd.prog 63 (Go.TypeDesc.func #[27] #[9] false) := ⟨Tryd.underlying63⟩
instance : Zec Tryd.prog 63 (Go.Value.nilFunc) := ⟨ze63⟩
instance : Szc Tryd.prog 64 1 := ⟨sz64⟩
instance : Bsc Tryd.prog 64 8 := ⟨bs64⟩
instance : Und Tryd.prog 64 (Go.TypeDesc.func #[21, 21] #[4] false) := ⟨Tryd.underlying64⟩
instance : Zec Tryd.prog 64 (Go.Value.nilFunc) := ⟨ze64⟩
instance : Szc Tryd.prog 65 1 := ⟨sz65⟩
instance : Bsc Tryd.prog 65 8 := ⟨bs65⟩
instance : Und Tryd.prog 65 (Go.TypeDesc.func #[44, 68] #[] false) := ⟨Tryd.underlying65⟩
instance : Zec Tryd.prog 65 (Go.Value.nilFunc) := ⟨ze65⟩
instance : Szc Tryd.prog 66 1 := ⟨sz66⟩
instance : Bsc Tryd.prog 66 8 := ⟨bs66⟩
instance : Und Tryd.prog 66 (Go.TypeDesc.func #[53] #[3] true) := ⟨Tryd.underlying66⟩
instance : Zec Tryd.prog 66 (Go.Value.nilFunc) := ⟨ze66⟩
instance : Szc Tryd.prog 67 1 := ⟨sz67⟩
instance : Bsc Tryd.prog 67 8 := ⟨bs67⟩
instance : Und Tryd.prog 67 (Go.TypeDesc.func #[38, 38] #[3] false) := ⟨Tryd.underlying67⟩
instance : Zec Tryd.prog 67 (Go.Value.nilFunc) := ⟨ze67⟩
instance : Szc Tryd.prog 68 1 := ⟨sz68⟩
instance : Bsc Tryd.prog 68 8 := ⟨bs68⟩
instance : Und Tryd.prog 68 (Go.TypeDesc.func #[9, 9] #[3] false) := ⟨Tryd.underlying68⟩
instance : Zec Tryd.prog 68 (Go.Value.nilFunc) := ⟨ze68⟩
instance : Szc Tryd.prog 69 1 := ⟨sz69⟩
instance : Bsc Tryd.prog 69 8 := ⟨bs69⟩
instance : Und Tryd.prog 69 (Go.TypeDesc.func #[56] #[3] false) := ⟨Tryd.underlying69⟩
instance : Zec Tryd.prog 69 (Go.Value.nilFunc) := ⟨ze69⟩
instance : Szc Tryd.prog 70 1 := ⟨sz70⟩
instance : Bsc Tryd.prog 70 24 := ⟨bs70⟩
instance : Und Tryd.prog 70 (Go.TypeDesc.slice 5) := ⟨Tryd.underlying70⟩
instance : Zec Tryd.prog 70 (Go.Value.slice none 0 0) := ⟨ze70⟩
instance : Szc Tryd.prog 71 1 := ⟨sz71⟩
instance : Bsc Tryd.prog 71 8 := ⟨bs71⟩
instance : Und Tryd.prog 71 (Go.TypeDesc.func #[3] #[9] false) := ⟨Tryd.underlying71⟩
instance : Zec Tryd.prog 71 (Go.Value.nilFunc) := ⟨ze71⟩
instance : Szc Tryd.prog 72 1 := ⟨sz72⟩
instance : Bsc Tryd.prog 72 8 := ⟨bs72⟩
instance : Und Tryd.prog 72 (Go.TypeDesc.func #[44, 9] #[4] false) := ⟨Tryd.underlying72⟩
instance : Zec Tryd.prog 72 (Go.Value.nilFunc) := ⟨ze72⟩
instance : Szc Tryd.prog 73 1 := ⟨sz73⟩
instance : Bsc Tryd.prog 73 8 := ⟨bs73⟩
instance : Und Tryd.prog 73 (Go.TypeDesc.pointer 75) := ⟨Tryd.underlying73⟩
instance : Zec Tryd.prog 73 (Go.Value.pointer none) := ⟨ze73⟩
instance : Szc Tryd.prog 74 2 := ⟨sz74⟩
instance : Bsc Tryd.prog 74 32 := ⟨bs74⟩
instance : Und Tryd.prog 74 (Go.TypeDesc.struct #[{ name := "addr", type := 73, offset := 0, embedded := false, tag := "", pkgPath := "strings", byteOffset := 0 }, { name := "buf", type := 70, offset := 1, embedded := false, tag := "", pkgPath := "strings", byteOffset := 8 }]) := ⟨Tryd.underlying74⟩
instance : Zec Tryd.prog 74 (Go.Value.agg #[(Go.Value.pointer none), (Go.Value.slice none 0 0)]) := ⟨ze74⟩
instance : Szc Tryd.prog 75 2 := ⟨sz75⟩
instance : Bsc Tryd.prog 75 32 := ⟨bs75⟩
instance : Und Tryd.prog 75 (Go.TypeDesc.struct #[{ name := "addr", type := 73, offset := 0, embedded := false, tag := "", pkgPath := "strings", byteOffset := 0 }, { name := "buf", type := 70, offset := 1, embedded := false, tag := "", pkgPath := "strings", byteOffset := 8 }]) := ⟨Tryd.underlying75⟩
instance : Zec Tryd.prog 75 (Go.Value.agg #[(Go.Value.pointer none), (Go.Value.slice none 0 0)]) := ⟨ze75⟩
instance : Szc Tryd.prog 76 1 := ⟨sz76⟩
instance : Bsc Tryd.prog 76 8 := ⟨bs76⟩
instance : Und Tryd.prog 76 (Go.TypeDesc.func #[] #[9] false) := ⟨Tryd.underlying76⟩
instance : Zec Tryd.prog 76 (Go.Value.nilFunc) := ⟨ze76⟩
instance : Szc Tryd.prog 77 1 := ⟨sz77⟩
instance : Bsc Tryd.prog 77 16 := ⟨bs77⟩
instance : Und Tryd.prog 77 (Go.TypeDesc.interface #[("Error", 76)]) := ⟨Tryd.underlying77⟩
instance : Zec Tryd.prog 77 (Go.Value.nilIface) := ⟨ze77⟩
instance : Szc Tryd.prog 78 1 := ⟨sz78⟩
instance : Bsc Tryd.prog 78 16 := ⟨bs78⟩
instance : Und Tryd.prog 78 (Go.TypeDesc.interface #[("Error", 76)]) := ⟨Tryd.underlying78⟩
instance : Zec Tryd.prog 78 (Go.Value.nilIface) := ⟨ze78⟩
instance : Szc Tryd.prog 79 1 := ⟨sz79⟩
instance : Bsc Tryd.prog 79 0 := ⟨bs79⟩
instance : Und Tryd.prog 79 (Go.TypeDesc.tuple #[3, 78]) := ⟨Tryd.underlying79⟩
instance : Zec Tryd.prog 79 (Go.Value.tuple #[(Go.Value.int Go.IntKind.i64 0), Go.Value.nilIface]) := ⟨ze79⟩
instance : Szc Tryd.prog 80 1 := ⟨sz80⟩
instance : Bsc Tryd.prog 80 8 := ⟨bs80⟩
instance : Und Tryd.prog 80 (Go.TypeDesc.func #[21] #[3, 78] false) := ⟨Tryd.underlying80⟩
instance : Zec Tryd.prog 80 (Go.Value.nilFunc) := ⟨ze80⟩
instance : Szc Tryd.prog 81 1 := ⟨sz81⟩
instance : Bsc Tryd.prog 81 8 := ⟨bs81⟩
instance : Und Tryd.prog 81 (Go.TypeDesc.func #[44, 3, 68] #[] false) := ⟨Tryd.underlying81⟩
instance : Zec Tryd.prog 81 (Go.Value.nilFunc) := ⟨ze81⟩
instance : Szc Tryd.prog 82 1 := ⟨sz82⟩
instance : Bsc Tryd.prog 82 8 := ⟨bs82⟩
instance : Und Tryd.prog 82 (Go.TypeDesc.func #[21, 21] #[3] false) := ⟨Tryd.underlying82⟩
instance : Zec Tryd.prog 82 (Go.Value.nilFunc) := ⟨ze82⟩
instance : Szc Tryd.prog 83 1 := ⟨sz83⟩
instance : Bsc Tryd.prog 83 8 := ⟨bs83⟩
instance : Und Tryd.prog 83 (Go.TypeDesc.func #[44, 9] #[3] false) := ⟨Tryd.underlying83⟩
instance : Zec Tryd.prog 83 (Go.Value.nilFunc) := ⟨ze83⟩
instance : Szc Tryd.prog 84 256 := ⟨sz84⟩
instance : Bsc Tryd.prog 84 256 := ⟨bs84⟩
instance : Und Tryd.prog 84 (Go.TypeDesc.array 256 5) := ⟨Tryd.underlying84⟩
instance : Szc Tryd.prog 85 1 := ⟨sz85⟩
instance : Bsc Tryd.prog 85 8 := ⟨bs85⟩
instance : Und Tryd.prog 85 (Go.TypeDesc.int Go.IntKind.u64) := ⟨Tryd.underlying85⟩
instance : Zec Tryd.prog 85 (Go.Value.int Go.IntKind.u64 0) := ⟨ze85⟩
instance : Szc Tryd.prog 86 2 := ⟨sz86⟩
instance : Bsc Tryd.prog 86 2 := ⟨bs86⟩
instance : Und Tryd.prog 86 (Go.TypeDesc.struct #[{ name := "lo", type := 5, offset := 0, embedded := false, tag := "", pkgPath := "unicode/utf8", byteOffset := 0 }, { name := "hi", type := 5, offset := 1, embedded := false, tag := "", pkgPath := "unicode/utf8", byteOffset := 1 }]) := ⟨Tryd.underlying86⟩
instance : Zec Tryd.prog 86 (Go.Value.agg #[(Go.Value.int Go.IntKind.u8 0), (Go.Value.int Go.IntKind.u8 0)]) := ⟨ze86⟩
instance : Szc Tryd.prog 87 2 := ⟨sz87⟩
instance : Bsc Tryd.prog 87 2 := ⟨bs87⟩
instance : Und Tryd.prog 87 (Go.TypeDesc.struct #[{ name := "lo", type := 5, offset := 0, embedded := false, tag := "", pkgPath := "unicode/utf8", byteOffset := 0 }, { name := "hi", type := 5, offset := 1, embedded := false, tag := "", pkgPath := "unicode/utf8", byteOffset := 1 }]) := ⟨Tryd.underlying87⟩
instance : Zec Tryd.prog 87 (Go.Value.agg #[(Go.Value.int Go.IntKind.u8 0), (Go.Value.int Go.IntKind.u8 0)]) := ⟨ze87⟩
instance : Szc Tryd.prog 88 32 := ⟨sz88⟩
instance : Bsc Tryd.prog 88 32 := ⟨bs88⟩
instance : Und Tryd.prog 88 (Go.TypeDesc.array 16 87) := ⟨Tryd.underlying88⟩
instance : Zec Tryd.prog 88 (Go.Value.agg #[(Go.Value.int Go.IntKind.u8 0), (Go.Value.int Go.IntKind.u8 0), (Go.Value.int Go.IntKind.u8 0), (Go.Value.int Go.IntKind.u8 0), (Go.Value.int Go.IntKind.u8 0), (Go.Value.int Go.IntKind.u8 0), (Go.Value.int Go.IntKind.u8 0), (Go.Value.int Go.IntKind.u8 0), (Go.Value.int Go.IntKind.u8 0), (Go.Value.int Go.IntKind.u8 0), (Go.Value.int Go.IntKind.u8 0), (Go.Value.int Go.IntKind.u8 0), (Go.Value.int Go.IntKind.u8 0), (Go.Value.int Go.IntKind.u8 0), (Go.Value.int Go.IntKind.u8 0), (Go.Value.int Go.IntKind.u8 0), (Go.Value.int Go.IntKind.u8 0), (Go.Value.int Go.IntKind.u8 0), (Go.Value.int Go.IntKind.u8 0), (Go.Value.int Go.IntKind.u8 0), (Go.Value.int Go.IntKind.u8 0), (Go.Value.int Go.IntKind.u8 0), (Go.Value.int Go.IntKind.u8 0), (Go.Value.int Go.IntKind.u8 0), (Go.Value.int Go.IntKind.u8 0), (Go.Value.int Go.IntKind.u8 0), (Go.Value.int Go.IntKind.u8 0), (Go.Value.int Go.IntKind.u8 0), (Go.Value.int Go.IntKind.u8 0), (Go.Value.int Go.IntKind.u8 0), (Go.Value.int Go.IntKind.u8 0), (Go.Value.int Go.IntKind.u8 0)]) := ⟨ze88⟩
instance : Szc Tryd.prog 89 1 := ⟨sz89⟩
instance : Bsc Tryd.prog 89 8 := ⟨bs89⟩
instance : Und Tryd.prog 89 (Go.TypeDesc.pointer 5) := ⟨Tryd.underlying89⟩
instance : Zec Tryd.prog 89 (Go.Value.pointer none) := ⟨ze89⟩
instance : Szc Tryd.prog 90 1 := ⟨sz90⟩
instance : Bsc Tryd.prog 90 8 := ⟨bs90⟩
instance : Und Tryd.prog 90 (Go.TypeDesc.func #[70, 21] #[70] false) := ⟨Tryd.underlying90⟩
instance : Zec Tryd.prog 90 (Go.Value.nilFunc) := ⟨ze90⟩
instance : Szc Tryd.prog 91 1 := ⟨sz91⟩
instance : Bsc Tryd.prog 91 8 := ⟨bs91⟩
instance : Und Tryd.prog 91 (Go.TypeDesc.func #[44, 3, 3, 68] #[] false) := ⟨Tryd.underlying91⟩
instance : Zec Tryd.prog 91 (Go.Value.nilFunc) := ⟨ze91⟩
instance : Szc Tryd.prog 92 1 := ⟨sz92⟩
instance : Bsc Tryd.prog 92 8 := ⟨bs92⟩
instance : Und Tryd.prog 92 (Go.TypeDesc.func #[44, 3, 3, 3, 68] #[] false) := ⟨Tryd.underlying92⟩
instance : Zec Tryd.prog 92 (Go.Value.nilFunc) := ⟨ze92⟩
instance : Szc Tryd.prog 93 1 := ⟨sz93⟩
instance : Bsc Tryd.prog 93 8 := ⟨bs93⟩
instance : Und Tryd.prog 93 (Go.TypeDesc.func #[21] #[4] false) := ⟨Tryd.underlying93⟩
instance : Zec Tryd.prog 93 (Go.Value.nilFunc) := ⟨ze93⟩
instance : Szc Tryd.prog 94 1 := ⟨sz94⟩
instance : Bsc Tryd.prog 94 8 := ⟨bs94⟩
instance : Und Tryd.prog 94 (Go.TypeDesc.func #[2, 3] #[9] false) := ⟨Tryd.underlying94⟩
instance : Zec Tryd.prog 94 (Go.Value.nilFunc) := ⟨ze94⟩
instance : Szc Tryd.prog 95 1 := ⟨sz95⟩
instance : Bsc Tryd.prog 95 8 := ⟨bs95⟩
instance : Und Tryd.prog 95 Go.TypeDesc.unsafePointer := ⟨Tryd.underlying95⟩
instance : Zec Tryd.prog 95 (Go.Value.pointer none) := ⟨ze95⟩
instance : Szc Tryd.prog 96 1 := ⟨sz96⟩
instance : Bsc Tryd.prog 96 8 := ⟨bs96⟩
instance : Und Tryd.prog 96 (Go.TypeDesc.func #[95] #[95] false) := ⟨Tryd.underlying96⟩
instance : Zec Tryd.prog 96 (Go.Value.nilFunc) := ⟨ze96⟩
instance : Szc Tryd.prog 97 1 := ⟨sz97⟩
instance : Bsc Tryd.prog 97 4 := ⟨bs97⟩
instance : Und Tryd.prog 97 (Go.TypeDesc.int Go.IntKind.u32) := ⟨Tryd.underlying97⟩
instance : Zec Tryd.prog 97 (Go.Value.int Go.IntKind.u32 0) := ⟨ze97⟩
instance : Szc Tryd.prog 98 24 := ⟨sz98⟩
instance : Bsc Tryd.prog 98 24 := ⟨bs98⟩
instance : Und Tryd.prog 98 (Go.TypeDesc.array 24 5) := ⟨Tryd.underlying98⟩
instance : Zec Tryd.prog 98 (Go.Value.agg #[(Go.Value.int Go.IntKind.u8 0), (Go.Value.int Go.IntKind.u8 0), (Go.Value.int Go.IntKind.u8 0), (Go.Value.int Go.IntKind.u8 0), (Go.Value.int Go.IntKind.u8 0), (Go.Value.int Go.IntKind.u8 0), (Go.Value.int Go.IntKind.u8 0), (Go.Value.int Go.IntKind.u8 0), (Go.Value.int Go.IntKind.u8 0), (Go.Value.int Go.IntKind.u8 0), (Go.Value.int Go.IntKind.u8 0), (Go.Value.int Go.IntKind.u8 0), (Go.Value.int Go.IntKind.u8 0), (Go.Value.int Go.IntKind.u8 0), (Go.Value.int Go.IntKind.u8 0), (Go.Value.int Go.IntKind.u8 0), (Go.Value.int Go.IntKind.u8 0), (Go.Value.int Go.IntKind.u8 0), (Go.Value.int Go.IntKind.u8 0), (Go.Value.int Go.IntKind.u8 0), (Go.Value.int Go.IntKind.u8 0), (Go.Value.int Go.IntKind.u8 0), (Go.Value.int Go.IntKind.u8 0), (Go.Value.int Go.IntKind.u8 0)]) := ⟨ze98⟩
instance : Szc Tryd.prog 99 1 := ⟨sz99⟩
instance : Bsc Tryd.prog 99 8 := ⟨bs99⟩
instance : Und Tryd.prog 99 (Go.TypeDesc.int Go.IntKind.u64) := ⟨Tryd.underlying99⟩
instance : Zec Tryd.prog 99 (Go.Value.int Go.IntKind.u64 0) := ⟨ze99⟩
instance : Szc Tryd.prog 100 1 := ⟨sz100⟩
instance : Bsc Tryd.prog 100 8 := ⟨bs100⟩
instance : Und Tryd.prog 100 (Go.TypeDesc.func #[99] #[3] false) := ⟨Tryd.underlying100⟩
instance : Zec Tryd.prog 100 (Go.Value.nilFunc) := ⟨ze100⟩
instance : Szc Tryd.prog 101 1 := ⟨sz101⟩
instance : Bsc Tryd.prog 101 8 := ⟨bs101⟩
instance : Und Tryd.prog 101 (Go.TypeDesc.func #[70, 99] #[] false) := ⟨Tryd.underlying101⟩
instance : Zec Tryd.prog 101 (Go.Value.nilFunc) := ⟨ze101⟩
instance : Szc Tryd.prog 102 1 := ⟨sz102⟩
instance : Bsc Tryd.prog 102 0 := ⟨bs102⟩
instance : Und Tryd.prog 102 (Go.TypeDesc.tuple #[70, 9]) := ⟨Tryd.underlying102⟩
instance : Zec Tryd.prog 102 (Go.Value.tuple #[(Go.Value.slice none 0 0), (Go.Value.string { data := #[] })]) := ⟨ze102⟩
instance : Szc Tryd.prog 103 1 := ⟨sz103⟩
instance : Bsc Tryd.prog 103 8 := ⟨bs103⟩
instance : Und Tryd.prog 103 (Go.TypeDesc.func #[70, 99, 3, 4, 4] #[70, 9] false) := ⟨Tryd.underlying103⟩
instance : Zec Tryd.prog 103 (Go.Value.nilFunc) := ⟨ze103⟩
instance : Szc Tryd.prog 104 1 := ⟨sz104⟩
instance : Bsc Tryd.prog 104 8 := ⟨bs104⟩
instance : Und Tryd.prog 104 (Go.TypeDesc.func #[3] #[3] false) := ⟨Tryd.underlying104⟩
instance : Zec Tryd.prog 104 (Go.Value.nilFunc) := ⟨ze104⟩
instance : Szc Tryd.prog 105 1 := ⟨sz105⟩
instance : Bsc Tryd.prog 105 8 := ⟨bs105⟩
instance : Und Tryd.prog 105 (Go.TypeDesc.func #[4] #[3] false) := ⟨Tryd.underlying105⟩
instance : Zec Tryd.prog 105 (Go.Value.nilFunc) := ⟨ze105⟩
instance : Szc Tryd.prog 106 20 := ⟨sz106⟩
instance : Bsc Tryd.prog 106 160 := ⟨bs106⟩
instance : Und Tryd.prog 106 (Go.TypeDesc.array 20 99) := ⟨Tryd.underlying106⟩
instance : Zec Tryd.prog 106 (Go.Value.agg #[(Go.Value.int Go.IntKind.u64 0), (Go.Value.int Go.IntKind.u64 0), (Go.Value.int Go.IntKind.u64 0), (Go.Value.int Go.IntKind.u64 0), (Go.Value.int Go.IntKind.u64 0), (Go.Value.int Go.IntKind.u64 0), (Go.Value.int Go.IntKind.u64 0), (Go.Value.int Go.IntKind.u64 0), (Go.Value.int Go.IntKind.u64 0), (Go.Value.int Go.IntKind.u64 0), (Go.Value.int Go.IntKind.u64 0), (Go.Value.int Go.IntKind.u64 0), (Go.Value.int Go.IntKind.u64 0), (Go.Value.int Go.IntKind.u64 0), (Go.Value.int Go.IntKind.u64 0), (Go.Value.int Go.IntKind.u64 0), (Go.Value.int Go.IntKind.u64 0), (Go.Value.int Go.IntKind.u64 0), (Go.Value.int Go.IntKind.u64 0), (Go.Value.int Go.IntKind.u64 0)]) := ⟨ze106⟩
instance : Szc Tryd.prog 107 65 := ⟨sz107⟩
instance : Bsc Tryd.prog 107 65 := ⟨bs107⟩
instance : Und Tryd.prog 107 (Go.TypeDesc.array 65 5) := ⟨Tryd.underlying107⟩
instance : Szc Tryd.prog 108 1 := ⟨sz108⟩
instance : Bsc Tryd.prog 108 8 := ⟨bs108⟩
instance : Und Tryd.prog 108 (Go.TypeDesc.func #[3] #[4] false) := ⟨Tryd.underlying108⟩
instance : Zec Tryd.prog 108 (Go.Value.nilFunc) := ⟨ze108⟩
instance : Szc Tryd.prog 109 1 := ⟨sz109⟩
instance : Bsc Tryd.prog 109 8 := ⟨bs109⟩
instance : Und Tryd.prog 109 (Go.TypeDesc.func #[85] #[3] false) := ⟨Tryd.underlying109⟩
instance : Zec Tryd.prog 109 (Go.Value.nilFunc) := ⟨ze109⟩
instance : Szc Tryd.prog 110 1 := ⟨sz110⟩
instance : Bsc Tryd.prog 110 8 := ⟨bs110⟩
instance : Und Tryd.prog 110 (Go.TypeDesc.func #[97] #[3] false) := ⟨Tryd.underlying110⟩
instance : Zec Tryd.prog 110 (Go.Value.nilFunc) := ⟨ze110⟩
instance : Szc Tryd.prog 111 32 := ⟨sz111⟩
instance : Bsc Tryd.prog 111 32 := ⟨bs111⟩
instance : Und Tryd.prog 111 (Go.TypeDesc.array 32 5) := ⟨Tryd.underlying111⟩
instance : Zec Tryd.prog 111 (Go.Value.agg #[(Go.Value.int Go.IntKind.u8 0), (Go.Value.int Go.IntKind.u8 0), (Go.Value.int Go.IntKind.u8 0), (Go.Value.int Go.IntKind.u8 0), (Go.Value.int Go.IntKind.u8 0), (Go.Value.int Go.IntKind.u8 0), (Go.Value.int Go.IntKind.u8 0), (Go.Value.int Go.IntKind.u8 0), (Go.Value.int Go.IntKind.u8 0), (Go.Value.int Go.IntKind.u8 0), (Go.Value.int Go.IntKind.u8 0), (Go.Value.int Go.IntKind.u8 0), (Go.Value.int Go.IntKind.u8 0), (Go.Value.int Go.IntKind.u8 0), (Go.Value.int Go.IntKind.u8 0), (Go.Value.int Go.IntKind.u8 0), (Go.Value.int Go.IntKind.u8 0), (Go.Value.int Go.IntKind.u8 0), (Go.Value.int Go.IntKind.u8 0), (Go.Value.int Go.IntKind.u8 0), (Go.Value.int Go.IntKind.u8 0), (Go.Value.int Go.IntKind.u8 0), (Go.Value.int Go.IntKind.u8 0), (Go.Value.int Go.IntKind.u8 0), (Go.Value.int Go.IntKind.u8 0), (Go.Value.int Go.IntKind.u8 0), (Go.Value.int Go.IntKind.u8 0), (Go.Value.int Go.IntKind.u8 0), (Go.Value.int Go.IntKind.u8 0), (Go.Value.int Go.IntKind.u8 0), (Go.Value.int Go.IntKind.u8 0), (Go.Value.int Go.IntKind.u8 0)]) := ⟨ze111⟩
instance : Szc Tryd.prog 112 64 := ⟨sz112⟩
instance : Bsc Tryd.prog 112 64 := ⟨bs112⟩
instance : Und Tryd.prog 112 (Go.TypeDesc.array 64 5) := ⟨Tryd.underlying112⟩
instance : Szc Tryd.prog 113 4 := ⟨sz113⟩
instance : Bsc Tryd.prog 113 40 := ⟨bs113⟩
instance : Und Tryd.prog 113 (Go.TypeDesc.struct #[{ name := "_interface", type := 17, offset := 0, embedded := false, tag := "", pkgPath := "runtime", byteOffset := 0 }, { name := "concrete", type := 17, offset := 1, embedded := false, tag := "", pkgPath := "runtime", byteOffset := 8 }, { name := "asserted", type := 17, offset := 2, embedded := false, tag := "", pkgPath := "runtime", byteOffset := 16 }, { name := "missingMethod", type := 9, offset := 3, embedded := false, tag := "", pkgPath := "runtime", byteOffset := 24 }]) := ⟨Tryd.underlying113⟩
instance : Zec Tryd.prog 113 (Go.Value.agg #[(Go.Value.pointer none), (Go.Value.pointer none), (Go.Value.pointer none), (Go.Value.string { data := #[] })]) := ⟨ze113⟩
instance : Szc Tryd.prog 114 4 := ⟨sz114⟩
instance : Bsc Tryd.prog 114 40 := ⟨bs114⟩
instance : Und Tryd.prog 114 (Go.TypeDesc.struct #[{ name := "_interface", type := 17, offset := 0, embedded := false, tag := "", pkgPath := "runtime", byteOffset := 0 }, { name := "concrete", type := 17, offset := 1, embedded := false, tag := "", pkgPath := "runtime", byteOffset := 8 }, { name := "asserted", type := 17, offset := 2, embedded := false, tag := "", pkgPath := "runtime", byteOffset := 16 }, { name := "missingMethod", type := 9, offset := 3, embedded := false, tag := "", pkgPath := "runtime", byteOffset := 24 }]) := ⟨Tryd.underlying114⟩
instance : Zec Tryd.prog 114 (Go.Value.agg #[(Go.Value.pointer none), (Go.Value.pointer none), (Go.Value.pointer none), (Go.Value.string { data := #[] })]) := ⟨ze114⟩
instance : Szc Tryd.prog 115 0 := ⟨sz115⟩
instance : Bsc Tryd.prog 115 0 := ⟨bs115⟩
instance : Und Tryd.prog 115 (Go.TypeDesc.array 0 16) := ⟨Tryd.underlying115⟩
instance : Zec Tryd.prog 115 (Go.Value.agg #[]) := ⟨ze115⟩
instance : Szc Tryd.prog 116 0 := ⟨sz116⟩
instance : Bsc Tryd.prog 116 0 := ⟨bs116⟩
instance : Und Tryd.prog 116 (Go.TypeDesc.struct #[{ name := "_", type := 115, offset := 0, embedded := false, tag := "", pkgPath := "runtime", byteOffset := 0 }]) := ⟨Tryd.underlying116⟩
instance : Zec Tryd.prog 116 (Go.Value.agg #[]) := ⟨ze116⟩
instance : Szc Tryd.prog 117 0 := ⟨sz117⟩
instance : Bsc Tryd.prog 117 0 := ⟨bs117⟩
instance : Und Tryd.prog 117 (Go.TypeDesc.struct #[{ name := "_", type := 115, offset := 0, embedded := false, tag := "", pkgPath := "runtime", byteOffset := 0 }]) := ⟨Tryd.underlying117⟩
instance : Zec Tryd.prog 117 (Go.Value.agg #[]) := ⟨ze117⟩
instance : Szc Tryd.prog 118 1 := ⟨sz118⟩
instance : Bsc Tryd.prog 118 8 := ⟨bs118⟩
instance : Und Tryd.prog 118 (Go.TypeDesc.func #[] #[3] false) := ⟨Tryd.underlying118⟩
instance : Zec Tryd.prog 118 (Go.Value.nilFunc) := ⟨ze118⟩
instance : Szc Tryd.prog 119 1 := ⟨sz119⟩
instance : Bsc Tryd.prog 119 1 := ⟨bs119⟩
instance : Und Tryd.prog 119 (Go.TypeDesc.int Go.IntKind.u8) := ⟨Tryd.underlying119⟩
instance : Zec Tryd.prog 119 (Go.Value.int Go.IntKind.u8 0) := ⟨ze119⟩
instance : Szc Tryd.prog 120 1 := ⟨sz120⟩
instance : Bsc Tryd.prog 120 1 := ⟨bs120⟩
instance : Und Tryd.prog 120 (Go.TypeDesc.int Go.IntKind.u8) := ⟨Tryd.underlying120⟩
instance : Zec Tryd.prog 120 (Go.Value.int Go.IntKind.u8 0) := ⟨ze120⟩
instance : Szc Tryd.prog 121 1 := ⟨sz121⟩
instance : Bsc Tryd.prog 121 8 := ⟨bs121⟩
instance : Und Tryd.prog 121 (Go.TypeDesc.func #[95, 95] #[4] false) := ⟨Tryd.underlying121⟩
instance : Zec Tryd.prog 121 (Go.Value.nilFunc) := ⟨ze121⟩
instance : Szc Tryd.prog 122 1 := ⟨sz122⟩
instance : Bsc Tryd.prog 122 4 := ⟨bs122⟩
instance : Und Tryd.prog 122 (Go.TypeDesc.int Go.IntKind.i32) := ⟨Tryd.underlying122⟩
instance : Zec Tryd.prog 122 (Go.Value.int Go.IntKind.i32 0) := ⟨ze122⟩
instance : Szc Tryd.prog 123 1 := ⟨sz123⟩
instance : Bsc Tryd.prog 123 4 := ⟨bs123⟩
instance : Und Tryd.prog 123 (Go.TypeDesc.int Go.IntKind.i32) := ⟨Tryd.underlying123⟩
instance : Zec Tryd.prog 123 (Go.Value.int Go.IntKind.i32 0) := ⟨ze123⟩
instance : Szc Tryd.prog 124 11 := ⟨sz124⟩
instance : Bsc Tryd.prog 124 48 := ⟨bs124⟩
instance : Und Tryd.prog 124 (Go.TypeDesc.struct #[{ name := "Size_", type := 12, offset := 0, embedded := false, tag := "", pkgPath := "", byteOffset := 0 }, { name := "PtrBytes", type := 12, offset := 1, embedded := false, tag := "", pkgPath := "", byteOffset := 8 }, { name := "Hash", type := 97, offset := 2, embedded := false, tag := "", pkgPath := "", byteOffset := 16 }, { name := "TFlag", type := 119, offset := 3, embedded := false, tag := "", pkgPath := "", byteOffset := 20 }, { name := "Align_", type := 5, offset := 4, embedded := false, tag := "", pkgPath := "", byteOffset := 21 }, { name := "FieldAlign_", type := 5, offset := 5, embedded := false, tag := "", pkgPath := "", byteOffset := 22 }, { name := "Kind_", type := 120, offset := 6, embedded := false, tag := "", pkgPath := "", byteOffset := 23 }, { name := "Equal", type := 121, offset := 7, embedded := false, tag := "", pkgPath := "", byteOffset := 24 }, { name := "GCData", type := 89, offset := 8, embedded := false, tag := "", pkgPath := "", byteOffset := 32 }, { name := "Str", type := 122, offset := 9, embedded := false, tag := "", pkgPath := "", byteOffset := 40 }, { name := "PtrToThis", type := 123, offset := 10, embedded := false, tag := "", pkgPath := "", byteOffset := 44 }]) := ⟨Tryd.underlying124⟩
instance : Zec Tryd.prog 124 (Go.Value.agg #[(Go.Value.int Go.IntKind.u64 0), (Go.Value.int Go.IntKind.u64 0), (Go.Value.int Go.IntKind.u32 0), (Go.Value.int Go.IntKind.u8 0), (Go.Value.int Go.IntKind.u8 0), (Go.Value.int Go.IntKind.u8 0), (Go.Value.int Go.IntKind.u8 0), Go.Value.nilFunc, (Go.Value.pointer none), (Go.Value.int Go.IntKind.i32 0), (Go.Value.int Go.IntKind.i32 0)]) := ⟨ze124⟩
instance : Szc Tryd.prog 125 11 := ⟨sz125⟩
instance : Bsc Tryd.prog 125 48 := ⟨bs125⟩
instance : Und Tryd.prog 125 (Go.TypeDesc.struct #[{ name := "Size_", type := 12, offset := 0, embedded := false, tag := "", pkgPath := "", byteOffset := 0 }, { name := "PtrBytes", type := 12, offset := 1, embedded := false, tag := "", pkgPath := "", byteOffset := 8 }, { name := "Hash", type := 97, offset := 2, embedded := false, tag := "", pkgPath := "", byteOffset := 16 }, { name := "TFlag", type := 119, offset := 3, embedded := false, tag := "", pkgPath := "", byteOffset := 20 }, { name := "Align_", type := 5, offset := 4, embedded := false, tag := "", pkgPath := "", byteOffset := 21 }, { name := "FieldAlign_", type := 5, offset := 5, embedded := false, tag := "", pkgPath := "", byteOffset := 22 }, { name := "Kind_", type := 120, offset := 6, embedded := false, tag := "", pkgPath := "", byteOffset := 23 }, { name := "Equal", type := 121, offset := 7, embedded := false, tag := "", pkgPath := "", byteOffset := 24 }, { name := "GCData", type := 89, offset := 8, embedded := false, tag := "", pkgPath := "", byteOffset := 32 }, { name := "Str", type := 122, offset := 9, embedded := false, tag := "", pkgPath := "", byteOffset := 40 }, { name := "PtrToThis", type := 123, offset := 10, embedded := false, tag := "", pkgPath := "", byteOffset := 44 }]) := ⟨Tryd.underlying125⟩
instance : Zec Tryd.prog 125 (Go.Value.agg #[(Go.Value.int Go.IntKind.u64 0), (Go.Value.int Go.IntKind.u64 0), (Go.Value.int Go.IntKind.u32 0), (Go.Value.int Go.IntKind.u8 0), (Go.Value.int Go.IntKind.u8 0), (Go.Value.int Go.IntKind.u8 0), (Go.Value.int Go.IntKind.u8 0), Go.Value.nilFunc, (Go.Value.pointer none), (Go.Value.int Go.IntKind.i32 0), (Go.Value.int Go.IntKind.i32 0)]) := ⟨ze125⟩
theorem bld56_0_1_2_3_4 (a0 : Int) (a1 : Int) (a2 : Bool) (a3 : Int) (a4 : Int) : bldv Tryd.prog 56 [(0, (.int Go.IntKind.i32 a0)), (1, (.int Go.IntKind.i32 a1)), (2, (.bool a2)), (3, (.int Go.IntKind.i64 a3)), (4, (.int Go.IntKind.i64 a4))] = some (.agg #[(.int Go.IntKind.i32 a0), (.int Go.IntKind.i32 a1), (.bool a2), (.int Go.IntKind.i64 a3), (.int Go.IntKind.i64 a4)]) := by kernel_rfl
theorem bld87_0_1 (a0 : Int) (a1 : Int) : bldv Tryd.prog 87 [(0, (.int Go.IntKind.u8 a0)), (1, (.int Go.IntKind.u8 a1))] = some (.agg #[(.int Go.IntKind.u8 a0), (.int Go.IntKind.u8 a1)]) := by kernel_rfl
theorem bld88_0_1_2_3_4 (a00 a01 : Value) (a10 a11 : Value) (a20 a21 : Value) (a30 a31 : Value) (a40 a41 : Value) : bldv Tryd.prog 88 [(0, (.agg #[a00, a01])), (1, (.agg #[a10, a11])), (2, (.agg #[a20, a21])), (3, (.agg #[a30, a31])), (4, (.agg #[a40, a41]))] = some (.agg #[a00, a01, a10, a11, a20, a21, a30, a31, a40, a41, (Go.Value.int Go.IntKind.u8 0), (Go.Value.int Go.IntKind.u8 0), (Go.Value.int Go.IntKind.u8 0), (Go.Value.int Go.IntKind.u8 0), (Go.Value.int Go.IntKind.u8 0), (Go.Value.int Go.IntKind.u8 0), (Go.Value.int Go.IntKind.u8 0), (Go.Value.int Go.IntKind.u8 0), (Go.Value.int Go.IntKind.u8 0), (Go.Value.int Go.IntKind.u8 0), (Go.Value.int Go.IntKind.u8 0), (Go.Value.int Go.IntKind.u8 0), (Go.Value.int Go.IntKind.u8 0), (Go.Value.int Go.IntKind.u8 0), (Go.Value.int Go.IntKind.u8 0), (Go.Value.int Go.IntKind.u8 0), (Go.Value.int Go.IntKind.u8 0), (Go.Value.int Go.IntKind.u8 0), (Go.Value.int Go.IntKind.u8 0), (Go.Value.int Go.IntKind.u8 0), (Go.Value.int Go.IntKind.u8 0), (Go.Value.int Go.IntKind.u8 0)]) := by kernel_rfl
theorem bld106_0_1_2_3_4_5_6_7_8_9_10_11_12_13_14_15_16_17_18_19 (a0 : Int) (a1 : Int) (a2 : Int) (a3 : Int) (a4 : Int) (a5 : Int) (a6 : Int) (a7 : Int) (a8 : Int) (a9 : Int) (a10 : Int) (a11 : Int) (a12 : Int) (a13 : Int) (a14 : Int) (a15 : Int) (a16 : Int) (a17 : Int) (a18 : Int) (a19 : Int) : bldv Tryd.prog 106 [(0, (.int Go.IntKind.u64 a0)), (1, (.int Go.IntKind.u64 a1)), (2, (.int Go.IntKind.u64 a2)), (3, (.int Go.IntKind.u64 a3)), (4, (.int Go.IntKind.u64 a4)), (5, (.int Go.IntKind.u64 a5)), (6, (.int Go.IntKind.u64 a6)), (7, (.int Go.IntKind.u64 a7)), (8, (.int Go.IntKind.u64 a8)), (9, (.int Go.IntKind.u64 a9)), (10, (.int Go.IntKind.u64 a10)), (11, (.int Go.IntKind.u64 a11)), (12, (.int Go.IntKind.u64 a12)), (13, (.int Go.IntKind.u64 a13)), (14, (.int Go.IntKind.u64 a14)), (15, (.int Go.IntKind.u64 a15)), (16, (.int Go.IntKind.u64 a16)), (17, (.int Go.IntKind.u64 a17)), (18, (.int Go.IntKind.u64 a18)), (19, (.int Go.IntKind.u64 a19))] = some (.agg #[(.int Go.IntKind.u64 a0), (.int Go.IntKind.u64 a1), (.int Go.IntKind.u64 a2), (.int Go.IntKind.u64 a3), (.int Go.IntKind.u64 a4), (.int Go.IntKind.u64 a5), (.int Go.IntKind.u64 a6), (.int Go.IntKind.u64 a7), (.int Go.IntKind.u64 a8), (.int Go.IntKind.u64 a9), (.int Go.IntKind.u64 a10), (.int Go.IntKind.u64 a11), (.int Go.IntKind.u64 a12), (.int Go.IntKind.u64 a13), (.int Go.IntKind.u64 a14), (.int Go.IntKind.u64 a15), (.int Go.IntKind.u64 a16), (.int Go.IntKind.u64 a17), (.int Go.IntKind.u64 a18), (.int Go.IntKind.u64 a19)]) := by kernel_rfl
theorem bld111_0_1_2_3_4_5_6_7_8_9_10_11_12_13_14_15_16_17_18_19_20_21_22_23_24_25_26_27_28_29_30_31 (a0 : Int) (a1 : Int) (a2 : Int) (a3 : Int) (a4 : Int) (a5 : Int) (a6 : Int) (a7 : Int) (a8 : Int) (a9 : Int) (a10 : Int) (a11 : Int) (a12 : Int) (a13 : Int) (a14 : Int) (a15 : Int) (a16 : Int) (a17 : Int) (a18 : Int) (a19 : Int) (a20 : Int) (a21 : Int) (a22 : Int) (a23 : Int) (a24 : Int) (a25 : Int) (a26 : Int) (a27 : Int) (a28 : Int) (a29 : Int) (a30 : Int) (a31 : Int) : bldv Tryd.prog 111 [(0, (.int Go.IntKind.u8 a0)), (1, (.int Go.IntKind.u8 a1)), (2, (.int Go.IntKind.u8 a2)), (3, (.int Go.IntKind.u8 a3)), (4, (.int Go.IntKind.u8 a4)), (5, (.int Go.IntKind.u8 a5)), (6, (.int Go.IntKind.u8 a6)), (7, (.int Go.IntKind.u8 a7)), (8, (.int Go.IntKind.u8 a8)), (9, (.int Go.IntKind.u8 a9)), (10, (.int Go.IntKind.u8 a10)), (11, (.int Go.IntKind.u8 a11)), (12, (.int Go.IntKind.u8 a12)), (13, (.int Go.IntKind.u8 a13)), (14, (.int Go.IntKind.u8 a14)), (15, (.int Go.IntKind.u8 a15)), (16, (.int Go.IntKind.u8 a16)), (17, (.int Go.IntKind.u8 a17)), (18, (.int Go.IntKind.u8 a18)), (19, (.int Go.IntKind.u8 a19)), (20, (.int Go.IntKind.u8 a20)), (21, (.int Go.IntKind.u8 a21)), (22, (.int Go.IntKind.u8 a22)), (23, (.int Go.IntKind.u8 a23)), (24, (.int Go.IntKind.u8 a24)), (25, (.int Go.IntKind.u8 a25)), (26, (.int Go.IntKind.u8 a26)), (27, (.int Go.IntKind.u8 a27)), (28, (.int Go.IntKind.u8 a28)), (29, (.int Go.IntKind.u8 a29)), (30, (.int Go.IntKind.u8 a30)), (31, (.int Go.IntKind.u8 a31))] = some (.agg #[(.int Go.IntKind.u8 a0), (.int Go.IntKind.u8 a1), (.int Go.IntKind.u8 a2), (.int Go.IntKind.u8 a3), (.int Go.IntKind.u8 a4), (.int Go.IntKind.u8 a5), (.int Go.IntKind.u8 a6), (.int Go.IntKind.u8 a7), (.int Go.IntKind.u8 a8), (.int Go.IntKind.u8 a9), (.int Go.IntKind.u8 a10), (.int Go.IntKind.u8 a11), (.int Go.IntKind.u8 a12), (.int Go.IntKind.u8 a13), (.int Go.IntKind.u8 a14), (.int Go.IntKind.u8 a15), (.int Go.IntKind.u8 a16), (.int Go.IntKind.u8 a17), (.int Go.IntKind.u8 a18), (.int Go.IntKind.u8 a19), (.int Go.IntKind.u8 a20), (.int Go.IntKind.u8 a21), (.int Go.IntKind.u8 a22), (.int Go.IntKind.u8 a23), (.int Go.IntKind.u8 a24), (.int Go.IntKind.u8 a25), (.int Go.IntKind.u8 a26), (.int Go.IntKind.u8 a27), (.int Go.IntKind.u8 a28), (.int Go.IntKind.u8 a29), (.int Go.IntKind.u8 a30), (.int Go.IntKind.u8 a31)]) := by kernel_rfl
theorem mixed : Tryd.prog.follows .mixedOrders = true := by kernel_rfl
end Go.Proofs.YtmgjmjhnhgnfcaaDoor.HL
