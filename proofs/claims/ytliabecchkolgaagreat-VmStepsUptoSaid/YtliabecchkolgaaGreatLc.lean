/- The lowered code of some functions, as a program printed it; each is held against the loaded program by the kernel. -/
import Derived.Test.YtliabecchkolgaaGreatProg
import Derived.Test.YtliabecchkolgaaGreatAbsQ
import Derived.KernelRfl
namespace Go.Proofs.YtliabecchkolgaaGreat
open Go Go.Abs Go.Proofs
/-- stile stileref02.Word -/
def L71 : LC := (.seq (.region [⟨(some 2), none, (.mv (.c (.bool false)))⟩]) (.seq (.seq (.region [⟨(some 3), none, (.mv (.t 0))⟩]) (.block 0 (.seq (.seq (.region [⟨(some 5), none, (.eqstr false (.t 3) (.c (.string ⟨(List.toArray [115, 104, 97, 114, 101, 100])⟩)))⟩, ⟨(some 4), none, (.mv (.t 5))⟩]) (.cond (.t 4) .skip (.seq (.region [⟨(some 6), none, (.eqstr false (.t 3) (.c (.string ⟨(List.toArray [108, 111, 99, 107])⟩)))⟩, ⟨(some 4), none, (.mv (.t 6))⟩]) (.cond (.t 4) .skip (.seq (.region [⟨(some 7), none, (.eqstr false (.t 3) (.c (.string ⟨(List.toArray [116, 104, 114, 101, 97, 100])⟩)))⟩, ⟨(some 4), none, (.mv (.t 7))⟩]) (.cond (.t 4) .skip (.seq (.region [⟨(some 8), none, (.eqstr false (.t 3) (.c (.string ⟨(List.toArray [108, 111, 99, 97, 108])⟩)))⟩, ⟨(some 4), none, (.mv (.t 8))⟩]) (.cond (.t 4) .skip (.seq (.region [⟨(some 9), none, (.eqstr false (.t 3) (.c (.string ⟨(List.toArray [105, 102])⟩)))⟩, ⟨(some 4), none, (.mv (.t 9))⟩]) (.cond (.t 4) .skip (.seq (.region [⟨(some 10), none, (.eqstr false (.t 3) (.c (.string ⟨(List.toArray [101, 108, 115, 101])⟩)))⟩, ⟨(some 4), none, (.mv (.t 10))⟩]) (.cond (.t 4) .skip (.seq (.region [⟨(some 11), none, (.eqstr false (.t 3) (.c (.string ⟨(List.toArray [119, 104, 105, 108, 101])⟩)))⟩, ⟨(some 4), none, (.mv (.t 11))⟩]) (.cond (.t 4) .skip (.seq (.region [⟨(some 12), none, (.eqstr false (.t 3) (.c (.string ⟨(List.toArray [112, 114, 105, 110, 116])⟩)))⟩, ⟨(some 4), none, (.mv (.t 12))⟩]) (.cond (.t 4) .skip (.seq (.region [⟨(some 13), none, (.eqstr false (.t 3) (.c (.string ⟨(List.toArray [115, 107, 105, 112])⟩)))⟩, ⟨(some 4), none, (.mv (.t 13))⟩]) (.cond (.t 4) .skip (.region [⟨(some 14), none, (.eqstr false (.t 3) (.c (.string ⟨(List.toArray [115, 119, 97, 112])⟩)))⟩, ⟨(some 4), none, (.mv (.t 14))⟩]))))))))))))))))))) (.cond (.t 4) (.seq (.region [⟨(some 2), none, (.mv (.c (.bool true)))⟩]) .ret) .skip)))) (.seq (.region [⟨(some 2), none, (.mv (.c (.bool false)))⟩]) .ret)))
def R71 : List LRes := [(.tmp 2)]
theorem low71 : (Tryz.f71.body.bind (lowCode Tryz.prog Tryz.f71.ntmps)) = some L71 := by kernel_rfl
theorem res71 : lowRes Tryz.prog Tryz.f71.results.toList = some R71 := by kernel_rfl
theorem nm71 : (Tryz.f71.name == "runtime.NumGoroutine") = false := by kernel_rfl
theorem nt71 : 15 = Tryz.f71.ntmps := by kernel_rfl
theorem lf71 : LFok Tryz.prog ⟨71, 15, L71, R71, false⟩ := ⟨Tryz.f71, Tryz.func71, nm71, low71, res71, nt71⟩
/-- stile stileref02.letter -/
def L72 : LC := (.seq (.region [⟨(some 2), none, (.mv (.c (.bool false)))⟩]) (.seq (.region [⟨(some 3), none, (.mv (.t 0))⟩, ⟨(some 4), none, (.bin .geq (.t 3) (.c (.int .u8 97)))⟩, ⟨(some 5), none, (.mv (.t 4))⟩, ⟨(some 6), (some (5, true)), (.mv (.t 0))⟩, ⟨(some 7), (some (5, true)), (.bin .leq (.t 6) (.c (.int .u8 122)))⟩, ⟨(some 8), none, (.pick (.t 5) (.t 7) (.c (.bool false)))⟩, ⟨(some 9), none, (.mv (.t 8))⟩, ⟨(some 10), (some (9, false)), (.mv (.t 0))⟩, ⟨(some 11), (some (9, false)), (.bin .geq (.t 10) (.c (.int .u8 65)))⟩, ⟨(some 12), (some (9, false)), (.mv (.t 11))⟩, ⟨(some 13), (some (12, true)), (.mv (.t 0))⟩, ⟨(some 14), (some (12, true)), (.bin .leq (.t 13) (.c (.int .u8 90)))⟩, ⟨(some 15), (some (9, false)), (.pick (.t 12) (.t 14) (.c (.bool false)))⟩, ⟨(some 16), none, (.pick (.t 9) (.c (.bool true)) (.t 15))⟩, ⟨(some 17), none, (.mv (.t 16))⟩, ⟨(some 18), (some (17, false)), (.mv (.t 0))⟩, ⟨(some 19), (some (17, false)), (.bin .eql (.t 18) (.c (.int .u8 95)))⟩, ⟨(some 20), none, (.pick (.t 17) (.c (.bool true)) (.t 19))⟩, ⟨(some 2), none, (.mv (.t 20))⟩]) .ret))
def R72 : List LRes := [(.tmp 2)]
theorem low72 : (Tryz.f72.body.bind (lowCode Tryz.prog Tryz.f72.ntmps)) = some L72 := by kernel_rfl
theorem res72 : lowRes Tryz.prog Tryz.f72.results.toList = some R72 := by kernel_rfl
theorem nm72 : (Tryz.f72.name == "runtime.NumGoroutine") = false := by kernel_rfl
theorem nt72 : 21 = Tryz.f72.ntmps := by kernel_rfl
theorem lf72 : LFok Tryz.prog ⟨72, 21, L72, R72, false⟩ := ⟨Tryz.f72, Tryz.func72, nm72, low72, res72, nt72⟩
/-- slices.IndexFunc   stile vm.core,stile vm.core  -/
def L73 : LC := (.seq (.region [⟨(some 4), none, (.mv (.c (.int .i64 0)))⟩]) (.seq (.seq (.region [⟨(some 6), none, (.mv (.t 0))⟩, ⟨(some 7), none, (.len (.t 6))⟩, ⟨(some 8), none, (.mv (.c (.int .i64 0)))⟩]) (.block 0 (.loop (.seq (.region [⟨(some 9), none, (.bin .lss (.t 8) (.t 7))⟩]) (.seq (.cond (.t 9) .skip (.exit 0)) (.seq (.block 1 (.seq (.region [⟨(some 10), none, (.mv (.t 8))⟩, ⟨(some 5), none, (.mv (.t 10))⟩]) (.seq (.region [⟨(some 11), none, (.mv (.t 1))⟩, ⟨(some 12), none, (.mv (.t 0))⟩, ⟨(some 13), none, (.mv (.t 5))⟩, ⟨(some 14), none, (.ia 19 none (.t 12) (.t 13))⟩, ⟨(some 15), none, (.ld true 19 (.t 14))⟩, ⟨(some 16), none, (.call (.t 11) [(.t 15)])⟩]) (.cond (.t 16) (.seq (.region [⟨(some 17), none, (.mv (.t 5))⟩, ⟨(some 4), none, (.mv (.t 17))⟩]) .ret) .skip)))) (.region [⟨(some 18), none, (.bin .add (.t 8) (.c (.int .i64 1)))⟩, ⟨(some 8), none, (.mv (.t 18))⟩]))))))) (.seq (.region [⟨(some 4), none, (.mv (.c (.int .i64 (-1))))⟩]) .ret)))
def R73 : List LRes := [(.tmp 4)]
theorem low73 : (Tryz.f73.body.bind (lowCode Tryz.prog Tryz.f73.ntmps)) = some L73 := by kernel_rfl
theorem res73 : lowRes Tryz.prog Tryz.f73.results.toList = some R73 := by kernel_rfl
theorem nm73 : (Tryz.f73.name == "runtime.NumGoroutine") = false := by kernel_rfl
theorem nt73 : 19 = Tryz.f73.ntmps := by kernel_rfl
theorem lf73 : LFok Tryz.prog ⟨73, 19, L73, R73, false⟩ := ⟨Tryz.f73, Tryz.func73, nm73, low73, res73, nt73⟩
/-- stile stileref16.Drains -/
def L74 : LC := (.seq (.region [⟨(some 2), none, (.mv (.c (.bool false)))⟩]) (.seq (.region [⟨(some 3), none, (.mv (.t 0))⟩, ⟨(some 4), none, (.bin .eql (.t 3) (.c (.int .u8 5)))⟩, ⟨(some 5), none, (.mv (.t 4))⟩, ⟨(some 6), (some (5, false)), (.mv (.t 0))⟩, ⟨(some 7), (some (5, false)), (.bin .eql (.t 6) (.c (.int .u8 6)))⟩, ⟨(some 8), none, (.pick (.t 5) (.c (.bool true)) (.t 7))⟩, ⟨(some 9), none, (.mv (.t 8))⟩, ⟨(some 10), (some (9, false)), (.mv (.t 0))⟩, ⟨(some 11), (some (9, false)), (.bin .eql (.t 10) (.c (.int .u8 7)))⟩, ⟨(some 12), none, (.pick (.t 9) (.c (.bool true)) (.t 11))⟩, ⟨(some 2), none, (.mv (.t 12))⟩]) .ret))
def R74 : List LRes := [(.tmp 2)]
theorem low74 : (Tryz.f74.body.bind (lowCode Tryz.prog Tryz.f74.ntmps)) = some L74 := by kernel_rfl
theorem res74 : lowRes Tryz.prog Tryz.f74.results.toList = some R74 := by kernel_rfl
theorem nm74 : (Tryz.f74.name == "runtime.NumGoroutine") = false := by kernel_rfl
theorem nt74 : 13 = Tryz.f74.ntmps := by kernel_rfl
theorem lf74 : LFok Tryz.prog ⟨74, 13, L74, R74, false⟩ := ⟨Tryz.f74, Tryz.func74, nm74, low74, res74, nt74⟩
/-- stile stileref01.truth -/
def L75 : LC := (.seq (.region [⟨(some 2), none, (.mv (.c (.int .i64 0)))⟩, ⟨(some 3), none, (.mv (.c (.int .i64 0)))⟩]) (.seq (.seq (.region [⟨(some 4), none, (.mv (.t 0))⟩]) (.cond (.t 4) (.seq (.region [⟨(some 2), none, (.mv (.c (.int .i64 1)))⟩, ⟨(some 3), none, (.mv (.c (.int .i64 0)))⟩]) .ret) .skip)) (.seq (.region [⟨(some 2), none, (.mv (.c (.int .i64 0)))⟩, ⟨(some 3), none, (.mv (.c (.int .i64 0)))⟩]) .ret)))
def R75 : List LRes := [(.tmp 2), (.tmp 3)]
theorem low75 : (Tryz.f75.body.bind (lowCode Tryz.prog Tryz.f75.ntmps)) = some L75 := by kernel_rfl
theorem res75 : lowRes Tryz.prog Tryz.f75.results.toList = some R75 := by kernel_rfl
theorem nm75 : (Tryz.f75.name == "runtime.NumGoroutine") = false := by kernel_rfl
theorem nt75 : 5 = Tryz.f75.ntmps := by kernel_rfl
theorem lf75 : LFok Tryz.prog ⟨75, 5, L75, R75, false⟩ := ⟨Tryz.f75, Tryz.func75, nm75, low75, res75, nt75⟩
/-- stile stileref01.quotient -/
def L76 : LC := (.seq (.region [⟨(some 4), none, (.mv (.c (.int .i64 0)))⟩]) (.seq (.seq (.region [⟨(some 5), none, (.mv (.t 1))⟩]) (.block 0 (.seq (.region [⟨(some 7), none, (.bin .eql (.t 5) (.c (.int .i64 0)))⟩, ⟨(some 6), none, (.mv (.t 7))⟩]) (.cond (.t 6) (.seq (.region [⟨(some 4), none, (.mv (.c (.int .i64 0)))⟩]) .ret) (.seq (.region [⟨(some 9), none, (.bin .eql (.t 5) (.c (.int .i64 (-1))))⟩, ⟨(some 8), none, (.mv (.t 9))⟩]) (.cond (.t 8) (.seq (.region [⟨(some 10), none, (.mv (.t 0))⟩, ⟨(some 11), none, (.bin .sub (.c (.int .i64 0)) (.t 10))⟩, ⟨(some 4), none, (.mv (.t 11))⟩]) .ret) .skip)))))) (.seq (.region [⟨(some 12), none, (.mv (.t 0))⟩, ⟨(some 13), none, (.mv (.t 1))⟩, ⟨(some 14), none, (.bin .quo (.t 12) (.t 13))⟩, ⟨(some 4), none, (.mv (.t 14))⟩]) .ret)))
def R76 : List LRes := [(.tmp 4)]
theorem low76 : (Tryz.f76.body.bind (lowCode Tryz.prog Tryz.f76.ntmps)) = some L76 := by kernel_rfl
theorem res76 : lowRes Tryz.prog Tryz.f76.results.toList = some R76 := by kernel_rfl
theorem nm76 : (Tryz.f76.name == "runtime.NumGoroutine") = false := by kernel_rfl
theorem nt76 : 15 = Tryz.f76.ntmps := by kernel_rfl
theorem lf76 : LFok Tryz.prog ⟨76, 15, L76, R76, false⟩ := ⟨Tryz.f76, Tryz.func76, nm76, low76, res76, nt76⟩
/-- stile words.Do -/
def L77 : LC := (.seq (.region [⟨(some 6), none, (.mv (.c (.int .i64 0)))⟩, ⟨(some 7), none, (.mv (.c (.int .i64 0)))⟩]) (.seq (.seq (.region [⟨(some 9), none, (.mv (.t 0))⟩, ⟨(some 10), none, (.call (.f 84) [(.t 9)])⟩, ⟨(some 11), none, (.un .not (.t 10))⟩]) (.cond (.t 11) (.seq (.region [⟨(some 6), none, (.mv (.c (.int .i64 0)))⟩, ⟨(some 7), none, (.mv (.c (.int .i64 2)))⟩]) .ret) .skip)) (.seq (.region [⟨(some 12), none, (.call (.f 85) [])⟩, ⟨(some 13), none, (.mv (.t 0))⟩, ⟨(some 14), none, (.ix 2 true 19 (.t 12) (.t 13))⟩, ⟨(some 15), none, (.fld 0 1 false (.t 14))⟩, ⟨(some 8), none, (.mv (.t 15))⟩]) (.seq (.region [⟨(some 16), none, (.mv (.t 8))⟩, ⟨(some 17), none, (.mv (.t 1))⟩, ⟨(some 18), none, (.mv (.t 2))⟩, ⟨(some 19), none, (.call (.t 16) [(.t 17), (.t 18)])⟩, ⟨(some 6), none, (.mv (.t 19))⟩, ⟨(some 7), none, (.mv (.c (.int .i64 0)))⟩]) .ret))))
def R77 : List LRes := [(.tmp 6), (.tmp 7)]
theorem low77 : (Tryz.f77.body.bind (lowCode Tryz.prog Tryz.f77.ntmps)) = some L77 := by kernel_rfl
theorem res77 : lowRes Tryz.prog Tryz.f77.results.toList = some R77 := by kernel_rfl
theorem nm77 : (Tryz.f77.name == "runtime.NumGoroutine") = false := by kernel_rfl
theorem nt77 : 20 = Tryz.f77.ntmps := by kernel_rfl
theorem lf77 : LFok Tryz.prog ⟨77, 20, L77, R77, false⟩ := ⟨Tryz.f77, Tryz.func77, nm77, low77, res77, nt77⟩
/-- stile words.One -/
def L78 : LC := (.seq (.region [⟨(some 4), none, (.mv (.c (.int .i64 0)))⟩, ⟨(some 5), none, (.mv (.c (.int .i64 0)))⟩]) (.seq (.seq (.region [⟨(some 7), none, (.mv (.t 0))⟩, ⟨(some 8), none, (.call (.f 86) [(.t 7)])⟩, ⟨(some 9), none, (.un .not (.t 8))⟩, ⟨(some 10), none, (.mv (.t 9))⟩, ⟨(some 11), (some (10, false)), (.mv (.t 0))⟩, ⟨(some 12), (some (10, false)), (.call (.f 84) [(.t 11)])⟩, ⟨(some 13), none, (.pick (.t 10) (.c (.bool true)) (.t 12))⟩]) (.cond (.t 13) (.seq (.region [⟨(some 4), none, (.mv (.c (.int .i64 0)))⟩, ⟨(some 5), none, (.mv (.c (.int .i64 2)))⟩]) .ret) .skip)) (.seq (.region [⟨(some 14), none, (.call (.f 85) [])⟩, ⟨(some 15), none, (.mv (.t 0))⟩, ⟨(some 16), none, (.ix 2 true 19 (.t 14) (.t 15))⟩, ⟨(some 17), none, (.fld 1 1 false (.t 16))⟩, ⟨(some 6), none, (.mv (.t 17))⟩]) (.seq (.region [⟨(some 18), none, (.mv (.t 6))⟩, ⟨(some 19), none, (.mv (.t 1))⟩, ⟨(some 20), none, (.call (.t 18) [(.t 19)])⟩, ⟨(some 4), none, (.mv (.t 20))⟩, ⟨(some 5), none, (.mv (.c (.int .i64 0)))⟩]) .ret))))
def R78 : List LRes := [(.tmp 4), (.tmp 5)]
theorem low78 : (Tryz.f78.body.bind (lowCode Tryz.prog Tryz.f78.ntmps)) = some L78 := by kernel_rfl
theorem res78 : lowRes Tryz.prog Tryz.f78.results.toList = some R78 := by kernel_rfl
theorem nm78 : (Tryz.f78.name == "runtime.NumGoroutine") = false := by kernel_rfl
theorem nt78 : 21 = Tryz.f78.ntmps := by kernel_rfl
theorem lf78 : LFok Tryz.prog ⟨78, 21, L78, R78, false⟩ := ⟨Tryz.f78, Tryz.func78, nm78, low78, res78, nt78⟩
/-- stile lexer.digit -/
def L79 : LC := (.seq (.region [⟨(some 2), none, (.mv (.c (.bool false)))⟩]) (.seq (.region [⟨(some 3), none, (.mv (.t 0))⟩, ⟨(some 4), none, (.bin .geq (.t 3) (.c (.int .u8 48)))⟩, ⟨(some 5), none, (.mv (.t 4))⟩, ⟨(some 6), (some (5, true)), (.mv (.t 0))⟩, ⟨(some 7), (some (5, true)), (.bin .leq (.t 6) (.c (.int .u8 57)))⟩, ⟨(some 8), none, (.pick (.t 5) (.t 7) (.c (.bool false)))⟩, ⟨(some 2), none, (.mv (.t 8))⟩]) .ret))
def R79 : List LRes := [(.tmp 2)]
theorem low79 : (Tryz.f79.body.bind (lowCode Tryz.prog Tryz.f79.ntmps)) = some L79 := by kernel_rfl
theorem res79 : lowRes Tryz.prog Tryz.f79.results.toList = some R79 := by kernel_rfl
theorem nm79 : (Tryz.f79.name == "runtime.NumGoroutine") = false := by kernel_rfl
theorem nt79 : 9 = Tryz.f79.ntmps := by kernel_rfl
theorem lf79 : LFok Tryz.prog ⟨79, 9, L79, R79, false⟩ := ⟨Tryz.f79, Tryz.func79, nm79, low79, res79, nt79⟩
/-- stile lexer.Word -/
def L80 : LC := (.seq (.region [⟨(some 2), none, (.mv (.c (.bool false)))⟩]) (.seq (.seq (.region [⟨(some 3), none, (.mv (.t 0))⟩]) (.block 0 (.seq (.seq (.region [⟨(some 5), none, (.eqstr false (.t 3) (.c (.string ⟨(List.toArray [115, 104, 97, 114, 101, 100])⟩)))⟩, ⟨(some 4), none, (.mv (.t 5))⟩]) (.cond (.t 4) .skip (.seq (.region [⟨(some 6), none, (.eqstr false (.t 3) (.c (.string ⟨(List.toArray [108, 111, 99, 107])⟩)))⟩, ⟨(some 4), none, (.mv (.t 6))⟩]) (.cond (.t 4) .skip (.seq (.region [⟨(some 7), none, (.eqstr false (.t 3) (.c (.string ⟨(List.toArray [116, 104, 114, 101, 97, 100])⟩)))⟩, ⟨(some 4), none, (.mv (.t 7))⟩]) (.cond (.t 4) .skip (.seq (.region [⟨(some 8), none, (.eqstr false (.t 3) (.c (.string ⟨(List.toArray [108, 111, 99, 97, 108])⟩)))⟩, ⟨(some 4), none, (.mv (.t 8))⟩]) (.cond (.t 4) .skip (.seq (.region [⟨(some 9), none, (.eqstr false (.t 3) (.c (.string ⟨(List.toArray [105, 102])⟩)))⟩, ⟨(some 4), none, (.mv (.t 9))⟩]) (.cond (.t 4) .skip (.seq (.region [⟨(some 10), none, (.eqstr false (.t 3) (.c (.string ⟨(List.toArray [101, 108, 115, 101])⟩)))⟩, ⟨(some 4), none, (.mv (.t 10))⟩]) (.cond (.t 4) .skip (.seq (.region [⟨(some 11), none, (.eqstr false (.t 3) (.c (.string ⟨(List.toArray [119, 104, 105, 108, 101])⟩)))⟩, ⟨(some 4), none, (.mv (.t 11))⟩]) (.cond (.t 4) .skip (.seq (.region [⟨(some 12), none, (.eqstr false (.t 3) (.c (.string ⟨(List.toArray [112, 114, 105, 110, 116])⟩)))⟩, ⟨(some 4), none, (.mv (.t 12))⟩]) (.cond (.t 4) .skip (.seq (.region [⟨(some 13), none, (.eqstr false (.t 3) (.c (.string ⟨(List.toArray [115, 107, 105, 112])⟩)))⟩, ⟨(some 4), none, (.mv (.t 13))⟩]) (.cond (.t 4) .skip (.region [⟨(some 14), none, (.eqstr false (.t 3) (.c (.string ⟨(List.toArray [115, 119, 97, 112])⟩)))⟩, ⟨(some 4), none, (.mv (.t 14))⟩]))))))))))))))))))) (.cond (.t 4) (.seq (.region [⟨(some 2), none, (.mv (.c (.bool true)))⟩]) .ret) .skip)))) (.seq (.region [⟨(some 2), none, (.mv (.c (.bool false)))⟩]) .ret)))
def R80 : List LRes := [(.tmp 2)]
theorem low80 : (Tryz.f80.body.bind (lowCode Tryz.prog Tryz.f80.ntmps)) = some L80 := by kernel_rfl
theorem res80 : lowRes Tryz.prog Tryz.f80.results.toList = some R80 := by kernel_rfl
theorem nm80 : (Tryz.f80.name == "runtime.NumGoroutine") = false := by kernel_rfl
theorem nt80 : 15 = Tryz.f80.ntmps := by kernel_rfl
theorem lf80 : LFok Tryz.prog ⟨80, 15, L80, R80, false⟩ := ⟨Tryz.f80, Tryz.func80, nm80, low80, res80, nt80⟩
/-- stile lexer.letter -/
def L81 : LC := (.seq (.region [⟨(some 2), none, (.mv (.c (.bool false)))⟩]) (.seq (.region [⟨(some 3), none, (.mv (.t 0))⟩, ⟨(some 4), none, (.bin .geq (.t 3) (.c (.int .u8 97)))⟩, ⟨(some 5), none, (.mv (.t 4))⟩, ⟨(some 6), (some (5, true)), (.mv (.t 0))⟩, ⟨(some 7), (some (5, true)), (.bin .leq (.t 6) (.c (.int .u8 122)))⟩, ⟨(some 8), none, (.pick (.t 5) (.t 7) (.c (.bool false)))⟩, ⟨(some 9), none, (.mv (.t 8))⟩, ⟨(some 10), (some (9, false)), (.mv (.t 0))⟩, ⟨(some 11), (some (9, false)), (.bin .geq (.t 10) (.c (.int .u8 65)))⟩, ⟨(some 12), (some (9, false)), (.mv (.t 11))⟩, ⟨(some 13), (some (12, true)), (.mv (.t 0))⟩, ⟨(some 14), (some (12, true)), (.bin .leq (.t 13) (.c (.int .u8 90)))⟩, ⟨(some 15), (some (9, false)), (.pick (.t 12) (.t 14) (.c (.bool false)))⟩, ⟨(some 16), none, (.pick (.t 9) (.c (.bool true)) (.t 15))⟩, ⟨(some 17), none, (.mv (.t 16))⟩, ⟨(some 18), (some (17, false)), (.mv (.t 0))⟩, ⟨(some 19), (some (17, false)), (.bin .eql (.t 18) (.c (.int .u8 95)))⟩, ⟨(some 20), none, (.pick (.t 17) (.c (.bool true)) (.t 19))⟩, ⟨(some 2), none, (.mv (.t 20))⟩]) .ret))
def R81 : List LRes := [(.tmp 2)]
theorem low81 : (Tryz.f81.body.bind (lowCode Tryz.prog Tryz.f81.ntmps)) = some L81 := by kernel_rfl
theorem res81 : lowRes Tryz.prog Tryz.f81.results.toList = some R81 := by kernel_rfl
theorem nm81 : (Tryz.f81.name == "runtime.NumGoroutine") = false := by kernel_rfl
theorem nt81 : 21 = Tryz.f81.ntmps := by kernel_rfl
theorem lf81 : LFok Tryz.prog ⟨81, 21, L81, R81, false⟩ := ⟨Tryz.f81, Tryz.func81, nm81, low81, res81, nt81⟩
/-- slices.IndexFunc   stile api.Core,stile api.Core  -/
def L82 : LC := (.seq (.region [⟨(some 4), none, (.mv (.c (.int .i64 0)))⟩]) (.seq (.seq (.region [⟨(some 6), none, (.mv (.t 0))⟩, ⟨(some 7), none, (.len (.t 6))⟩, ⟨(some 8), none, (.mv (.c (.int .i64 0)))⟩]) (.block 0 (.loop (.seq (.region [⟨(some 9), none, (.bin .lss (.t 8) (.t 7))⟩]) (.seq (.cond (.t 9) .skip (.exit 0)) (.seq (.block 1 (.seq (.region [⟨(some 10), none, (.mv (.t 8))⟩, ⟨(some 5), none, (.mv (.t 10))⟩]) (.seq (.region [⟨(some 11), none, (.mv (.t 1))⟩, ⟨(some 12), none, (.mv (.t 0))⟩, ⟨(some 13), none, (.mv (.t 5))⟩, ⟨(some 14), none, (.ia 2 none (.t 12) (.t 13))⟩, ⟨(some 15), none, (.ld true 2 (.t 14))⟩, ⟨(some 16), none, (.call (.t 11) [(.t 15)])⟩]) (.cond (.t 16) (.seq (.region [⟨(some 17), none, (.mv (.t 5))⟩, ⟨(some 4), none, (.mv (.t 17))⟩]) .ret) .skip)))) (.region [⟨(some 18), none, (.bin .add (.t 8) (.c (.int .i64 1)))⟩, ⟨(some 8), none, (.mv (.t 18))⟩]))))))) (.seq (.region [⟨(some 4), none, (.mv (.c (.int .i64 (-1))))⟩]) .ret)))
def R82 : List LRes := [(.tmp 4)]
theorem low82 : (Tryz.f82.body.bind (lowCode Tryz.prog Tryz.f82.ntmps)) = some L82 := by kernel_rfl
theorem res82 : lowRes Tryz.prog Tryz.f82.results.toList = some R82 := by kernel_rfl
theorem nm82 : (Tryz.f82.name == "runtime.NumGoroutine") = false := by kernel_rfl
theorem nt82 : 19 = Tryz.f82.ntmps := by kernel_rfl
theorem lf82 : LFok Tryz.prog ⟨82, 19, L82, R82, false⟩ := ⟨Tryz.f82, Tryz.func82, nm82, low82, res82, nt82⟩
/-- stile target.forms -/
def L83 : LC := (.seq (.region [⟨(some 2), none, (.alloc 134 5 true [(.string ⟨(List.toArray [])⟩), (.int .u8 0), (.int .u8 0), (.int .u8 0), (.int .u8 0)])⟩, ⟨(some 3), none, (.mv (.c (.bool false)))⟩]) (.seq (.region [⟨(some 5), none, (.bld [(.int .u8 0), (.int .u8 0), (.int .u8 0), (.int .u8 0)] [(0, (1, (.c (.int .u8 2)))), (1, (1, (.c (.int .u8 64))))])⟩, ⟨(some 6), none, (.bld [(.string ⟨(List.toArray [])⟩), (.int .u8 0), (.int .u8 0), (.int .u8 0), (.int .u8 0)] [(0, (1, (.c (.string ⟨(List.toArray [115, 101, 116])⟩)))), (1, (4, (.t 5)))])⟩, ⟨(some 7), none, (.bld [(.int .u8 0), (.int .u8 0), (.int .u8 0), (.int .u8 0)] [(0, (1, (.c (.int .u8 1)))), (1, (1, (.c (.int .u8 2)))), (2, (1, (.c (.int .u8 4)))), (3, (1, (.c (.int .u8 8))))])⟩, ⟨(some 8), none, (.bld [(.string ⟨(List.toArray [])⟩), (.int .u8 0), (.int .u8 0), (.int .u8 0), (.int .u8 0)] [(0, (1, (.c (.string ⟨(List.toArray [])⟩)))), (1, (4, (.t 7)))])⟩, ⟨(some 9), none, (.bld [(.int .u8 0), (.int .u8 0), (.int .u8 0), (.int .u8 0)] [(0, (1, (.c (.int .u8 2)))), (1, (1, (.c (.int .u8 16))))])⟩, ⟨(some 10), none, (.bld [(.string ⟨(List.toArray [])⟩), (.int .u8 0), (.int .u8 0), (.int .u8 0), (.int .u8 0)] [(0, (1, (.c (.string ⟨(List.toArray [108, 111, 97, 100])⟩)))), (1, (4, (.t 9)))])⟩, ⟨(some 11), none, (.bld [(.int .u8 0), (.int .u8 0), (.int .u8 0), (.int .u8 0)] [(0, (1, (.c (.int .u8 4)))), (1, (1, (.c (.int .u8 16))))])⟩, ⟨(some 12), none, (.bld [(.string ⟨(List.toArray [])⟩), (.int .u8 0), (.int .u8 0), (.int .u8 0), (.int .u8 0)] [(0, (1, (.c (.string ⟨(List.toArray [115, 116, 111, 114, 101])⟩)))), (1, (4, (.t 11)))])⟩, ⟨(some 13), none, (.bld [(.int .u8 0), (.int .u8 0), (.int .u8 0), (.int .u8 0)] [(0, (1, (.c (.int .u8 2)))), (1, (1, (.c (.int .u8 16))))])⟩, ⟨(some 14), none, (.bld [(.string ⟨(List.toArray [])⟩), (.int .u8 0), (.int .u8 0), (.int .u8 0), (.int .u8 0)] [(0, (1, (.c (.string ⟨(List.toArray [115, 119, 97, 112])⟩)))), (1, (4, (.t 13)))])⟩, ⟨(some 15), none, (.bld [(.int .u8 0), (.int .u8 0), (.int .u8 0), (.int .u8 0)] [])⟩, ⟨(some 16), none, (.bld [(.string ⟨(List.toArray [])⟩), (.int .u8 0), (.int .u8 0), (.int .u8 0), (.int .u8 0)] [(0, (1, (.c (.string ⟨(List.toArray [102, 101, 110, 99, 101])⟩)))), (1, (4, (.t 15)))])⟩, ⟨(some 17), none, (.bld [(.int .u8 0), (.int .u8 0), (.int .u8 0), (.int .u8 0)] [(0, (1, (.c (.int .u8 4))))])⟩, ⟨(some 18), none, (.bld [(.string ⟨(List.toArray [])⟩), (.int .u8 0), (.int .u8 0), (.int .u8 0), (.int .u8 0)] [(0, (1, (.c (.string ⟨(List.toArray [112, 114, 105, 110, 116])⟩)))), (1, (4, (.t 17)))])⟩, ⟨(some 19), none, (.bld [(.int .u8 0), (.int .u8 0), (.int .u8 0), (.int .u8 0)] [(0, (1, (.c (.int .u8 32))))])⟩, ⟨(some 20), none, (.bld [(.string ⟨(List.toArray [])⟩), (.int .u8 0), (.int .u8 0), (.int .u8 0), (.int .u8 0)] [(0, (1, (.c (.string ⟨(List.toArray [106, 117, 109, 112])⟩)))), (1, (4, (.t 19)))])⟩, ⟨(some 21), none, (.bld [(.int .u8 0), (.int .u8 0), (.int .u8 0), (.int .u8 0)] [(0, (1, (.c (.int .u8 4)))), (1, (1, (.c (.int .u8 32))))])⟩, ⟨(some 22), none, (.bld [(.string ⟨(List.toArray [])⟩), (.int .u8 0), (.int .u8 0), (.int .u8 0), (.int .u8 0)] [(0, (1, (.c (.string ⟨(List.toArray [122, 101, 114, 111])⟩)))), (1, (4, (.t 21)))])⟩, ⟨(some 23), none, (.bld [(.int .u8 0), (.int .u8 0), (.int .u8 0), (.int .u8 0)] [])⟩, ⟨(some 24), none, (.bld [(.string ⟨(List.toArray [])⟩), (.int .u8 0), (.int .u8 0), (.int .u8 0), (.int .u8 0)] [(0, (1, (.c (.string ⟨(List.toArray [104, 97, 108, 116])⟩)))), (1, (4, (.t 23)))])⟩, ⟨(some 25), none, (.bld [(.string ⟨(List.toArray [])⟩), (.int .u8 0), (.int .u8 0), (.int .u8 0), (.int .u8 0), (.string ⟨(List.toArray [])⟩), (.int .u8 0), (.int .u8 0), (.int .u8 0), (.int .u8 0), (.string ⟨(List.toArray [])⟩), (.int .u8 0), (.int .u8 0), (.int .u8 0), (.int .u8 0), (.string ⟨(List.toArray [])⟩), (.int .u8 0), (.int .u8 0), (.int .u8 0), (.int .u8 0), (.string ⟨(List.toArray [])⟩), (.int .u8 0), (.int .u8 0), (.int .u8 0), (.int .u8 0), (.string ⟨(List.toArray [])⟩), (.int .u8 0), (.int .u8 0), (.int .u8 0), (.int .u8 0), (.string ⟨(List.toArray [])⟩), (.int .u8 0), (.int .u8 0), (.int .u8 0), (.int .u8 0), (.string ⟨(List.toArray [])⟩), (.int .u8 0), (.int .u8 0), (.int .u8 0), (.int .u8 0), (.string ⟨(List.toArray [])⟩), (.int .u8 0), (.int .u8 0), (.int .u8 0), (.int .u8 0), (.string ⟨(List.toArray [])⟩), (.int .u8 0), (.int .u8 0), (.int .u8 0), (.int .u8 0), (.string ⟨(List.toArray [])⟩), (.int .u8 0), (.int .u8 0), (.int .u8 0), (.int .u8 0)] [(5, (5, (.t 6))), (10, (5, (.t 8))), (15, (5, (.t 10))), (20, (5, (.t 12))), (25, (5, (.t 14))), (30, (5, (.t 16))), (35, (5, (.t 18))), (40, (5, (.t 20))), (45, (5, (.t 22))), (50, (5, (.t 24)))])⟩, ⟨(some 4), none, (.alloc 145 55 true [(.string ⟨(List.toArray [])⟩), (.int .u8 0), (.int .u8 0), (.int .u8 0), (.int .u8 0), (.string ⟨(List.toArray [])⟩), (.int .u8 0), (.int .u8 0), (.int .u8 0), (.int .u8 0), (.string ⟨(List.toArray [])⟩), (.int .u8 0), (.int .u8 0), (.int .u8 0), (.int .u8 0), (.string ⟨(List.toArray [])⟩), (.int .u8 0), (.int .u8 0), (.int .u8 0), (.int .u8 0), (.string ⟨(List.toArray [])⟩), (.int .u8 0), (.int .u8 0), (.int .u8 0), (.int .u8 0), (.string ⟨(List.toArray [])⟩), (.int .u8 0), (.int .u8 0), (.int .u8 0), (.int .u8 0), (.string ⟨(List.toArray [])⟩), (.int .u8 0), (.int .u8 0), (.int .u8 0), (.int .u8 0), (.string ⟨(List.toArray [])⟩), (.int .u8 0), (.int .u8 0), (.int .u8 0), (.int .u8 0), (.string ⟨(List.toArray [])⟩), (.int .u8 0), (.int .u8 0), (.int .u8 0), (.int .u8 0), (.string ⟨(List.toArray [])⟩), (.int .u8 0), (.int .u8 0), (.int .u8 0), (.int .u8 0), (.string ⟨(List.toArray [])⟩), (.int .u8 0), (.int .u8 0), (.int .u8 0), (.int .u8 0)])⟩, ⟨none, none, (.st true 55 (.t 4) (.t 25))⟩]) (.seq (.seq (.region [⟨(some 26), none, (.mv (.t 0))⟩, ⟨(some 27), none, (.bin .eql (.t 26) (.c (.int .u8 0)))⟩, ⟨(some 28), none, (.mv (.t 27))⟩, ⟨(some 29), (some (28, false)), (.mv (.t 0))⟩, ⟨(some 30), (some (28, false)), (.cvt .i64 (.t 29))⟩, ⟨(some 31), (some (28, false)), (.bin .geq (.t 30) (.c (.int .i64 11)))⟩, ⟨(some 32), none, (.pick (.t 28) (.c (.bool true)) (.t 31))⟩]) (.cond (.t 32) (.seq (.region [⟨(some 33), none, (.bld [(.string ⟨(List.toArray [])⟩), (.int .u8 0), (.int .u8 0), (.int .u8 0), (.int .u8 0)] [])⟩, ⟨none, none, (.st true 5 (.t 2) (.t 33))⟩, ⟨(some 3), none, (.mv (.c (.bool false)))⟩]) .ret) .skip)) (.seq (.region [⟨(some 34), none, (.mv (.t 0))⟩, ⟨(some 35), none, (.ia 5 (some 11) (.t 4) (.t 34))⟩, ⟨(some 36), none, (.ld true 5 (.t 35))⟩, ⟨none, none, (.st true 5 (.t 2) (.t 36))⟩, ⟨(some 3), none, (.mv (.c (.bool true)))⟩]) .ret))))
def R83 : List LRes := [(.cell 2 true 5), (.tmp 3)]
theorem low83 : (Tryz.f83.body.bind (lowCode Tryz.prog Tryz.f83.ntmps)) = some L83 := by kernel_rfl
theorem res83 : lowRes Tryz.prog Tryz.f83.results.toList = some R83 := by kernel_rfl
theorem nm83 : (Tryz.f83.name == "runtime.NumGoroutine") = false := by kernel_rfl
theorem nt83 : 37 = Tryz.f83.ntmps := by kernel_rfl
theorem lf83 : LFok Tryz.prog ⟨83, 37, L83, R83, false⟩ := ⟨Tryz.f83, Tryz.func83, nm83, low83, res83, nt83⟩
/-- stile words.Two -/
def L84 : LC := (.seq (.region [⟨(some 2), none, (.mv (.c (.bool false)))⟩]) (.seq (.region [⟨(some 3), none, (.mv (.t 0))⟩, ⟨(some 4), none, (.call (.f 86) [(.t 3)])⟩, ⟨(some 5), none, (.mv (.t 4))⟩, ⟨(some 6), (some (5, true)), (.mv (.t 0))⟩, ⟨(some 7), (some (5, true)), (.bin .neq (.t 6) (.c (.int .u8 17)))⟩, ⟨(some 8), none, (.pick (.t 5) (.t 7) (.c (.bool false)))⟩, ⟨(some 9), none, (.mv (.t 8))⟩, ⟨(some 10), (some (9, true)), (.mv (.t 0))⟩, ⟨(some 11), (some (9, true)), (.bin .neq (.t 10) (.c (.int .u8 18)))⟩, ⟨(some 12), none, (.pick (.t 9) (.t 11) (.c (.bool false)))⟩, ⟨(some 2), none, (.mv (.t 12))⟩]) .ret))
def R84 : List LRes := [(.tmp 2)]
theorem low84 : (Tryz.f84.body.bind (lowCode Tryz.prog Tryz.f84.ntmps)) = some L84 := by kernel_rfl
theorem res84 : lowRes Tryz.prog Tryz.f84.results.toList = some R84 := by kernel_rfl
theorem nm84 : (Tryz.f84.name == "runtime.NumGoroutine") = false := by kernel_rfl
theorem nt84 : 13 = Tryz.f84.ntmps := by kernel_rfl
theorem lf84 : LFok Tryz.prog ⟨84, 13, L84, R84, false⟩ := ⟨Tryz.f84, Tryz.func84, nm84, low84, res84, nt84⟩
/-- stile words.operators -/
def L85 : LC := (.seq (.region [⟨(some 0), none, (.alloc 142 38 true [.nilFunc, .nilFunc, .nilFunc, .nilFunc, .nilFunc, .nilFunc, .nilFunc, .nilFunc, .nilFunc, .nilFunc, .nilFunc, .nilFunc, .nilFunc, .nilFunc, .nilFunc, .nilFunc, .nilFunc, .nilFunc, .nilFunc, .nilFunc, .nilFunc, .nilFunc, .nilFunc, .nilFunc, .nilFunc, .nilFunc, .nilFunc, .nilFunc, .nilFunc, .nilFunc, .nilFunc, .nilFunc, .nilFunc, .nilFunc, .nilFunc, .nilFunc, .nilFunc, .nilFunc])⟩]) (.seq (.region [⟨(some 1), none, (.bld [.nilFunc, .nilFunc] [(0, (1, (.f 87)))])⟩, ⟨(some 2), none, (.bld [.nilFunc, .nilFunc] [(0, (1, (.f 88)))])⟩, ⟨(some 3), none, (.bld [.nilFunc, .nilFunc] [(0, (1, (.f 89)))])⟩, ⟨(some 4), none, (.bld [.nilFunc, .nilFunc] [(0, (1, (.f 90)))])⟩, ⟨(some 5), none, (.bld [.nilFunc, .nilFunc] [(0, (1, (.f 91)))])⟩, ⟨(some 6), none, (.bld [.nilFunc, .nilFunc] [(0, (1, (.f 92)))])⟩, ⟨(some 7), none, (.bld [.nilFunc, .nilFunc] [(0, (1, (.f 93)))])⟩, ⟨(some 8), none, (.bld [.nilFunc, .nilFunc] [(0, (1, (.f 94)))])⟩, ⟨(some 9), none, (.bld [.nilFunc, .nilFunc] [(0, (1, (.f 95)))])⟩, ⟨(some 10), none, (.bld [.nilFunc, .nilFunc] [(0, (1, (.f 96)))])⟩, ⟨(some 11), none, (.bld [.nilFunc, .nilFunc] [(0, (1, (.f 97)))])⟩, ⟨(some 12), none, (.bld [.nilFunc, .nilFunc] [(0, (1, (.f 98)))])⟩, ⟨(some 13), none, (.bld [.nilFunc, .nilFunc] [(0, (1, (.f 99)))])⟩, ⟨(some 14), none, (.bld [.nilFunc, .nilFunc] [(0, (1, (.f 100)))])⟩, ⟨(some 15), none, (.bld [.nilFunc, .nilFunc] [(0, (1, (.f 101)))])⟩, ⟨(some 16), none, (.bld [.nilFunc, .nilFunc] [(0, (1, (.f 102)))])⟩, ⟨(some 17), none, (.bld [.nilFunc, .nilFunc] [(1, (1, (.f 103)))])⟩, ⟨(some 18), none, (.bld [.nilFunc, .nilFunc] [(1, (1, (.f 104)))])⟩, ⟨(some 19), none, (.bld [.nilFunc, .nilFunc, .nilFunc, .nilFunc, .nilFunc, .nilFunc, .nilFunc, .nilFunc, .nilFunc, .nilFunc, .nilFunc, .nilFunc, .nilFunc, .nilFunc, .nilFunc, .nilFunc, .nilFunc, .nilFunc, .nilFunc, .nilFunc, .nilFunc, .nilFunc, .nilFunc, .nilFunc, .nilFunc, .nilFunc, .nilFunc, .nilFunc, .nilFunc, .nilFunc, .nilFunc, .nilFunc, .nilFunc, .nilFunc, .nilFunc, .nilFunc, .nilFunc, .nilFunc] [(2, (2, (.t 1))), (4, (2, (.t 2))), (6, (2, (.t 3))), (8, (2, (.t 4))), (10, (2, (.t 5))), (12, (2, (.t 6))), (14, (2, (.t 7))), (16, (2, (.t 8))), (18, (2, (.t 9))), (20, (2, (.t 10))), (22, (2, (.t 11))), (24, (2, (.t 12))), (26, (2, (.t 13))), (28, (2, (.t 14))), (30, (2, (.t 15))), (32, (2, (.t 16))), (34, (2, (.t 17))), (36, (2, (.t 18)))])⟩, ⟨none, none, (.st true 38 (.t 0) (.t 19))⟩]) .ret))
def R85 : List LRes := [(.cell 0 true 38)]
theorem low85 : (Tryz.f85.body.bind (lowCode Tryz.prog Tryz.f85.ntmps)) = some L85 := by kernel_rfl
theorem res85 : lowRes Tryz.prog Tryz.f85.results.toList = some R85 := by kernel_rfl
theorem nm85 : (Tryz.f85.name == "runtime.NumGoroutine") = false := by kernel_rfl
theorem nt85 : 20 = Tryz.f85.ntmps := by kernel_rfl
theorem lf85 : LFok Tryz.prog ⟨85, 20, L85, R85, false⟩ := ⟨Tryz.f85, Tryz.func85, nm85, low85, res85, nt85⟩
/-- stile words.known -/
def L86 : LC := (.seq (.region [⟨(some 2), none, (.mv (.c (.bool false)))⟩]) (.seq (.region [⟨(some 3), none, (.mv (.t 0))⟩, ⟨(some 4), none, (.bin .gtr (.t 3) (.c (.int .u8 0)))⟩, ⟨(some 5), none, (.mv (.t 4))⟩, ⟨(some 6), (some (5, true)), (.mv (.t 0))⟩, ⟨(some 7), (some (5, true)), (.bin .lss (.t 6) (.c (.int .u8 19)))⟩, ⟨(some 8), none, (.pick (.t 5) (.t 7) (.c (.bool false)))⟩, ⟨(some 2), none, (.mv (.t 8))⟩]) .ret))
def R86 : List LRes := [(.tmp 2)]
theorem low86 : (Tryz.f86.body.bind (lowCode Tryz.prog Tryz.f86.ntmps)) = some L86 := by kernel_rfl
theorem res86 : lowRes Tryz.prog Tryz.f86.results.toList = some R86 := by kernel_rfl
theorem nm86 : (Tryz.f86.name == "runtime.NumGoroutine") = false := by kernel_rfl
theorem nt86 : 9 = Tryz.f86.ntmps := by kernel_rfl
theorem lf86 : LFok Tryz.prog ⟨86, 9, L86, R86, false⟩ := ⟨Tryz.f86, Tryz.func86, nm86, low86, res86, nt86⟩
/--  stile words.word .add -/
def L87 : LC := (.seq (.region [⟨(some 4), none, (.mv (.c (.int .i64 0)))⟩]) (.seq (.region [⟨(some 5), none, (.mv (.t 0))⟩, ⟨(some 6), none, (.mv (.t 1))⟩, ⟨(some 7), none, (.bin .add (.t 5) (.t 6))⟩, ⟨(some 4), none, (.mv (.t 7))⟩]) .ret))
def R87 : List LRes := [(.tmp 4)]
theorem low87 : (Tryz.f87.body.bind (lowCode Tryz.prog Tryz.f87.ntmps)) = some L87 := by kernel_rfl
theorem res87 : lowRes Tryz.prog Tryz.f87.results.toList = some R87 := by kernel_rfl
theorem nm87 : (Tryz.f87.name == "runtime.NumGoroutine") = false := by kernel_rfl
theorem nt87 : 8 = Tryz.f87.ntmps := by kernel_rfl
theorem lf87 : LFok Tryz.prog ⟨87, 8, L87, R87, false⟩ := ⟨Tryz.f87, Tryz.func87, nm87, low87, res87, nt87⟩
/--  stile words.word .sub -/
def L88 : LC := (.seq (.region [⟨(some 4), none, (.mv (.c (.int .i64 0)))⟩]) (.seq (.region [⟨(some 5), none, (.mv (.t 0))⟩, ⟨(some 6), none, (.mv (.t 1))⟩, ⟨(some 7), none, (.bin .sub (.t 5) (.t 6))⟩, ⟨(some 4), none, (.mv (.t 7))⟩]) .ret))
def R88 : List LRes := [(.tmp 4)]
theorem low88 : (Tryz.f88.body.bind (lowCode Tryz.prog Tryz.f88.ntmps)) = some L88 := by kernel_rfl
theorem res88 : lowRes Tryz.prog Tryz.f88.results.toList = some R88 := by kernel_rfl
theorem nm88 : (Tryz.f88.name == "runtime.NumGoroutine") = false := by kernel_rfl
theorem nt88 : 8 = Tryz.f88.ntmps := by kernel_rfl
theorem lf88 : LFok Tryz.prog ⟨88, 8, L88, R88, false⟩ := ⟨Tryz.f88, Tryz.func88, nm88, low88, res88, nt88⟩
/--  stile words.word .mul -/
def L89 : LC := (.seq (.region [⟨(some 4), none, (.mv (.c (.int .i64 0)))⟩]) (.seq (.region [⟨(some 5), none, (.mv (.t 0))⟩, ⟨(some 6), none, (.mv (.t 1))⟩, ⟨(some 7), none, (.bin .mul (.t 5) (.t 6))⟩, ⟨(some 4), none, (.mv (.t 7))⟩]) .ret))
def R89 : List LRes := [(.tmp 4)]
theorem low89 : (Tryz.f89.body.bind (lowCode Tryz.prog Tryz.f89.ntmps)) = some L89 := by kernel_rfl
theorem res89 : lowRes Tryz.prog Tryz.f89.results.toList = some R89 := by kernel_rfl
theorem nm89 : (Tryz.f89.name == "runtime.NumGoroutine") = false := by kernel_rfl
theorem nt89 : 8 = Tryz.f89.ntmps := by kernel_rfl
theorem lf89 : LFok Tryz.prog ⟨89, 8, L89, R89, false⟩ := ⟨Tryz.f89, Tryz.func89, nm89, low89, res89, nt89⟩
/--  stile words.word .div -/
def L90 : LC := (.seq (.region [⟨(some 4), none, (.mv (.c (.int .i64 0)))⟩]) (.seq (.seq (.region [⟨(some 5), none, (.mv (.t 1))⟩]) (.block 0 (.seq (.region [⟨(some 7), none, (.bin .eql (.t 5) (.c (.int .i64 0)))⟩, ⟨(some 6), none, (.mv (.t 7))⟩]) (.cond (.t 6) (.seq (.region [⟨(some 4), none, (.mv (.c (.int .i64 0)))⟩]) .ret) (.seq (.region [⟨(some 9), none, (.bin .eql (.t 5) (.c (.int .i64 (-1))))⟩, ⟨(some 8), none, (.mv (.t 9))⟩]) (.cond (.t 8) (.seq (.region [⟨(some 10), none, (.mv (.t 0))⟩, ⟨(some 11), none, (.un .neg (.t 10))⟩, ⟨(some 4), none, (.mv (.t 11))⟩]) .ret) .skip)))))) (.seq (.region [⟨(some 12), none, (.mv (.t 0))⟩, ⟨(some 13), none, (.mv (.t 1))⟩, ⟨(some 14), none, (.bin .quo (.t 12) (.t 13))⟩, ⟨(some 4), none, (.mv (.t 14))⟩]) .ret)))
def R90 : List LRes := [(.tmp 4)]
theorem low90 : (Tryz.f90.body.bind (lowCode Tryz.prog Tryz.f90.ntmps)) = some L90 := by kernel_rfl
theorem res90 : lowRes Tryz.prog Tryz.f90.results.toList = some R90 := by kernel_rfl
theorem nm90 : (Tryz.f90.name == "runtime.NumGoroutine") = false := by kernel_rfl
theorem nt90 : 15 = Tryz.f90.ntmps := by kernel_rfl
theorem lf90 : LFok Tryz.prog ⟨90, 15, L90, R90, false⟩ := ⟨Tryz.f90, Tryz.func90, nm90, low90, res90, nt90⟩
/--  stile words.word .rem -/
def L91 : LC := (.seq (.region [⟨(some 4), none, (.mv (.c (.int .i64 0)))⟩]) (.seq (.seq (.region [⟨(some 5), none, (.mv (.t 1))⟩, ⟨(some 6), none, (.bin .eql (.t 5) (.c (.int .i64 0)))⟩]) (.cond (.t 6) (.seq (.region [⟨(some 7), none, (.mv (.t 0))⟩, ⟨(some 4), none, (.mv (.t 7))⟩]) .ret) .skip)) (.seq (.region [⟨(some 8), none, (.mv (.t 0))⟩, ⟨(some 9), none, (.mv (.t 0))⟩, ⟨(some 10), none, (.mv (.t 1))⟩, ⟨(some 11), none, (.call (.f 90) [(.t 9), (.t 10)])⟩, ⟨(some 12), none, (.mv (.t 1))⟩, ⟨(some 13), none, (.bin .mul (.t 11) (.t 12))⟩, ⟨(some 14), none, (.bin .sub (.t 8) (.t 13))⟩, ⟨(some 4), none, (.mv (.t 14))⟩]) .ret)))
def R91 : List LRes := [(.tmp 4)]
theorem low91 : (Tryz.f91.body.bind (lowCode Tryz.prog Tryz.f91.ntmps)) = some L91 := by kernel_rfl
theorem res91 : lowRes Tryz.prog Tryz.f91.results.toList = some R91 := by kernel_rfl
theorem nm91 : (Tryz.f91.name == "runtime.NumGoroutine") = false := by kernel_rfl
theorem nt91 : 15 = Tryz.f91.ntmps := by kernel_rfl
theorem lf91 : LFok Tryz.prog ⟨91, 15, L91, R91, false⟩ := ⟨Tryz.f91, Tryz.func91, nm91, low91, res91, nt91⟩
/--  stile words.word .and -/
def L92 : LC := (.seq (.region [⟨(some 4), none, (.mv (.c (.int .i64 0)))⟩]) (.seq (.region [⟨(some 5), none, (.mv (.t 0))⟩, ⟨(some 6), none, (.mv (.t 1))⟩, ⟨(some 7), none, (.bin .and (.t 5) (.t 6))⟩, ⟨(some 4), none, (.mv (.t 7))⟩]) .ret))
def R92 : List LRes := [(.tmp 4)]
theorem low92 : (Tryz.f92.body.bind (lowCode Tryz.prog Tryz.f92.ntmps)) = some L92 := by kernel_rfl
theorem res92 : lowRes Tryz.prog Tryz.f92.results.toList = some R92 := by kernel_rfl
theorem nm92 : (Tryz.f92.name == "runtime.NumGoroutine") = false := by kernel_rfl
theorem nt92 : 8 = Tryz.f92.ntmps := by kernel_rfl
theorem lf92 : LFok Tryz.prog ⟨92, 8, L92, R92, false⟩ := ⟨Tryz.f92, Tryz.func92, nm92, low92, res92, nt92⟩
/--  stile words.word .or -/
def L93 : LC := (.seq (.region [⟨(some 4), none, (.mv (.c (.int .i64 0)))⟩]) (.seq (.region [⟨(some 5), none, (.mv (.t 0))⟩, ⟨(some 6), none, (.mv (.t 1))⟩, ⟨(some 7), none, (.bin .or (.t 5) (.t 6))⟩, ⟨(some 4), none, (.mv (.t 7))⟩]) .ret))
def R93 : List LRes := [(.tmp 4)]
theorem low93 : (Tryz.f93.body.bind (lowCode Tryz.prog Tryz.f93.ntmps)) = some L93 := by kernel_rfl
theorem res93 : lowRes Tryz.prog Tryz.f93.results.toList = some R93 := by kernel_rfl
theorem nm93 : (Tryz.f93.name == "runtime.NumGoroutine") = false := by kernel_rfl
theorem nt93 : 8 = Tryz.f93.ntmps := by kernel_rfl
theorem lf93 : LFok Tryz.prog ⟨93, 8, L93, R93, false⟩ := ⟨Tryz.f93, Tryz.func93, nm93, low93, res93, nt93⟩
/--  stile words.word .xor -/
def L94 : LC := (.seq (.region [⟨(some 4), none, (.mv (.c (.int .i64 0)))⟩]) (.seq (.region [⟨(some 5), none, (.mv (.t 0))⟩, ⟨(some 6), none, (.mv (.t 1))⟩, ⟨(some 7), none, (.bin .xor (.t 5) (.t 6))⟩, ⟨(some 4), none, (.mv (.t 7))⟩]) .ret))
def R94 : List LRes := [(.tmp 4)]
theorem low94 : (Tryz.f94.body.bind (lowCode Tryz.prog Tryz.f94.ntmps)) = some L94 := by kernel_rfl
theorem res94 : lowRes Tryz.prog Tryz.f94.results.toList = some R94 := by kernel_rfl
theorem nm94 : (Tryz.f94.name == "runtime.NumGoroutine") = false := by kernel_rfl
theorem nt94 : 8 = Tryz.f94.ntmps := by kernel_rfl
theorem lf94 : LFok Tryz.prog ⟨94, 8, L94, R94, false⟩ := ⟨Tryz.f94, Tryz.func94, nm94, low94, res94, nt94⟩
/--  stile words.word .shl -/
def L95 : LC := (.seq (.region [⟨(some 4), none, (.mv (.c (.int .i64 0)))⟩]) (.seq (.region [⟨(some 5), none, (.mv (.t 0))⟩, ⟨(some 6), none, (.mv (.t 1))⟩, ⟨(some 7), none, (.cvt .u64 (.t 6))⟩, ⟨(some 8), none, (.bin .and (.t 7) (.c (.int .u64 63)))⟩, ⟨(some 9), none, (.bin .shl (.t 5) (.t 8))⟩, ⟨(some 4), none, (.mv (.t 9))⟩]) .ret))
def R95 : List LRes := [(.tmp 4)]
theorem low95 : (Tryz.f95.body.bind (lowCode Tryz.prog Tryz.f95.ntmps)) = some L95 := by kernel_rfl
theorem res95 : lowRes Tryz.prog Tryz.f95.results.toList = some R95 := by kernel_rfl
theorem nm95 : (Tryz.f95.name == "runtime.NumGoroutine") = false := by kernel_rfl
theorem nt95 : 10 = Tryz.f95.ntmps := by kernel_rfl
theorem lf95 : LFok Tryz.prog ⟨95, 10, L95, R95, false⟩ := ⟨Tryz.f95, Tryz.func95, nm95, low95, res95, nt95⟩
/--  stile words.word .shr -/
def L96 : LC := (.seq (.region [⟨(some 4), none, (.mv (.c (.int .i64 0)))⟩]) (.seq (.region [⟨(some 5), none, (.mv (.t 0))⟩, ⟨(some 6), none, (.mv (.t 1))⟩, ⟨(some 7), none, (.cvt .u64 (.t 6))⟩, ⟨(some 8), none, (.bin .and (.t 7) (.c (.int .u64 63)))⟩, ⟨(some 9), none, (.bin .shr (.t 5) (.t 8))⟩, ⟨(some 4), none, (.mv (.t 9))⟩]) .ret))
def R96 : List LRes := [(.tmp 4)]
theorem low96 : (Tryz.f96.body.bind (lowCode Tryz.prog Tryz.f96.ntmps)) = some L96 := by kernel_rfl
theorem res96 : lowRes Tryz.prog Tryz.f96.results.toList = some R96 := by kernel_rfl
theorem nm96 : (Tryz.f96.name == "runtime.NumGoroutine") = false := by kernel_rfl
theorem nt96 : 10 = Tryz.f96.ntmps := by kernel_rfl
theorem lf96 : LFok Tryz.prog ⟨96, 10, L96, R96, false⟩ := ⟨Tryz.f96, Tryz.func96, nm96, low96, res96, nt96⟩
/--  stile words.word .is -/
def L97 : LC := (.seq (.region [⟨(some 4), none, (.mv (.c (.int .i64 0)))⟩]) (.seq (.region [⟨(some 5), none, (.mv (.t 0))⟩, ⟨(some 6), none, (.mv (.t 1))⟩, ⟨(some 7), none, (.bin .eql (.t 5) (.t 6))⟩, ⟨(some 8), none, (.call (.f 105) [(.t 7)])⟩, ⟨(some 4), none, (.mv (.t 8))⟩]) .ret))
def R97 : List LRes := [(.tmp 4)]
theorem low97 : (Tryz.f97.body.bind (lowCode Tryz.prog Tryz.f97.ntmps)) = some L97 := by kernel_rfl
theorem res97 : lowRes Tryz.prog Tryz.f97.results.toList = some R97 := by kernel_rfl
theorem nm97 : (Tryz.f97.name == "runtime.NumGoroutine") = false := by kernel_rfl
theorem nt97 : 9 = Tryz.f97.ntmps := by kernel_rfl
theorem lf97 : LFok Tryz.prog ⟨97, 9, L97, R97, false⟩ := ⟨Tryz.f97, Tryz.func97, nm97, low97, res97, nt97⟩
/--  stile words.word .isNot -/
def L98 : LC := (.seq (.region [⟨(some 4), none, (.mv (.c (.int .i64 0)))⟩]) (.seq (.region [⟨(some 5), none, (.mv (.t 0))⟩, ⟨(some 6), none, (.mv (.t 1))⟩, ⟨(some 7), none, (.bin .neq (.t 5) (.t 6))⟩, ⟨(some 8), none, (.call (.f 105) [(.t 7)])⟩, ⟨(some 4), none, (.mv (.t 8))⟩]) .ret))
def R98 : List LRes := [(.tmp 4)]
theorem low98 : (Tryz.f98.body.bind (lowCode Tryz.prog Tryz.f98.ntmps)) = some L98 := by kernel_rfl
theorem res98 : lowRes Tryz.prog Tryz.f98.results.toList = some R98 := by kernel_rfl
theorem nm98 : (Tryz.f98.name == "runtime.NumGoroutine") = false := by kernel_rfl
theorem nt98 : 9 = Tryz.f98.ntmps := by kernel_rfl
theorem lf98 : LFok Tryz.prog ⟨98, 9, L98, R98, false⟩ := ⟨Tryz.f98, Tryz.func98, nm98, low98, res98, nt98⟩
/--  stile words.word .less -/
def L99 : LC := (.seq (.region [⟨(some 4), none, (.mv (.c (.int .i64 0)))⟩]) (.seq (.region [⟨(some 5), none, (.mv (.t 0))⟩, ⟨(some 6), none, (.mv (.t 1))⟩, ⟨(some 7), none, (.bin .lss (.t 5) (.t 6))⟩, ⟨(some 8), none, (.call (.f 105) [(.t 7)])⟩, ⟨(some 4), none, (.mv (.t 8))⟩]) .ret))
def R99 : List LRes := [(.tmp 4)]
theorem low99 : (Tryz.f99.body.bind (lowCode Tryz.prog Tryz.f99.ntmps)) = some L99 := by kernel_rfl
theorem res99 : lowRes Tryz.prog Tryz.f99.results.toList = some R99 := by kernel_rfl
theorem nm99 : (Tryz.f99.name == "runtime.NumGoroutine") = false := by kernel_rfl
theorem nt99 : 9 = Tryz.f99.ntmps := by kernel_rfl
theorem lf99 : LFok Tryz.prog ⟨99, 9, L99, R99, false⟩ := ⟨Tryz.f99, Tryz.func99, nm99, low99, res99, nt99⟩
/--  stile words.word .most -/
def L100 : LC := (.seq (.region [⟨(some 4), none, (.mv (.c (.int .i64 0)))⟩]) (.seq (.region [⟨(some 5), none, (.mv (.t 0))⟩, ⟨(some 6), none, (.mv (.t 1))⟩, ⟨(some 7), none, (.bin .leq (.t 5) (.t 6))⟩, ⟨(some 8), none, (.call (.f 105) [(.t 7)])⟩, ⟨(some 4), none, (.mv (.t 8))⟩]) .ret))
def R100 : List LRes := [(.tmp 4)]
theorem low100 : (Tryz.f100.body.bind (lowCode Tryz.prog Tryz.f100.ntmps)) = some L100 := by kernel_rfl
theorem res100 : lowRes Tryz.prog Tryz.f100.results.toList = some R100 := by kernel_rfl
theorem nm100 : (Tryz.f100.name == "runtime.NumGoroutine") = false := by kernel_rfl
theorem nt100 : 9 = Tryz.f100.ntmps := by kernel_rfl
theorem lf100 : LFok Tryz.prog ⟨100, 9, L100, R100, false⟩ := ⟨Tryz.f100, Tryz.func100, nm100, low100, res100, nt100⟩
/--  stile words.word .above -/
def L101 : LC := (.seq (.region [⟨(some 4), none, (.mv (.c (.int .i64 0)))⟩]) (.seq (.region [⟨(some 5), none, (.mv (.t 0))⟩, ⟨(some 6), none, (.mv (.t 1))⟩, ⟨(some 7), none, (.bin .gtr (.t 5) (.t 6))⟩, ⟨(some 8), none, (.call (.f 105) [(.t 7)])⟩, ⟨(some 4), none, (.mv (.t 8))⟩]) .ret))
def R101 : List LRes := [(.tmp 4)]
theorem low101 : (Tryz.f101.body.bind (lowCode Tryz.prog Tryz.f101.ntmps)) = some L101 := by kernel_rfl
theorem res101 : lowRes Tryz.prog Tryz.f101.results.toList = some R101 := by kernel_rfl
theorem nm101 : (Tryz.f101.name == "runtime.NumGoroutine") = false := by kernel_rfl
theorem nt101 : 9 = Tryz.f101.ntmps := by kernel_rfl
theorem lf101 : LFok Tryz.prog ⟨101, 9, L101, R101, false⟩ := ⟨Tryz.f101, Tryz.func101, nm101, low101, res101, nt101⟩
/--  stile words.word .least -/
def L102 : LC := (.seq (.region [⟨(some 4), none, (.mv (.c (.int .i64 0)))⟩]) (.seq (.region [⟨(some 5), none, (.mv (.t 0))⟩, ⟨(some 6), none, (.mv (.t 1))⟩, ⟨(some 7), none, (.bin .geq (.t 5) (.t 6))⟩, ⟨(some 8), none, (.call (.f 105) [(.t 7)])⟩, ⟨(some 4), none, (.mv (.t 8))⟩]) .ret))
def R102 : List LRes := [(.tmp 4)]
theorem low102 : (Tryz.f102.body.bind (lowCode Tryz.prog Tryz.f102.ntmps)) = some L102 := by kernel_rfl
theorem res102 : lowRes Tryz.prog Tryz.f102.results.toList = some R102 := by kernel_rfl
theorem nm102 : (Tryz.f102.name == "runtime.NumGoroutine") = false := by kernel_rfl
theorem nt102 : 9 = Tryz.f102.ntmps := by kernel_rfl
theorem lf102 : LFok Tryz.prog ⟨102, 9, L102, R102, false⟩ := ⟨Tryz.f102, Tryz.func102, nm102, low102, res102, nt102⟩
/--  stile words.word .minus -/
def L103 : LC := (.seq (.region [⟨(some 2), none, (.mv (.c (.int .i64 0)))⟩]) (.seq (.region [⟨(some 3), none, (.mv (.t 0))⟩, ⟨(some 4), none, (.un .neg (.t 3))⟩, ⟨(some 2), none, (.mv (.t 4))⟩]) .ret))
def R103 : List LRes := [(.tmp 2)]
theorem low103 : (Tryz.f103.body.bind (lowCode Tryz.prog Tryz.f103.ntmps)) = some L103 := by kernel_rfl
theorem res103 : lowRes Tryz.prog Tryz.f103.results.toList = some R103 := by kernel_rfl
theorem nm103 : (Tryz.f103.name == "runtime.NumGoroutine") = false := by kernel_rfl
theorem nt103 : 5 = Tryz.f103.ntmps := by kernel_rfl
theorem lf103 : LFok Tryz.prog ⟨103, 5, L103, R103, false⟩ := ⟨Tryz.f103, Tryz.func103, nm103, low103, res103, nt103⟩
/--  stile words.word .not -/
def L104 : LC := (.seq (.region [⟨(some 2), none, (.mv (.c (.int .i64 0)))⟩]) (.seq (.region [⟨(some 3), none, (.mv (.t 0))⟩, ⟨(some 4), none, (.bin .eql (.t 3) (.c (.int .i64 0)))⟩, ⟨(some 5), none, (.call (.f 105) [(.t 4)])⟩, ⟨(some 2), none, (.mv (.t 5))⟩]) .ret))
def R104 : List LRes := [(.tmp 2)]
theorem low104 : (Tryz.f104.body.bind (lowCode Tryz.prog Tryz.f104.ntmps)) = some L104 := by kernel_rfl
theorem res104 : lowRes Tryz.prog Tryz.f104.results.toList = some R104 := by kernel_rfl
theorem nm104 : (Tryz.f104.name == "runtime.NumGoroutine") = false := by kernel_rfl
theorem nt104 : 6 = Tryz.f104.ntmps := by kernel_rfl
theorem lf104 : LFok Tryz.prog ⟨104, 6, L104, R104, false⟩ := ⟨Tryz.f104, Tryz.func104, nm104, low104, res104, nt104⟩
/-- stile words.truth -/
def L105 : LC := (.seq (.region [⟨(some 2), none, (.mv (.c (.int .i64 0)))⟩]) (.seq (.seq (.region [⟨(some 3), none, (.mv (.t 0))⟩]) (.cond (.t 3) (.seq (.region [⟨(some 2), none, (.mv (.c (.int .i64 1)))⟩]) .ret) .skip)) (.seq (.region [⟨(some 2), none, (.mv (.c (.int .i64 0)))⟩]) .ret)))
def R105 : List LRes := [(.tmp 2)]
theorem low105 : (Tryz.f105.body.bind (lowCode Tryz.prog Tryz.f105.ntmps)) = some L105 := by kernel_rfl
theorem res105 : lowRes Tryz.prog Tryz.f105.results.toList = some R105 := by kernel_rfl
theorem nm105 : (Tryz.f105.name == "runtime.NumGoroutine") = false := by kernel_rfl
theorem nt105 : 4 = Tryz.f105.ntmps := by kernel_rfl
theorem lf105 : LFok Tryz.prog ⟨105, 4, L105, R105, false⟩ := ⟨Tryz.f105, Tryz.func105, nm105, low105, res105, nt105⟩
end Go.Proofs.YtliabecchkolgaaGreat
