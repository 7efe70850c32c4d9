/- The lowered code of some functions, as a program printed it; each is held against the loaded program by the kernel. -/
import Derived.Test.YtliabecchkolgaaProg
import Derived.Test.YtliabecchkolgaaAbsQ
import Derived.KernelRfl
namespace Go.Proofs.Ytliabecchkolgaa
open Go Go.Abs Go.Proofs
/-- stile words.Do -/
def L73 : LC := (.seq (.region [⟨(some 6), none, (.mv (.c (.int .i64 0)))⟩, ⟨(some 7), none, (.mv (.c (.int .i64 0)))⟩]) (.seq (.seq (.region [⟨(some 9), none, (.mv (.t 0))⟩, ⟨(some 10), none, (.call (.f 87) [(.t 9)])⟩, ⟨(some 11), none, (.un .not (.t 10))⟩]) (.cond (.t 11) (.seq (.region [⟨(some 6), none, (.mv (.c (.int .i64 0)))⟩, ⟨(some 7), none, (.mv (.c (.int .i64 2)))⟩]) .ret) .skip)) (.seq (.region [⟨(some 12), none, (.call (.f 88) [])⟩, ⟨(some 13), none, (.mv (.t 0))⟩, ⟨(some 14), none, (.ix 2 true 19 (.t 12) (.t 13))⟩, ⟨(some 15), none, (.fld 0 1 false (.t 14))⟩, ⟨(some 8), none, (.mv (.t 15))⟩]) (.seq (.region [⟨(some 16), none, (.mv (.t 8))⟩, ⟨(some 17), none, (.mv (.t 1))⟩, ⟨(some 18), none, (.mv (.t 2))⟩, ⟨(some 19), none, (.call (.t 16) [(.t 17), (.t 18)])⟩, ⟨(some 6), none, (.mv (.t 19))⟩, ⟨(some 7), none, (.mv (.c (.int .i64 0)))⟩]) .ret))))
def R73 : List LRes := [(.tmp 6), (.tmp 7)]
theorem low73 : (Try.f73.body.bind (lowCode Try.prog Try.f73.ntmps)) = some L73 := by kernel_rfl
theorem res73 : lowRes Try.prog Try.f73.results.toList = some R73 := by kernel_rfl
theorem nm73 : (Try.f73.name == "runtime.NumGoroutine") = false := by kernel_rfl
theorem nt73 : 20 = Try.f73.ntmps := by kernel_rfl
theorem lf73 : LFok Try.prog ⟨73, 20, L73, R73, false⟩ := ⟨Try.f73, Try.func73, nm73, low73, res73, nt73⟩
/-- stile words.One -/
def L74 : LC := (.seq (.region [⟨(some 4), none, (.mv (.c (.int .i64 0)))⟩, ⟨(some 5), none, (.mv (.c (.int .i64 0)))⟩]) (.seq (.seq (.region [⟨(some 7), none, (.mv (.t 0))⟩, ⟨(some 8), none, (.call (.f 89) [(.t 7)])⟩, ⟨(some 9), none, (.un .not (.t 8))⟩, ⟨(some 10), none, (.mv (.t 9))⟩, ⟨(some 11), (some (10, false)), (.mv (.t 0))⟩, ⟨(some 12), (some (10, false)), (.call (.f 87) [(.t 11)])⟩, ⟨(some 13), none, (.pick (.t 10) (.c (.bool true)) (.t 12))⟩]) (.cond (.t 13) (.seq (.region [⟨(some 4), none, (.mv (.c (.int .i64 0)))⟩, ⟨(some 5), none, (.mv (.c (.int .i64 2)))⟩]) .ret) .skip)) (.seq (.region [⟨(some 14), none, (.call (.f 88) [])⟩, ⟨(some 15), none, (.mv (.t 0))⟩, ⟨(some 16), none, (.ix 2 true 19 (.t 14) (.t 15))⟩, ⟨(some 17), none, (.fld 1 1 false (.t 16))⟩, ⟨(some 6), none, (.mv (.t 17))⟩]) (.seq (.region [⟨(some 18), none, (.mv (.t 6))⟩, ⟨(some 19), none, (.mv (.t 1))⟩, ⟨(some 20), none, (.call (.t 18) [(.t 19)])⟩, ⟨(some 4), none, (.mv (.t 20))⟩, ⟨(some 5), none, (.mv (.c (.int .i64 0)))⟩]) .ret))))
def R74 : List LRes := [(.tmp 4), (.tmp 5)]
theorem low74 : (Try.f74.body.bind (lowCode Try.prog Try.f74.ntmps)) = some L74 := by kernel_rfl
theorem res74 : lowRes Try.prog Try.f74.results.toList = some R74 := by kernel_rfl
theorem nm74 : (Try.f74.name == "runtime.NumGoroutine") = false := by kernel_rfl
theorem nt74 : 21 = Try.f74.ntmps := by kernel_rfl
theorem lf74 : LFok Try.prog ⟨74, 21, L74, R74, false⟩ := ⟨Try.f74, Try.func74, nm74, low74, res74, nt74⟩
/-- stile stileref02.digit -/
def L75 : LC := (.seq (.region [⟨(some 2), none, (.mv (.c (.bool false)))⟩]) (.seq (.region [⟨(some 3), none, (.mv (.t 0))⟩, ⟨(some 4), none, (.bin .geq (.t 3) (.c (.int .u8 48)))⟩, ⟨(some 5), none, (.mv (.t 4))⟩, ⟨(some 6), (some (5, true)), (.mv (.t 0))⟩, ⟨(some 7), (some (5, true)), (.bin .leq (.t 6) (.c (.int .u8 57)))⟩, ⟨(some 8), none, (.pick (.t 5) (.t 7) (.c (.bool false)))⟩, ⟨(some 2), none, (.mv (.t 8))⟩]) .ret))
def R75 : List LRes := [(.tmp 2)]
theorem low75 : (Try.f75.body.bind (lowCode Try.prog Try.f75.ntmps)) = some L75 := by kernel_rfl
theorem res75 : lowRes Try.prog Try.f75.results.toList = some R75 := by kernel_rfl
theorem nm75 : (Try.f75.name == "runtime.NumGoroutine") = false := by kernel_rfl
theorem nt75 : 9 = Try.f75.ntmps := by kernel_rfl
theorem lf75 : LFok Try.prog ⟨75, 9, L75, R75, false⟩ := ⟨Try.f75, Try.func75, nm75, low75, res75, nt75⟩
/-- stile stileref02.Word -/
def L76 : LC := (.seq (.region [⟨(some 2), none, (.mv (.c (.bool false)))⟩]) (.seq (.seq (.region [⟨(some 3), none, (.mv (.t 0))⟩]) (.block 0 (.seq (.seq (.region [⟨(some 5), none, (.eqstr false (.t 3) (.c (.string ⟨(List.toArray [115, 104, 97, 114, 101, 100])⟩)))⟩, ⟨(some 4), none, (.mv (.t 5))⟩]) (.cond (.t 4) .skip (.seq (.region [⟨(some 6), none, (.eqstr false (.t 3) (.c (.string ⟨(List.toArray [108, 111, 99, 107])⟩)))⟩, ⟨(some 4), none, (.mv (.t 6))⟩]) (.cond (.t 4) .skip (.seq (.region [⟨(some 7), none, (.eqstr false (.t 3) (.c (.string ⟨(List.toArray [116, 104, 114, 101, 97, 100])⟩)))⟩, ⟨(some 4), none, (.mv (.t 7))⟩]) (.cond (.t 4) .skip (.seq (.region [⟨(some 8), none, (.eqstr false (.t 3) (.c (.string ⟨(List.toArray [108, 111, 99, 97, 108])⟩)))⟩, ⟨(some 4), none, (.mv (.t 8))⟩]) (.cond (.t 4) .skip (.seq (.region [⟨(some 9), none, (.eqstr false (.t 3) (.c (.string ⟨(List.toArray [105, 102])⟩)))⟩, ⟨(some 4), none, (.mv (.t 9))⟩]) (.cond (.t 4) .skip (.seq (.region [⟨(some 10), none, (.eqstr false (.t 3) (.c (.string ⟨(List.toArray [101, 108, 115, 101])⟩)))⟩, ⟨(some 4), none, (.mv (.t 10))⟩]) (.cond (.t 4) .skip (.seq (.region [⟨(some 11), none, (.eqstr false (.t 3) (.c (.string ⟨(List.toArray [119, 104, 105, 108, 101])⟩)))⟩, ⟨(some 4), none, (.mv (.t 11))⟩]) (.cond (.t 4) .skip (.seq (.region [⟨(some 12), none, (.eqstr false (.t 3) (.c (.string ⟨(List.toArray [112, 114, 105, 110, 116])⟩)))⟩, ⟨(some 4), none, (.mv (.t 12))⟩]) (.cond (.t 4) .skip (.seq (.region [⟨(some 13), none, (.eqstr false (.t 3) (.c (.string ⟨(List.toArray [115, 107, 105, 112])⟩)))⟩, ⟨(some 4), none, (.mv (.t 13))⟩]) (.cond (.t 4) .skip (.region [⟨(some 14), none, (.eqstr false (.t 3) (.c (.string ⟨(List.toArray [115, 119, 97, 112])⟩)))⟩, ⟨(some 4), none, (.mv (.t 14))⟩]))))))))))))))))))) (.cond (.t 4) (.seq (.region [⟨(some 2), none, (.mv (.c (.bool true)))⟩]) .ret) .skip)))) (.seq (.region [⟨(some 2), none, (.mv (.c (.bool false)))⟩]) .ret)))
def R76 : List LRes := [(.tmp 2)]
theorem low76 : (Try.f76.body.bind (lowCode Try.prog Try.f76.ntmps)) = some L76 := by kernel_rfl
theorem res76 : lowRes Try.prog Try.f76.results.toList = some R76 := by kernel_rfl
theorem nm76 : (Try.f76.name == "runtime.NumGoroutine") = false := by kernel_rfl
theorem nt76 : 15 = Try.f76.ntmps := by kernel_rfl
theorem lf76 : LFok Try.prog ⟨76, 15, L76, R76, false⟩ := ⟨Try.f76, Try.func76, nm76, low76, res76, nt76⟩
/-- stile stileref02.letter -/
def L77 : LC := (.seq (.region [⟨(some 2), none, (.mv (.c (.bool false)))⟩]) (.seq (.region [⟨(some 3), none, (.mv (.t 0))⟩, ⟨(some 4), none, (.bin .geq (.t 3) (.c (.int .u8 97)))⟩, ⟨(some 5), none, (.mv (.t 4))⟩, ⟨(some 6), (some (5, true)), (.mv (.t 0))⟩, ⟨(some 7), (some (5, true)), (.bin .leq (.t 6) (.c (.int .u8 122)))⟩, ⟨(some 8), none, (.pick (.t 5) (.t 7) (.c (.bool false)))⟩, ⟨(some 9), none, (.mv (.t 8))⟩, ⟨(some 10), (some (9, false)), (.mv (.t 0))⟩, ⟨(some 11), (some (9, false)), (.bin .geq (.t 10) (.c (.int .u8 65)))⟩, ⟨(some 12), (some (9, false)), (.mv (.t 11))⟩, ⟨(some 13), (some (12, true)), (.mv (.t 0))⟩, ⟨(some 14), (some (12, true)), (.bin .leq (.t 13) (.c (.int .u8 90)))⟩, ⟨(some 15), (some (9, false)), (.pick (.t 12) (.t 14) (.c (.bool false)))⟩, ⟨(some 16), none, (.pick (.t 9) (.c (.bool true)) (.t 15))⟩, ⟨(some 17), none, (.mv (.t 16))⟩, ⟨(some 18), (some (17, false)), (.mv (.t 0))⟩, ⟨(some 19), (some (17, false)), (.bin .eql (.t 18) (.c (.int .u8 95)))⟩, ⟨(some 20), none, (.pick (.t 17) (.c (.bool true)) (.t 19))⟩, ⟨(some 2), none, (.mv (.t 20))⟩]) .ret))
def R77 : List LRes := [(.tmp 2)]
theorem low77 : (Try.f77.body.bind (lowCode Try.prog Try.f77.ntmps)) = some L77 := by kernel_rfl
theorem res77 : lowRes Try.prog Try.f77.results.toList = some R77 := by kernel_rfl
theorem nm77 : (Try.f77.name == "runtime.NumGoroutine") = false := by kernel_rfl
theorem nt77 : 21 = Try.f77.ntmps := by kernel_rfl
theorem lf77 : LFok Try.prog ⟨77, 21, L77, R77, false⟩ := ⟨Try.f77, Try.func77, nm77, low77, res77, nt77⟩
/-- stile stileref16.Drains -/
def L78 : LC := (.seq (.region [⟨(some 2), none, (.mv (.c (.bool false)))⟩]) (.seq (.region [⟨(some 3), none, (.mv (.t 0))⟩, ⟨(some 4), none, (.bin .eql (.t 3) (.c (.int .u8 5)))⟩, ⟨(some 5), none, (.mv (.t 4))⟩, ⟨(some 6), (some (5, false)), (.mv (.t 0))⟩, ⟨(some 7), (some (5, false)), (.bin .eql (.t 6) (.c (.int .u8 6)))⟩, ⟨(some 8), none, (.pick (.t 5) (.c (.bool true)) (.t 7))⟩, ⟨(some 9), none, (.mv (.t 8))⟩, ⟨(some 10), (some (9, false)), (.mv (.t 0))⟩, ⟨(some 11), (some (9, false)), (.bin .eql (.t 10) (.c (.int .u8 7)))⟩, ⟨(some 12), none, (.pick (.t 9) (.c (.bool true)) (.t 11))⟩, ⟨(some 2), none, (.mv (.t 12))⟩]) .ret))
def R78 : List LRes := [(.tmp 2)]
theorem low78 : (Try.f78.body.bind (lowCode Try.prog Try.f78.ntmps)) = some L78 := by kernel_rfl
theorem res78 : lowRes Try.prog Try.f78.results.toList = some R78 := by kernel_rfl
theorem nm78 : (Try.f78.name == "runtime.NumGoroutine") = false := by kernel_rfl
theorem nt78 : 13 = Try.f78.ntmps := by kernel_rfl
theorem lf78 : LFok Try.prog ⟨78, 13, L78, R78, false⟩ := ⟨Try.f78, Try.func78, nm78, low78, res78, nt78⟩
/-- stile stileref01.truth -/
def L79 : LC := (.seq (.region [⟨(some 2), none, (.mv (.c (.int .i64 0)))⟩, ⟨(some 3), none, (.mv (.c (.int .i64 0)))⟩]) (.seq (.seq (.region [⟨(some 4), none, (.mv (.t 0))⟩]) (.cond (.t 4) (.seq (.region [⟨(some 2), none, (.mv (.c (.int .i64 1)))⟩, ⟨(some 3), none, (.mv (.c (.int .i64 0)))⟩]) .ret) .skip)) (.seq (.region [⟨(some 2), none, (.mv (.c (.int .i64 0)))⟩, ⟨(some 3), none, (.mv (.c (.int .i64 0)))⟩]) .ret)))
def R79 : List LRes := [(.tmp 2), (.tmp 3)]
theorem low79 : (Try.f79.body.bind (lowCode Try.prog Try.f79.ntmps)) = some L79 := by kernel_rfl
theorem res79 : lowRes Try.prog Try.f79.results.toList = some R79 := by kernel_rfl
theorem nm79 : (Try.f79.name == "runtime.NumGoroutine") = false := by kernel_rfl
theorem nt79 : 5 = Try.f79.ntmps := by kernel_rfl
theorem lf79 : LFok Try.prog ⟨79, 5, L79, R79, false⟩ := ⟨Try.f79, Try.func79, nm79, low79, res79, nt79⟩
/-- stile stileref01.quotient -/
def L80 : LC := (.seq (.region [⟨(some 4), none, (.mv (.c (.int .i64 0)))⟩]) (.seq (.seq (.region [⟨(some 5), none, (.mv (.t 1))⟩]) (.block 0 (.seq (.region [⟨(some 7), none, (.bin .eql (.t 5) (.c (.int .i64 0)))⟩, ⟨(some 6), none, (.mv (.t 7))⟩]) (.cond (.t 6) (.seq (.region [⟨(some 4), none, (.mv (.c (.int .i64 0)))⟩]) .ret) (.seq (.region [⟨(some 9), none, (.bin .eql (.t 5) (.c (.int .i64 (-1))))⟩, ⟨(some 8), none, (.mv (.t 9))⟩]) (.cond (.t 8) (.seq (.region [⟨(some 10), none, (.mv (.t 0))⟩, ⟨(some 11), none, (.bin .sub (.c (.int .i64 0)) (.t 10))⟩, ⟨(some 4), none, (.mv (.t 11))⟩]) .ret) .skip)))))) (.seq (.region [⟨(some 12), none, (.mv (.t 0))⟩, ⟨(some 13), none, (.mv (.t 1))⟩, ⟨(some 14), none, (.bin .quo (.t 12) (.t 13))⟩, ⟨(some 4), none, (.mv (.t 14))⟩]) .ret)))
def R80 : List LRes := [(.tmp 4)]
theorem low80 : (Try.f80.body.bind (lowCode Try.prog Try.f80.ntmps)) = some L80 := by kernel_rfl
theorem res80 : lowRes Try.prog Try.f80.results.toList = some R80 := by kernel_rfl
theorem nm80 : (Try.f80.name == "runtime.NumGoroutine") = false := by kernel_rfl
theorem nt80 : 15 = Try.f80.ntmps := by kernel_rfl
theorem lf80 : LFok Try.prog ⟨80, 15, L80, R80, false⟩ := ⟨Try.f80, Try.func80, nm80, low80, res80, nt80⟩
/-- stile target.shaped 1 -/
def L81 : LC := (.seq (.region [⟨(some 2), none, (.box 81 2 true (.t 0))⟩, ⟨(some 3), none, (.mv (.c (.bool false)))⟩]) (.seq (.region [⟨(some 4), none, (.fa 0 (.t 2))⟩, ⟨(some 5), none, (.ld false 1 (.t 4))⟩, ⟨(some 6), none, (.fa 0 (.t 1))⟩, ⟨(some 7), none, (.ld false 1 (.t 6))⟩, ⟨(some 8), none, (.eqstr false (.t 5) (.t 7))⟩, ⟨(some 3), none, (.mv (.t 8))⟩]) .ret))
def R81 : List LRes := [(.tmp 3)]
theorem low81 : (Try.f81.body.bind (lowCode Try.prog Try.f81.ntmps)) = some L81 := by kernel_rfl
theorem res81 : lowRes Try.prog Try.f81.results.toList = some R81 := by kernel_rfl
theorem nm81 : (Try.f81.name == "runtime.NumGoroutine") = false := by kernel_rfl
theorem nt81 : 9 = Try.f81.ntmps := by kernel_rfl
theorem lf81 : LFok Try.prog ⟨81, 9, L81, R81, false⟩ := ⟨Try.f81, Try.func81, nm81, low81, res81, nt81⟩
/-- stile lexer.Name -/
def L82 : LC := (.seq (.region [⟨(some 2), none, (.mv (.c (.bool false)))⟩]) (.seq (.seq (.region [⟨(some 4), none, (.mv (.t 0))⟩, ⟨(some 5), none, (.eqstr false (.t 4) (.c (.string ⟨(List.toArray [])⟩)))⟩, ⟨(some 6), none, (.mv (.t 5))⟩, ⟨(some 7), (some (6, false)), (.mv (.t 0))⟩, ⟨(some 8), (some (6, false)), (.lens (.t 7))⟩, ⟨(some 9), (some (6, false)), (.bin .gtr (.t 8) (.c (.int .i64 32)))⟩, ⟨(some 10), none, (.pick (.t 6) (.c (.bool true)) (.t 9))⟩, ⟨(some 11), none, (.mv (.t 10))⟩, ⟨(some 12), (some (11, false)), (.mv (.t 0))⟩, ⟨(some 13), (some (11, false)), (.ixs (.t 12) (.c (.int .i64 0)))⟩, ⟨(some 14), (some (11, false)), (.call (.f 90) [(.t 13)])⟩, ⟨(some 15), none, (.pick (.t 11) (.c (.bool true)) (.t 14))⟩, ⟨(some 16), none, (.mv (.t 15))⟩, ⟨(some 17), (some (16, false)), (.mv (.t 0))⟩, ⟨(some 18), (some (16, false)), (.call (.f 91) [(.t 17)])⟩, ⟨(some 19), none, (.pick (.t 16) (.c (.bool true)) (.t 18))⟩]) (.cond (.t 19) (.seq (.region [⟨(some 2), none, (.mv (.c (.bool false)))⟩]) .ret) .skip)) (.seq (.seq (.region [⟨(some 20), none, (.mv (.t 0))⟩, ⟨(some 21), none, (.lens (.t 20))⟩, ⟨(some 22), none, (.mv (.c (.int .i64 0)))⟩]) (.block 0 (.loop (.seq (.region [⟨(some 23), none, (.bin .lss (.t 22) (.t 21))⟩]) (.seq (.cond (.t 23) .skip (.exit 0)) (.seq (.block 1 (.seq (.region [⟨(some 24), none, (.mv (.t 22))⟩, ⟨(some 3), none, (.mv (.t 24))⟩]) (.seq (.region [⟨(some 25), none, (.mv (.t 0))⟩, ⟨(some 26), none, (.mv (.t 3))⟩, ⟨(some 27), none, (.ixs (.t 25) (.t 26))⟩, ⟨(some 28), none, (.call (.f 92) [(.t 27)])⟩, ⟨(some 29), none, (.un .not (.t 28))⟩, ⟨(some 30), none, (.mv (.t 29))⟩, ⟨(some 31), (some (30, true)), (.mv (.t 0))⟩, ⟨(some 32), (some (30, true)), (.mv (.t 3))⟩, ⟨(some 33), (some (30, true)), (.ixs (.t 31) (.t 32))⟩, ⟨(some 34), (some (30, true)), (.call (.f 90) [(.t 33)])⟩, ⟨(some 35), (some (30, true)), (.un .not (.t 34))⟩, ⟨(some 36), none, (.pick (.t 30) (.t 35) (.c (.bool false)))⟩]) (.cond (.t 36) (.seq (.region [⟨(some 2), none, (.mv (.c (.bool false)))⟩]) .ret) .skip)))) (.region [⟨(some 37), none, (.bin .add (.t 22) (.c (.int .i64 1)))⟩, ⟨(some 22), none, (.mv (.t 37))⟩]))))))) (.seq (.region [⟨(some 2), none, (.mv (.c (.bool true)))⟩]) .ret))))
def R82 : List LRes := [(.tmp 2)]
theorem low82 : (Try.f82.body.bind (lowCode Try.prog Try.f82.ntmps)) = some L82 := by kernel_rfl
theorem res82 : lowRes Try.prog Try.f82.results.toList = some R82 := by kernel_rfl
theorem nm82 : (Try.f82.name == "runtime.NumGoroutine") = false := by kernel_rfl
theorem nt82 : 38 = Try.f82.ntmps := by kernel_rfl
theorem lf82 : LFok Try.prog ⟨82, 38, L82, R82, false⟩ := ⟨Try.f82, Try.func82, nm82, low82, res82, nt82⟩
/-- slices.ContainsFunc   stile api.Core,stile api.Core  -/
def L83 : LC := (.seq (.region [⟨(some 4), none, (.mv (.c (.bool false)))⟩]) (.seq (.region [⟨(some 5), none, (.mv (.t 0))⟩, ⟨(some 6), none, (.mv (.t 1))⟩, ⟨(some 7), none, (.call (.f 93) [(.t 5), (.t 6)])⟩, ⟨(some 8), none, (.bin .geq (.t 7) (.c (.int .i64 0)))⟩, ⟨(some 4), none, (.mv (.t 8))⟩]) .ret))
def R83 : List LRes := [(.tmp 4)]
theorem low83 : (Try.f83.body.bind (lowCode Try.prog Try.f83.ntmps)) = some L83 := by kernel_rfl
theorem res83 : lowRes Try.prog Try.f83.results.toList = some R83 := by kernel_rfl
theorem nm83 : (Try.f83.name == "runtime.NumGoroutine") = false := by kernel_rfl
theorem nt83 : 9 = Try.f83.ntmps := by kernel_rfl
theorem lf83 : LFok Try.prog ⟨83, 9, L83, R83, false⟩ := ⟨Try.f83, Try.func83, nm83, low83, res83, nt83⟩
/-- stile target.used -/
def L84 : LC := (.seq (.region [⟨(some 1), none, (.box 85 9 true (.t 0))⟩, ⟨(some 2), none, (.mv (.c (.int .u8 0)))⟩, ⟨(some 3), none, (.mv (.c (.bool false)))⟩]) (.seq (.region [⟨(some 10), none, (.fa 0 (.t 1))⟩, ⟨(some 11), none, (.ld false 1 (.t 10))⟩, ⟨(some 12), none, (.call (.f 94) [(.t 11)])⟩, ⟨(some 9), none, (.mv (.t 12))⟩, ⟨(some 13), none, (.ext 0 (.t 9))⟩, ⟨(some 14), none, (.ext 1 (.t 9))⟩, ⟨(some 4), none, (.alloc 151 5 true [(.string ⟨(List.toArray [])⟩), (.int .u8 0), (.int .u8 0), (.int .u8 0), (.int .u8 0)])⟩, ⟨none, none, (.st true 5 (.t 4) (.t 13))⟩, ⟨(some 5), none, (.mv (.t 14))⟩]) (.seq (.region [⟨(some 6), none, (.mv (.c (.int .u8 0)))⟩]) (.seq (.seq (.region [⟨(some 15), none, (.fa 1 (.t 4))⟩, ⟨(some 16), none, (.ld true 4 (.t 15))⟩, ⟨(some 17), none, (.mv (.c (.int .i64 0)))⟩]) (.block 0 (.loop (.seq (.region [⟨(some 18), none, (.bin .lss (.t 17) (.c (.int .i64 4)))⟩]) (.seq (.cond (.t 18) .skip (.exit 0)) (.seq (.block 1 (.seq (.region [⟨(some 19), none, (.ix 1 false 4 (.t 16) (.t 17))⟩, ⟨(some 8), none, (.mv (.t 19))⟩]) (.region [⟨(some 20), none, (.mv (.t 6))⟩, ⟨(some 21), none, (.mv (.t 8))⟩, ⟨(some 22), none, (.bin .or (.t 20) (.t 21))⟩, ⟨(some 6), none, (.mv (.t 22))⟩]))) (.region [⟨(some 23), none, (.bin .add (.t 17) (.c (.int .i64 1)))⟩, ⟨(some 17), none, (.mv (.t 23))⟩]))))))) (.seq (.seq (.region [⟨(some 24), none, (.fa 0 (.t 1))⟩, ⟨(some 25), none, (.ld false 1 (.t 24))⟩, ⟨(some 26), none, (.bin .eql (.t 25) (.c (.int .u8 2)))⟩, ⟨(some 27), none, (.mv (.t 26))⟩, ⟨(some 28), (some (27, true)), (.fa 1 (.t 1))⟩, ⟨(some 29), (some (27, true)), (.ld false 1 (.t 28))⟩, ⟨(some 30), (some (27, true)), (.call (.f 87) [(.t 29)])⟩, ⟨(some 31), (some (27, true)), (.un .not (.t 30))⟩, ⟨(some 32), none, (.pick (.t 27) (.t 31) (.c (.bool false)))⟩]) (.cond (.t 32) (.region [⟨(some 33), none, (.mv (.t 6))⟩, ⟨(some 34), none, (.bin .andNot (.t 33) (.c (.int .u8 8)))⟩, ⟨(some 6), none, (.mv (.t 34))⟩]) .skip)) (.seq (.region [⟨(some 35), none, (.mv (.t 6))⟩, ⟨(some 36), none, (.mv (.t 5))⟩, ⟨(some 2), none, (.mv (.t 35))⟩, ⟨(some 3), none, (.mv (.t 36))⟩]) .ret))))))
def R84 : List LRes := [(.tmp 2), (.tmp 3)]
theorem low84 : (Try.f84.body.bind (lowCode Try.prog Try.f84.ntmps)) = some L84 := by kernel_rfl
theorem res84 : lowRes Try.prog Try.f84.results.toList = some R84 := by kernel_rfl
theorem nm84 : (Try.f84.name == "runtime.NumGoroutine") = false := by kernel_rfl
theorem nt84 : 37 = Try.f84.ntmps := by kernel_rfl
theorem lf84 : LFok Try.prog ⟨84, 37, L84, R84, false⟩ := ⟨Try.f84, Try.func84, nm84, low84, res84, nt84⟩
/-- stile target.Right 1 -/
def L85 : LC := (.seq (.region [⟨(some 7), none, (.mv (.c (.bool false)))⟩]) (.seq (.region [⟨(some 8), none, (.ld false 1 (.t 3))⟩, ⟨(some 9), none, (.mv (.t 1))⟩, ⟨(some 10), none, (.bin .and (.t 8) (.t 9))⟩, ⟨(some 11), none, (.bin .eql (.t 10) (.c (.int .u8 0)))⟩, ⟨(some 12), none, (.mv (.t 11))⟩, ⟨(some 13), (some (12, true)), (.mv (.t 0))⟩, ⟨(some 14), (some (12, true)), (.bin .eql (.t 13) (.c (.int .i64 0)))⟩, ⟨(some 15), none, (.pick (.t 12) (.t 14) (.c (.bool false)))⟩, ⟨(some 16), none, (.mv (.t 15))⟩, ⟨(some 17), (some (16, false)), (.ld false 1 (.t 3))⟩, ⟨(some 18), (some (16, false)), (.mv (.t 1))⟩, ⟨(some 19), (some (16, false)), (.bin .and (.t 17) (.t 18))⟩, ⟨(some 20), (some (16, false)), (.bin .neq (.t 19) (.c (.int .u8 0)))⟩, ⟨(some 21), (some (16, false)), (.mv (.t 20))⟩, ⟨(some 22), (some (21, true)), (.mv (.t 0))⟩, ⟨(some 23), (some (21, true)), (.bin .geq (.t 22) (.c (.int .i64 0)))⟩, ⟨(some 24), (some (16, false)), (.pick (.t 21) (.t 23) (.c (.bool false)))⟩, ⟨(some 25), (some (16, false)), (.mv (.t 24))⟩, ⟨(some 26), (some (25, true)), (.mv (.t 0))⟩, ⟨(some 27), (some (25, true)), (.mv (.t 2))⟩, ⟨(some 28), (some (25, true)), (.bin .lss (.t 26) (.t 27))⟩, ⟨(some 29), (some (16, false)), (.pick (.t 25) (.t 28) (.c (.bool false)))⟩, ⟨(some 30), none, (.pick (.t 16) (.c (.bool true)) (.t 29))⟩, ⟨(some 7), none, (.mv (.t 30))⟩]) .ret))
def R85 : List LRes := [(.tmp 7)]
theorem low85 : (Try.f85.body.bind (lowCode Try.prog Try.f85.ntmps)) = some L85 := by kernel_rfl
theorem res85 : lowRes Try.prog Try.f85.results.toList = some R85 := by kernel_rfl
theorem nm85 : (Try.f85.name == "runtime.NumGoroutine") = false := by kernel_rfl
theorem nt85 : 31 = Try.f85.ntmps := by kernel_rfl
theorem lf85 : LFok Try.prog ⟨85, 31, L85, R85, false⟩ := ⟨Try.f85, Try.func85, nm85, low85, res85, nt85⟩
/-- stile target.operator -/
def L86 : LC := (.seq (.region [⟨(some 2), none, (.mv (.c (.string ⟨(List.toArray [])⟩)))⟩]) (.seq (.region [⟨(some 4), none, (.bld [(.string ⟨(List.toArray [])⟩), (.string ⟨(List.toArray [])⟩), (.string ⟨(List.toArray [])⟩), (.string ⟨(List.toArray [])⟩), (.string ⟨(List.toArray [])⟩), (.string ⟨(List.toArray [])⟩), (.string ⟨(List.toArray [])⟩), (.string ⟨(List.toArray [])⟩), (.string ⟨(List.toArray [])⟩), (.string ⟨(List.toArray [])⟩), (.string ⟨(List.toArray [])⟩), (.string ⟨(List.toArray [])⟩), (.string ⟨(List.toArray [])⟩), (.string ⟨(List.toArray [])⟩), (.string ⟨(List.toArray [])⟩), (.string ⟨(List.toArray [])⟩), (.string ⟨(List.toArray [])⟩), (.string ⟨(List.toArray [])⟩), (.string ⟨(List.toArray [])⟩)] [(0, (1, (.c (.string ⟨(List.toArray [])⟩)))), (1, (1, (.c (.string ⟨(List.toArray [97, 100, 100])⟩)))), (2, (1, (.c (.string ⟨(List.toArray [115, 117, 98])⟩)))), (3, (1, (.c (.string ⟨(List.toArray [109, 117, 108])⟩)))), (4, (1, (.c (.string ⟨(List.toArray [100, 105, 118])⟩)))), (5, (1, (.c (.string ⟨(List.toArray [114, 101, 109])⟩)))), (6, (1, (.c (.string ⟨(List.toArray [97, 110, 100])⟩)))), (7, (1, (.c (.string ⟨(List.toArray [111, 114])⟩)))), (8, (1, (.c (.string ⟨(List.toArray [120, 111, 114])⟩)))), (9, (1, (.c (.string ⟨(List.toArray [115, 104, 108])⟩)))), (10, (1, (.c (.string ⟨(List.toArray [115, 104, 114])⟩)))), (11, (1, (.c (.string ⟨(List.toArray [105, 115])⟩)))), (12, (1, (.c (.string ⟨(List.toArray [105, 115, 110, 111, 116])⟩)))), (13, (1, (.c (.string ⟨(List.toArray [108, 101, 115, 115])⟩)))), (14, (1, (.c (.string ⟨(List.toArray [109, 111, 115, 116])⟩)))), (15, (1, (.c (.string ⟨(List.toArray [97, 98, 111, 118, 101])⟩)))), (16, (1, (.c (.string ⟨(List.toArray [108, 101, 97, 115, 116])⟩)))), (17, (1, (.c (.string ⟨(List.toArray [109, 105, 110, 117, 115])⟩)))), (18, (1, (.c (.string ⟨(List.toArray [110, 111, 116])⟩))))])⟩, ⟨(some 3), none, (.alloc 154 19 true [(.string ⟨(List.toArray [])⟩), (.string ⟨(List.toArray [])⟩), (.string ⟨(List.toArray [])⟩), (.string ⟨(List.toArray [])⟩), (.string ⟨(List.toArray [])⟩), (.string ⟨(List.toArray [])⟩), (.string ⟨(List.toArray [])⟩), (.string ⟨(List.toArray [])⟩), (.string ⟨(List.toArray [])⟩), (.string ⟨(List.toArray [])⟩), (.string ⟨(List.toArray [])⟩), (.string ⟨(List.toArray [])⟩), (.string ⟨(List.toArray [])⟩), (.string ⟨(List.toArray [])⟩), (.string ⟨(List.toArray [])⟩), (.string ⟨(List.toArray [])⟩), (.string ⟨(List.toArray [])⟩), (.string ⟨(List.toArray [])⟩), (.string ⟨(List.toArray [])⟩)])⟩, ⟨none, none, (.st true 19 (.t 3) (.t 4))⟩]) (.seq (.seq (.region [⟨(some 5), none, (.mv (.t 0))⟩, ⟨(some 6), none, (.cvt .i64 (.t 5))⟩, ⟨(some 7), none, (.bin .geq (.t 6) (.c (.int .i64 19)))⟩]) (.cond (.t 7) (.seq (.region [⟨(some 2), none, (.mv (.c (.string ⟨(List.toArray [])⟩)))⟩]) .ret) .skip)) (.seq (.region [⟨(some 8), none, (.mv (.t 0))⟩, ⟨(some 9), none, (.ia 1 (some 19) (.t 3) (.t 8))⟩, ⟨(some 10), none, (.ld false 1 (.t 9))⟩, ⟨(some 2), none, (.mv (.t 10))⟩]) .ret))))
def R86 : List LRes := [(.tmp 2)]
theorem low86 : (Try.f86.body.bind (lowCode Try.prog Try.f86.ntmps)) = some L86 := by kernel_rfl
theorem res86 : lowRes Try.prog Try.f86.results.toList = some R86 := by kernel_rfl
theorem nm86 : (Try.f86.name == "runtime.NumGoroutine") = false := by kernel_rfl
theorem nt86 : 11 = Try.f86.ntmps := by kernel_rfl
theorem lf86 : LFok Try.prog ⟨86, 11, L86, R86, false⟩ := ⟨Try.f86, Try.func86, nm86, low86, res86, nt86⟩
/-- stile words.Two -/
def L87 : LC := (.seq (.region [⟨(some 2), none, (.mv (.c (.bool false)))⟩]) (.seq (.region [⟨(some 3), none, (.mv (.t 0))⟩, ⟨(some 4), none, (.call (.f 89) [(.t 3)])⟩, ⟨(some 5), none, (.mv (.t 4))⟩, ⟨(some 6), (some (5, true)), (.mv (.t 0))⟩, ⟨(some 7), (some (5, true)), (.bin .neq (.t 6) (.c (.int .u8 17)))⟩, ⟨(some 8), none, (.pick (.t 5) (.t 7) (.c (.bool false)))⟩, ⟨(some 9), none, (.mv (.t 8))⟩, ⟨(some 10), (some (9, true)), (.mv (.t 0))⟩, ⟨(some 11), (some (9, true)), (.bin .neq (.t 10) (.c (.int .u8 18)))⟩, ⟨(some 12), none, (.pick (.t 9) (.t 11) (.c (.bool false)))⟩, ⟨(some 2), none, (.mv (.t 12))⟩]) .ret))
def R87 : List LRes := [(.tmp 2)]
theorem low87 : (Try.f87.body.bind (lowCode Try.prog Try.f87.ntmps)) = some L87 := by kernel_rfl
theorem res87 : lowRes Try.prog Try.f87.results.toList = some R87 := by kernel_rfl
theorem nm87 : (Try.f87.name == "runtime.NumGoroutine") = false := by kernel_rfl
theorem nt87 : 13 = Try.f87.ntmps := by kernel_rfl
theorem lf87 : LFok Try.prog ⟨87, 13, L87, R87, false⟩ := ⟨Try.f87, Try.func87, nm87, low87, res87, nt87⟩
/-- stile words.operators -/
def L88 : LC := (.seq (.region [⟨(some 0), none, (.alloc 145 38 true [.nilFunc, .nilFunc, .nilFunc, .nilFunc, .nilFunc, .nilFunc, .nilFunc, .nilFunc, .nilFunc, .nilFunc, .nilFunc, .nilFunc, .nilFunc, .nilFunc, .nilFunc, .nilFunc, .nilFunc, .nilFunc, .nilFunc, .nilFunc, .nilFunc, .nilFunc, .nilFunc, .nilFunc, .nilFunc, .nilFunc, .nilFunc, .nilFunc, .nilFunc, .nilFunc, .nilFunc, .nilFunc, .nilFunc, .nilFunc, .nilFunc, .nilFunc, .nilFunc, .nilFunc])⟩]) (.seq (.region [⟨(some 1), none, (.bld [.nilFunc, .nilFunc] [(0, (1, (.f 95)))])⟩, ⟨(some 2), none, (.bld [.nilFunc, .nilFunc] [(0, (1, (.f 96)))])⟩, ⟨(some 3), none, (.bld [.nilFunc, .nilFunc] [(0, (1, (.f 97)))])⟩, ⟨(some 4), none, (.bld [.nilFunc, .nilFunc] [(0, (1, (.f 98)))])⟩, ⟨(some 5), none, (.bld [.nilFunc, .nilFunc] [(0, (1, (.f 99)))])⟩, ⟨(some 6), none, (.bld [.nilFunc, .nilFunc] [(0, (1, (.f 100)))])⟩, ⟨(some 7), none, (.bld [.nilFunc, .nilFunc] [(0, (1, (.f 101)))])⟩, ⟨(some 8), none, (.bld [.nilFunc, .nilFunc] [(0, (1, (.f 102)))])⟩, ⟨(some 9), none, (.bld [.nilFunc, .nilFunc] [(0, (1, (.f 103)))])⟩, ⟨(some 10), none, (.bld [.nilFunc, .nilFunc] [(0, (1, (.f 104)))])⟩, ⟨(some 11), none, (.bld [.nilFunc, .nilFunc] [(0, (1, (.f 105)))])⟩, ⟨(some 12), none, (.bld [.nilFunc, .nilFunc] [(0, (1, (.f 106)))])⟩, ⟨(some 13), none, (.bld [.nilFunc, .nilFunc] [(0, (1, (.f 107)))])⟩, ⟨(some 14), none, (.bld [.nilFunc, .nilFunc] [(0, (1, (.f 108)))])⟩, ⟨(some 15), none, (.bld [.nilFunc, .nilFunc] [(0, (1, (.f 109)))])⟩, ⟨(some 16), none, (.bld [.nilFunc, .nilFunc] [(0, (1, (.f 110)))])⟩, ⟨(some 17), none, (.bld [.nilFunc, .nilFunc] [(1, (1, (.f 111)))])⟩, ⟨(some 18), none, (.bld [.nilFunc, .nilFunc] [(1, (1, (.f 112)))])⟩, ⟨(some 19), none, (.bld [.nilFunc, .nilFunc, .nilFunc, .nilFunc, .nilFunc, .nilFunc, .nilFunc, .nilFunc, .nilFunc, .nilFunc, .nilFunc, .nilFunc, .nilFunc, .nilFunc, .nilFunc, .nilFunc, .nilFunc, .nilFunc, .nilFunc, .nilFunc, .nilFunc, .nilFunc, .nilFunc, .nilFunc, .nilFunc, .nilFunc, .nilFunc, .nilFunc, .nilFunc, .nilFunc, .nilFunc, .nilFunc, .nilFunc, .nilFunc, .nilFunc, .nilFunc, .nilFunc, .nilFunc] [(2, (2, (.t 1))), (4, (2, (.t 2))), (6, (2, (.t 3))), (8, (2, (.t 4))), (10, (2, (.t 5))), (12, (2, (.t 6))), (14, (2, (.t 7))), (16, (2, (.t 8))), (18, (2, (.t 9))), (20, (2, (.t 10))), (22, (2, (.t 11))), (24, (2, (.t 12))), (26, (2, (.t 13))), (28, (2, (.t 14))), (30, (2, (.t 15))), (32, (2, (.t 16))), (34, (2, (.t 17))), (36, (2, (.t 18)))])⟩, ⟨none, none, (.st true 38 (.t 0) (.t 19))⟩]) .ret))
def R88 : List LRes := [(.cell 0 true 38)]
theorem low88 : (Try.f88.body.bind (lowCode Try.prog Try.f88.ntmps)) = some L88 := by kernel_rfl
theorem res88 : lowRes Try.prog Try.f88.results.toList = some R88 := by kernel_rfl
theorem nm88 : (Try.f88.name == "runtime.NumGoroutine") = false := by kernel_rfl
theorem nt88 : 20 = Try.f88.ntmps := by kernel_rfl
theorem lf88 : LFok Try.prog ⟨88, 20, L88, R88, false⟩ := ⟨Try.f88, Try.func88, nm88, low88, res88, nt88⟩
/-- stile words.known -/
def L89 : LC := (.seq (.region [⟨(some 2), none, (.mv (.c (.bool false)))⟩]) (.seq (.region [⟨(some 3), none, (.mv (.t 0))⟩, ⟨(some 4), none, (.bin .gtr (.t 3) (.c (.int .u8 0)))⟩, ⟨(some 5), none, (.mv (.t 4))⟩, ⟨(some 6), (some (5, true)), (.mv (.t 0))⟩, ⟨(some 7), (some (5, true)), (.bin .lss (.t 6) (.c (.int .u8 19)))⟩, ⟨(some 8), none, (.pick (.t 5) (.t 7) (.c (.bool false)))⟩, ⟨(some 2), none, (.mv (.t 8))⟩]) .ret))
def R89 : List LRes := [(.tmp 2)]
theorem low89 : (Try.f89.body.bind (lowCode Try.prog Try.f89.ntmps)) = some L89 := by kernel_rfl
theorem res89 : lowRes Try.prog Try.f89.results.toList = some R89 := by kernel_rfl
theorem nm89 : (Try.f89.name == "runtime.NumGoroutine") = false := by kernel_rfl
theorem nt89 : 9 = Try.f89.ntmps := by kernel_rfl
theorem lf89 : LFok Try.prog ⟨89, 9, L89, R89, false⟩ := ⟨Try.f89, Try.func89, nm89, low89, res89, nt89⟩
/-- stile lexer.digit -/
def L90 : LC := (.seq (.region [⟨(some 2), none, (.mv (.c (.bool false)))⟩]) (.seq (.region [⟨(some 3), none, (.mv (.t 0))⟩, ⟨(some 4), none, (.bin .geq (.t 3) (.c (.int .u8 48)))⟩, ⟨(some 5), none, (.mv (.t 4))⟩, ⟨(some 6), (some (5, true)), (.mv (.t 0))⟩, ⟨(some 7), (some (5, true)), (.bin .leq (.t 6) (.c (.int .u8 57)))⟩, ⟨(some 8), none, (.pick (.t 5) (.t 7) (.c (.bool false)))⟩, ⟨(some 2), none, (.mv (.t 8))⟩]) .ret))
def R90 : List LRes := [(.tmp 2)]
theorem low90 : (Try.f90.body.bind (lowCode Try.prog Try.f90.ntmps)) = some L90 := by kernel_rfl
theorem res90 : lowRes Try.prog Try.f90.results.toList = some R90 := by kernel_rfl
theorem nm90 : (Try.f90.name == "runtime.NumGoroutine") = false := by kernel_rfl
theorem nt90 : 9 = Try.f90.ntmps := by kernel_rfl
theorem lf90 : LFok Try.prog ⟨90, 9, L90, R90, false⟩ := ⟨Try.f90, Try.func90, nm90, low90, res90, nt90⟩
/-- stile lexer.Word -/
def L91 : LC := (.seq (.region [⟨(some 2), none, (.mv (.c (.bool false)))⟩]) (.seq (.seq (.region [⟨(some 3), none, (.mv (.t 0))⟩]) (.block 0 (.seq (.seq (.region [⟨(some 5), none, (.eqstr false (.t 3) (.c (.string ⟨(List.toArray [115, 104, 97, 114, 101, 100])⟩)))⟩, ⟨(some 4), none, (.mv (.t 5))⟩]) (.cond (.t 4) .skip (.seq (.region [⟨(some 6), none, (.eqstr false (.t 3) (.c (.string ⟨(List.toArray [108, 111, 99, 107])⟩)))⟩, ⟨(some 4), none, (.mv (.t 6))⟩]) (.cond (.t 4) .skip (.seq (.region [⟨(some 7), none, (.eqstr false (.t 3) (.c (.string ⟨(List.toArray [116, 104, 114, 101, 97, 100])⟩)))⟩, ⟨(some 4), none, (.mv (.t 7))⟩]) (.cond (.t 4) .skip (.seq (.region [⟨(some 8), none, (.eqstr false (.t 3) (.c (.string ⟨(List.toArray [108, 111, 99, 97, 108])⟩)))⟩, ⟨(some 4), none, (.mv (.t 8))⟩]) (.cond (.t 4) .skip (.seq (.region [⟨(some 9), none, (.eqstr false (.t 3) (.c (.string ⟨(List.toArray [105, 102])⟩)))⟩, ⟨(some 4), none, (.mv (.t 9))⟩]) (.cond (.t 4) .skip (.seq (.region [⟨(some 10), none, (.eqstr false (.t 3) (.c (.string ⟨(List.toArray [101, 108, 115, 101])⟩)))⟩, ⟨(some 4), none, (.mv (.t 10))⟩]) (.cond (.t 4) .skip (.seq (.region [⟨(some 11), none, (.eqstr false (.t 3) (.c (.string ⟨(List.toArray [119, 104, 105, 108, 101])⟩)))⟩, ⟨(some 4), none, (.mv (.t 11))⟩]) (.cond (.t 4) .skip (.seq (.region [⟨(some 12), none, (.eqstr false (.t 3) (.c (.string ⟨(List.toArray [112, 114, 105, 110, 116])⟩)))⟩, ⟨(some 4), none, (.mv (.t 12))⟩]) (.cond (.t 4) .skip (.seq (.region [⟨(some 13), none, (.eqstr false (.t 3) (.c (.string ⟨(List.toArray [115, 107, 105, 112])⟩)))⟩, ⟨(some 4), none, (.mv (.t 13))⟩]) (.cond (.t 4) .skip (.region [⟨(some 14), none, (.eqstr false (.t 3) (.c (.string ⟨(List.toArray [115, 119, 97, 112])⟩)))⟩, ⟨(some 4), none, (.mv (.t 14))⟩]))))))))))))))))))) (.cond (.t 4) (.seq (.region [⟨(some 2), none, (.mv (.c (.bool true)))⟩]) .ret) .skip)))) (.seq (.region [⟨(some 2), none, (.mv (.c (.bool false)))⟩]) .ret)))
def R91 : List LRes := [(.tmp 2)]
theorem low91 : (Try.f91.body.bind (lowCode Try.prog Try.f91.ntmps)) = some L91 := by kernel_rfl
theorem res91 : lowRes Try.prog Try.f91.results.toList = some R91 := by kernel_rfl
theorem nm91 : (Try.f91.name == "runtime.NumGoroutine") = false := by kernel_rfl
theorem nt91 : 15 = Try.f91.ntmps := by kernel_rfl
theorem lf91 : LFok Try.prog ⟨91, 15, L91, R91, false⟩ := ⟨Try.f91, Try.func91, nm91, low91, res91, nt91⟩
/-- stile lexer.letter -/
def L92 : LC := (.seq (.region [⟨(some 2), none, (.mv (.c (.bool false)))⟩]) (.seq (.region [⟨(some 3), none, (.mv (.t 0))⟩, ⟨(some 4), none, (.bin .geq (.t 3) (.c (.int .u8 97)))⟩, ⟨(some 5), none, (.mv (.t 4))⟩, ⟨(some 6), (some (5, true)), (.mv (.t 0))⟩, ⟨(some 7), (some (5, true)), (.bin .leq (.t 6) (.c (.int .u8 122)))⟩, ⟨(some 8), none, (.pick (.t 5) (.t 7) (.c (.bool false)))⟩, ⟨(some 9), none, (.mv (.t 8))⟩, ⟨(some 10), (some (9, false)), (.mv (.t 0))⟩, ⟨(some 11), (some (9, false)), (.bin .geq (.t 10) (.c (.int .u8 65)))⟩, ⟨(some 12), (some (9, false)), (.mv (.t 11))⟩, ⟨(some 13), (some (12, true)), (.mv (.t 0))⟩, ⟨(some 14), (some (12, true)), (.bin .leq (.t 13) (.c (.int .u8 90)))⟩, ⟨(some 15), (some (9, false)), (.pick (.t 12) (.t 14) (.c (.bool false)))⟩, ⟨(some 16), none, (.pick (.t 9) (.c (.bool true)) (.t 15))⟩, ⟨(some 17), none, (.mv (.t 16))⟩, ⟨(some 18), (some (17, false)), (.mv (.t 0))⟩, ⟨(some 19), (some (17, false)), (.bin .eql (.t 18) (.c (.int .u8 95)))⟩, ⟨(some 20), none, (.pick (.t 17) (.c (.bool true)) (.t 19))⟩, ⟨(some 2), none, (.mv (.t 20))⟩]) .ret))
def R92 : List LRes := [(.tmp 2)]
theorem low92 : (Try.f92.body.bind (lowCode Try.prog Try.f92.ntmps)) = some L92 := by kernel_rfl
theorem res92 : lowRes Try.prog Try.f92.results.toList = some R92 := by kernel_rfl
theorem nm92 : (Try.f92.name == "runtime.NumGoroutine") = false := by kernel_rfl
theorem nt92 : 21 = Try.f92.ntmps := by kernel_rfl
theorem lf92 : LFok Try.prog ⟨92, 21, L92, R92, false⟩ := ⟨Try.f92, Try.func92, nm92, low92, res92, nt92⟩
/-- slices.IndexFunc   stile api.Core,stile api.Core  -/
def L93 : LC := (.seq (.region [⟨(some 4), none, (.mv (.c (.int .i64 0)))⟩]) (.seq (.seq (.region [⟨(some 6), none, (.mv (.t 0))⟩, ⟨(some 7), none, (.len (.t 6))⟩, ⟨(some 8), none, (.mv (.c (.int .i64 0)))⟩]) (.block 0 (.loop (.seq (.region [⟨(some 9), none, (.bin .lss (.t 8) (.t 7))⟩]) (.seq (.cond (.t 9) .skip (.exit 0)) (.seq (.block 1 (.seq (.region [⟨(some 10), none, (.mv (.t 8))⟩, ⟨(some 5), none, (.mv (.t 10))⟩]) (.seq (.region [⟨(some 11), none, (.mv (.t 1))⟩, ⟨(some 12), none, (.mv (.t 0))⟩, ⟨(some 13), none, (.mv (.t 5))⟩, ⟨(some 14), none, (.ia 2 none (.t 12) (.t 13))⟩, ⟨(some 15), none, (.ld true 2 (.t 14))⟩, ⟨(some 16), none, (.call (.t 11) [(.t 15)])⟩]) (.cond (.t 16) (.seq (.region [⟨(some 17), none, (.mv (.t 5))⟩, ⟨(some 4), none, (.mv (.t 17))⟩]) .ret) .skip)))) (.region [⟨(some 18), none, (.bin .add (.t 8) (.c (.int .i64 1)))⟩, ⟨(some 8), none, (.mv (.t 18))⟩]))))))) (.seq (.region [⟨(some 4), none, (.mv (.c (.int .i64 (-1))))⟩]) .ret)))
def R93 : List LRes := [(.tmp 4)]
theorem low93 : (Try.f93.body.bind (lowCode Try.prog Try.f93.ntmps)) = some L93 := by kernel_rfl
theorem res93 : lowRes Try.prog Try.f93.results.toList = some R93 := by kernel_rfl
theorem nm93 : (Try.f93.name == "runtime.NumGoroutine") = false := by kernel_rfl
theorem nt93 : 19 = Try.f93.ntmps := by kernel_rfl
theorem lf93 : LFok Try.prog ⟨93, 19, L93, R93, false⟩ := ⟨Try.f93, Try.func93, nm93, low93, res93, nt93⟩
/-- stile target.forms -/
def L94 : LC := (.seq (.region [⟨(some 2), none, (.alloc 151 5 true [(.string ⟨(List.toArray [])⟩), (.int .u8 0), (.int .u8 0), (.int .u8 0), (.int .u8 0)])⟩, ⟨(some 3), none, (.mv (.c (.bool false)))⟩]) (.seq (.region [⟨(some 5), none, (.bld [(.int .u8 0), (.int .u8 0), (.int .u8 0), (.int .u8 0)] [(0, (1, (.c (.int .u8 2)))), (1, (1, (.c (.int .u8 64))))])⟩, ⟨(some 6), none, (.bld [(.string ⟨(List.toArray [])⟩), (.int .u8 0), (.int .u8 0), (.int .u8 0), (.int .u8 0)] [(0, (1, (.c (.string ⟨(List.toArray [115, 101, 116])⟩)))), (1, (4, (.t 5)))])⟩, ⟨(some 7), none, (.bld [(.int .u8 0), (.int .u8 0), (.int .u8 0), (.int .u8 0)] [(0, (1, (.c (.int .u8 1)))), (1, (1, (.c (.int .u8 2)))), (2, (1, (.c (.int .u8 4)))), (3, (1, (.c (.int .u8 8))))])⟩, ⟨(some 8), none, (.bld [(.string ⟨(List.toArray [])⟩), (.int .u8 0), (.int .u8 0), (.int .u8 0), (.int .u8 0)] [(0, (1, (.c (.string ⟨(List.toArray [])⟩)))), (1, (4, (.t 7)))])⟩, ⟨(some 9), none, (.bld [(.int .u8 0), (.int .u8 0), (.int .u8 0), (.int .u8 0)] [(0, (1, (.c (.int .u8 2)))), (1, (1, (.c (.int .u8 16))))])⟩, ⟨(some 10), none, (.bld [(.string ⟨(List.toArray [])⟩), (.int .u8 0), (.int .u8 0), (.int .u8 0), (.int .u8 0)] [(0, (1, (.c (.string ⟨(List.toArray [108, 111, 97, 100])⟩)))), (1, (4, (.t 9)))])⟩, ⟨(some 11), none, (.bld [(.int .u8 0), (.int .u8 0), (.int .u8 0), (.int .u8 0)] [(0, (1, (.c (.int .u8 4)))), (1, (1, (.c (.int .u8 16))))])⟩, ⟨(some 12), none, (.bld [(.string ⟨(List.toArray [])⟩), (.int .u8 0), (.int .u8 0), (.int .u8 0), (.int .u8 0)] [(0, (1, (.c (.string ⟨(List.toArray [115, 116, 111, 114, 101])⟩)))), (1, (4, (.t 11)))])⟩, ⟨(some 13), none, (.bld [(.int .u8 0), (.int .u8 0), (.int .u8 0), (.int .u8 0)] [(0, (1, (.c (.int .u8 2)))), (1, (1, (.c (.int .u8 16))))])⟩, ⟨(some 14), none, (.bld [(.string ⟨(List.toArray [])⟩), (.int .u8 0), (.int .u8 0), (.int .u8 0), (.int .u8 0)] [(0, (1, (.c (.string ⟨(List.toArray [115, 119, 97, 112])⟩)))), (1, (4, (.t 13)))])⟩, ⟨(some 15), none, (.bld [(.int .u8 0), (.int .u8 0), (.int .u8 0), (.int .u8 0)] [])⟩, ⟨(some 16), none, (.bld [(.string ⟨(List.toArray [])⟩), (.int .u8 0), (.int .u8 0), (.int .u8 0), (.int .u8 0)] [(0, (1, (.c (.string ⟨(List.toArray [102, 101, 110, 99, 101])⟩)))), (1, (4, (.t 15)))])⟩, ⟨(some 17), none, (.bld [(.int .u8 0), (.int .u8 0), (.int .u8 0), (.int .u8 0)] [(0, (1, (.c (.int .u8 4))))])⟩, ⟨(some 18), none, (.bld [(.string ⟨(List.toArray [])⟩), (.int .u8 0), (.int .u8 0), (.int .u8 0), (.int .u8 0)] [(0, (1, (.c (.string ⟨(List.toArray [112, 114, 105, 110, 116])⟩)))), (1, (4, (.t 17)))])⟩, ⟨(some 19), none, (.bld [(.int .u8 0), (.int .u8 0), (.int .u8 0), (.int .u8 0)] [(0, (1, (.c (.int .u8 32))))])⟩, ⟨(some 20), none, (.bld [(.string ⟨(List.toArray [])⟩), (.int .u8 0), (.int .u8 0), (.int .u8 0), (.int .u8 0)] [(0, (1, (.c (.string ⟨(List.toArray [106, 117, 109, 112])⟩)))), (1, (4, (.t 19)))])⟩, ⟨(some 21), none, (.bld [(.int .u8 0), (.int .u8 0), (.int .u8 0), (.int .u8 0)] [(0, (1, (.c (.int .u8 4)))), (1, (1, (.c (.int .u8 32))))])⟩, ⟨(some 22), none, (.bld [(.string ⟨(List.toArray [])⟩), (.int .u8 0), (.int .u8 0), (.int .u8 0), (.int .u8 0)] [(0, (1, (.c (.string ⟨(List.toArray [122, 101, 114, 111])⟩)))), (1, (4, (.t 21)))])⟩, ⟨(some 23), none, (.bld [(.int .u8 0), (.int .u8 0), (.int .u8 0), (.int .u8 0)] [])⟩, ⟨(some 24), none, (.bld [(.string ⟨(List.toArray [])⟩), (.int .u8 0), (.int .u8 0), (.int .u8 0), (.int .u8 0)] [(0, (1, (.c (.string ⟨(List.toArray [104, 97, 108, 116])⟩)))), (1, (4, (.t 23)))])⟩, ⟨(some 25), none, (.bld [(.string ⟨(List.toArray [])⟩), (.int .u8 0), (.int .u8 0), (.int .u8 0), (.int .u8 0), (.string ⟨(List.toArray [])⟩), (.int .u8 0), (.int .u8 0), (.int .u8 0), (.int .u8 0), (.string ⟨(List.toArray [])⟩), (.int .u8 0), (.int .u8 0), (.int .u8 0), (.int .u8 0), (.string ⟨(List.toArray [])⟩), (.int .u8 0), (.int .u8 0), (.int .u8 0), (.int .u8 0), (.string ⟨(List.toArray [])⟩), (.int .u8 0), (.int .u8 0), (.int .u8 0), (.int .u8 0), (.string ⟨(List.toArray [])⟩), (.int .u8 0), (.int .u8 0), (.int .u8 0), (.int .u8 0), (.string ⟨(List.toArray [])⟩), (.int .u8 0), (.int .u8 0), (.int .u8 0), (.int .u8 0), (.string ⟨(List.toArray [])⟩), (.int .u8 0), (.int .u8 0), (.int .u8 0), (.int .u8 0), (.string ⟨(List.toArray [])⟩), (.int .u8 0), (.int .u8 0), (.int .u8 0), (.int .u8 0), (.string ⟨(List.toArray [])⟩), (.int .u8 0), (.int .u8 0), (.int .u8 0), (.int .u8 0), (.string ⟨(List.toArray [])⟩), (.int .u8 0), (.int .u8 0), (.int .u8 0), (.int .u8 0)] [(5, (5, (.t 6))), (10, (5, (.t 8))), (15, (5, (.t 10))), (20, (5, (.t 12))), (25, (5, (.t 14))), (30, (5, (.t 16))), (35, (5, (.t 18))), (40, (5, (.t 20))), (45, (5, (.t 22))), (50, (5, (.t 24)))])⟩, ⟨(some 4), none, (.alloc 156 55 true [(.string ⟨(List.toArray [])⟩), (.int .u8 0), (.int .u8 0), (.int .u8 0), (.int .u8 0), (.string ⟨(List.toArray [])⟩), (.int .u8 0), (.int .u8 0), (.int .u8 0), (.int .u8 0), (.string ⟨(List.toArray [])⟩), (.int .u8 0), (.int .u8 0), (.int .u8 0), (.int .u8 0), (.string ⟨(List.toArray [])⟩), (.int .u8 0), (.int .u8 0), (.int .u8 0), (.int .u8 0), (.string ⟨(List.toArray [])⟩), (.int .u8 0), (.int .u8 0), (.int .u8 0), (.int .u8 0), (.string ⟨(List.toArray [])⟩), (.int .u8 0), (.int .u8 0), (.int .u8 0), (.int .u8 0), (.string ⟨(List.toArray [])⟩), (.int .u8 0), (.int .u8 0), (.int .u8 0), (.int .u8 0), (.string ⟨(List.toArray [])⟩), (.int .u8 0), (.int .u8 0), (.int .u8 0), (.int .u8 0), (.string ⟨(List.toArray [])⟩), (.int .u8 0), (.int .u8 0), (.int .u8 0), (.int .u8 0), (.string ⟨(List.toArray [])⟩), (.int .u8 0), (.int .u8 0), (.int .u8 0), (.int .u8 0), (.string ⟨(List.toArray [])⟩), (.int .u8 0), (.int .u8 0), (.int .u8 0), (.int .u8 0)])⟩, ⟨none, none, (.st true 55 (.t 4) (.t 25))⟩]) (.seq (.seq (.region [⟨(some 26), none, (.mv (.t 0))⟩, ⟨(some 27), none, (.bin .eql (.t 26) (.c (.int .u8 0)))⟩, ⟨(some 28), none, (.mv (.t 27))⟩, ⟨(some 29), (some (28, false)), (.mv (.t 0))⟩, ⟨(some 30), (some (28, false)), (.cvt .i64 (.t 29))⟩, ⟨(some 31), (some (28, false)), (.bin .geq (.t 30) (.c (.int .i64 11)))⟩, ⟨(some 32), none, (.pick (.t 28) (.c (.bool true)) (.t 31))⟩]) (.cond (.t 32) (.seq (.region [⟨(some 33), none, (.bld [(.string ⟨(List.toArray [])⟩), (.int .u8 0), (.int .u8 0), (.int .u8 0), (.int .u8 0)] [])⟩, ⟨none, none, (.st true 5 (.t 2) (.t 33))⟩, ⟨(some 3), none, (.mv (.c (.bool false)))⟩]) .ret) .skip)) (.seq (.region [⟨(some 34), none, (.mv (.t 0))⟩, ⟨(some 35), none, (.ia 5 (some 11) (.t 4) (.t 34))⟩, ⟨(some 36), none, (.ld true 5 (.t 35))⟩, ⟨none, none, (.st true 5 (.t 2) (.t 36))⟩, ⟨(some 3), none, (.mv (.c (.bool true)))⟩]) .ret))))
def R94 : List LRes := [(.cell 2 true 5), (.tmp 3)]
theorem low94 : (Try.f94.body.bind (lowCode Try.prog Try.f94.ntmps)) = some L94 := by kernel_rfl
theorem res94 : lowRes Try.prog Try.f94.results.toList = some R94 := by kernel_rfl
theorem nm94 : (Try.f94.name == "runtime.NumGoroutine") = false := by kernel_rfl
theorem nt94 : 37 = Try.f94.ntmps := by kernel_rfl
theorem lf94 : LFok Try.prog ⟨94, 37, L94, R94, false⟩ := ⟨Try.f94, Try.func94, nm94, low94, res94, nt94⟩
/--  stile words.word .add -/
def L95 : LC := (.seq (.region [⟨(some 4), none, (.mv (.c (.int .i64 0)))⟩]) (.seq (.region [⟨(some 5), none, (.mv (.t 0))⟩, ⟨(some 6), none, (.mv (.t 1))⟩, ⟨(some 7), none, (.bin .add (.t 5) (.t 6))⟩, ⟨(some 4), none, (.mv (.t 7))⟩]) .ret))
def R95 : List LRes := [(.tmp 4)]
theorem low95 : (Try.f95.body.bind (lowCode Try.prog Try.f95.ntmps)) = some L95 := by kernel_rfl
theorem res95 : lowRes Try.prog Try.f95.results.toList = some R95 := by kernel_rfl
theorem nm95 : (Try.f95.name == "runtime.NumGoroutine") = false := by kernel_rfl
theorem nt95 : 8 = Try.f95.ntmps := by kernel_rfl
theorem lf95 : LFok Try.prog ⟨95, 8, L95, R95, false⟩ := ⟨Try.f95, Try.func95, nm95, low95, res95, nt95⟩
/--  stile words.word .sub -/
def L96 : LC := (.seq (.region [⟨(some 4), none, (.mv (.c (.int .i64 0)))⟩]) (.seq (.region [⟨(some 5), none, (.mv (.t 0))⟩, ⟨(some 6), none, (.mv (.t 1))⟩, ⟨(some 7), none, (.bin .sub (.t 5) (.t 6))⟩, ⟨(some 4), none, (.mv (.t 7))⟩]) .ret))
def R96 : List LRes := [(.tmp 4)]
theorem low96 : (Try.f96.body.bind (lowCode Try.prog Try.f96.ntmps)) = some L96 := by kernel_rfl
theorem res96 : lowRes Try.prog Try.f96.results.toList = some R96 := by kernel_rfl
theorem nm96 : (Try.f96.name == "runtime.NumGoroutine") = false := by kernel_rfl
theorem nt96 : 8 = Try.f96.ntmps := by kernel_rfl
theorem lf96 : LFok Try.prog ⟨96, 8, L96, R96, false⟩ := ⟨Try.f96, Try.func96, nm96, low96, res96, nt96⟩
/--  stile words.word .mul -/
def L97 : LC := (.seq (.region [⟨(some 4), none, (.mv (.c (.int .i64 0)))⟩]) (.seq (.region [⟨(some 5), none, (.mv (.t 0))⟩, ⟨(some 6), none, (.mv (.t 1))⟩, ⟨(some 7), none, (.bin .mul (.t 5) (.t 6))⟩, ⟨(some 4), none, (.mv (.t 7))⟩]) .ret))
def R97 : List LRes := [(.tmp 4)]
theorem low97 : (Try.f97.body.bind (lowCode Try.prog Try.f97.ntmps)) = some L97 := by kernel_rfl
theorem res97 : lowRes Try.prog Try.f97.results.toList = some R97 := by kernel_rfl
theorem nm97 : (Try.f97.name == "runtime.NumGoroutine") = false := by kernel_rfl
theorem nt97 : 8 = Try.f97.ntmps := by kernel_rfl
theorem lf97 : LFok Try.prog ⟨97, 8, L97, R97, false⟩ := ⟨Try.f97, Try.func97, nm97, low97, res97, nt97⟩
/--  stile words.word .div -/
def L98 : LC := (.seq (.region [⟨(some 4), none, (.mv (.c (.int .i64 0)))⟩]) (.seq (.seq (.region [⟨(some 5), none, (.mv (.t 1))⟩]) (.block 0 (.seq (.region [⟨(some 7), none, (.bin .eql (.t 5) (.c (.int .i64 0)))⟩, ⟨(some 6), none, (.mv (.t 7))⟩]) (.cond (.t 6) (.seq (.region [⟨(some 4), none, (.mv (.c (.int .i64 0)))⟩]) .ret) (.seq (.region [⟨(some 9), none, (.bin .eql (.t 5) (.c (.int .i64 (-1))))⟩, ⟨(some 8), none, (.mv (.t 9))⟩]) (.cond (.t 8) (.seq (.region [⟨(some 10), none, (.mv (.t 0))⟩, ⟨(some 11), none, (.un .neg (.t 10))⟩, ⟨(some 4), none, (.mv (.t 11))⟩]) .ret) .skip)))))) (.seq (.region [⟨(some 12), none, (.mv (.t 0))⟩, ⟨(some 13), none, (.mv (.t 1))⟩, ⟨(some 14), none, (.bin .quo (.t 12) (.t 13))⟩, ⟨(some 4), none, (.mv (.t 14))⟩]) .ret)))
def R98 : List LRes := [(.tmp 4)]
theorem low98 : (Try.f98.body.bind (lowCode Try.prog Try.f98.ntmps)) = some L98 := by kernel_rfl
theorem res98 : lowRes Try.prog Try.f98.results.toList = some R98 := by kernel_rfl
theorem nm98 : (Try.f98.name == "runtime.NumGoroutine") = false := by kernel_rfl
theorem nt98 : 15 = Try.f98.ntmps := by kernel_rfl
theorem lf98 : LFok Try.prog ⟨98, 15, L98, R98, false⟩ := ⟨Try.f98, Try.func98, nm98, low98, res98, nt98⟩
/--  stile words.word .rem -/
def L99 : LC := (.seq (.region [⟨(some 4), none, (.mv (.c (.int .i64 0)))⟩]) (.seq (.seq (.region [⟨(some 5), none, (.mv (.t 1))⟩, ⟨(some 6), none, (.bin .eql (.t 5) (.c (.int .i64 0)))⟩]) (.cond (.t 6) (.seq (.region [⟨(some 7), none, (.mv (.t 0))⟩, ⟨(some 4), none, (.mv (.t 7))⟩]) .ret) .skip)) (.seq (.region [⟨(some 8), none, (.mv (.t 0))⟩, ⟨(some 9), none, (.mv (.t 0))⟩, ⟨(some 10), none, (.mv (.t 1))⟩, ⟨(some 11), none, (.call (.f 98) [(.t 9), (.t 10)])⟩, ⟨(some 12), none, (.mv (.t 1))⟩, ⟨(some 13), none, (.bin .mul (.t 11) (.t 12))⟩, ⟨(some 14), none, (.bin .sub (.t 8) (.t 13))⟩, ⟨(some 4), none, (.mv (.t 14))⟩]) .ret)))
def R99 : List LRes := [(.tmp 4)]
theorem low99 : (Try.f99.body.bind (lowCode Try.prog Try.f99.ntmps)) = some L99 := by kernel_rfl
theorem res99 : lowRes Try.prog Try.f99.results.toList = some R99 := by kernel_rfl
theorem nm99 : (Try.f99.name == "runtime.NumGoroutine") = false := by kernel_rfl
theorem nt99 : 15 = Try.f99.ntmps := by kernel_rfl
theorem lf99 : LFok Try.prog ⟨99, 15, L99, R99, false⟩ := ⟨Try.f99, Try.func99, nm99, low99, res99, nt99⟩
/--  stile words.word .and -/
def L100 : LC := (.seq (.region [⟨(some 4), none, (.mv (.c (.int .i64 0)))⟩]) (.seq (.region [⟨(some 5), none, (.mv (.t 0))⟩, ⟨(some 6), none, (.mv (.t 1))⟩, ⟨(some 7), none, (.bin .and (.t 5) (.t 6))⟩, ⟨(some 4), none, (.mv (.t 7))⟩]) .ret))
def R100 : List LRes := [(.tmp 4)]
theorem low100 : (Try.f100.body.bind (lowCode Try.prog Try.f100.ntmps)) = some L100 := by kernel_rfl
theorem res100 : lowRes Try.prog Try.f100.results.toList = some R100 := by kernel_rfl
theorem nm100 : (Try.f100.name == "runtime.NumGoroutine") = false := by kernel_rfl
theorem nt100 : 8 = Try.f100.ntmps := by kernel_rfl
theorem lf100 : LFok Try.prog ⟨100, 8, L100, R100, false⟩ := ⟨Try.f100, Try.func100, nm100, low100, res100, nt100⟩
/--  stile words.word .or -/
def L101 : LC := (.seq (.region [⟨(some 4), none, (.mv (.c (.int .i64 0)))⟩]) (.seq (.region [⟨(some 5), none, (.mv (.t 0))⟩, ⟨(some 6), none, (.mv (.t 1))⟩, ⟨(some 7), none, (.bin .or (.t 5) (.t 6))⟩, ⟨(some 4), none, (.mv (.t 7))⟩]) .ret))
def R101 : List LRes := [(.tmp 4)]
theorem low101 : (Try.f101.body.bind (lowCode Try.prog Try.f101.ntmps)) = some L101 := by kernel_rfl
theorem res101 : lowRes Try.prog Try.f101.results.toList = some R101 := by kernel_rfl
theorem nm101 : (Try.f101.name == "runtime.NumGoroutine") = false := by kernel_rfl
theorem nt101 : 8 = Try.f101.ntmps := by kernel_rfl
theorem lf101 : LFok Try.prog ⟨101, 8, L101, R101, false⟩ := ⟨Try.f101, Try.func101, nm101, low101, res101, nt101⟩
/--  stile words.word .xor -/
def L102 : LC := (.seq (.region [⟨(some 4), none, (.mv (.c (.int .i64 0)))⟩]) (.seq (.region [⟨(some 5), none, (.mv (.t 0))⟩, ⟨(some 6), none, (.mv (.t 1))⟩, ⟨(some 7), none, (.bin .xor (.t 5) (.t 6))⟩, ⟨(some 4), none, (.mv (.t 7))⟩]) .ret))
def R102 : List LRes := [(.tmp 4)]
theorem low102 : (Try.f102.body.bind (lowCode Try.prog Try.f102.ntmps)) = some L102 := by kernel_rfl
theorem res102 : lowRes Try.prog Try.f102.results.toList = some R102 := by kernel_rfl
theorem nm102 : (Try.f102.name == "runtime.NumGoroutine") = false := by kernel_rfl
theorem nt102 : 8 = Try.f102.ntmps := by kernel_rfl
theorem lf102 : LFok Try.prog ⟨102, 8, L102, R102, false⟩ := ⟨Try.f102, Try.func102, nm102, low102, res102, nt102⟩
/--  stile words.word .shl -/
def L103 : LC := (.seq (.region [⟨(some 4), none, (.mv (.c (.int .i64 0)))⟩]) (.seq (.region [⟨(some 5), none, (.mv (.t 0))⟩, ⟨(some 6), none, (.mv (.t 1))⟩, ⟨(some 7), none, (.cvt .u64 (.t 6))⟩, ⟨(some 8), none, (.bin .and (.t 7) (.c (.int .u64 63)))⟩, ⟨(some 9), none, (.bin .shl (.t 5) (.t 8))⟩, ⟨(some 4), none, (.mv (.t 9))⟩]) .ret))
def R103 : List LRes := [(.tmp 4)]
theorem low103 : (Try.f103.body.bind (lowCode Try.prog Try.f103.ntmps)) = some L103 := by kernel_rfl
theorem res103 : lowRes Try.prog Try.f103.results.toList = some R103 := by kernel_rfl
theorem nm103 : (Try.f103.name == "runtime.NumGoroutine") = false := by kernel_rfl
theorem nt103 : 10 = Try.f103.ntmps := by kernel_rfl
theorem lf103 : LFok Try.prog ⟨103, 10, L103, R103, false⟩ := ⟨Try.f103, Try.func103, nm103, low103, res103, nt103⟩
/--  stile words.word .shr -/
def L104 : LC := (.seq (.region [⟨(some 4), none, (.mv (.c (.int .i64 0)))⟩]) (.seq (.region [⟨(some 5), none, (.mv (.t 0))⟩, ⟨(some 6), none, (.mv (.t 1))⟩, ⟨(some 7), none, (.cvt .u64 (.t 6))⟩, ⟨(some 8), none, (.bin .and (.t 7) (.c (.int .u64 63)))⟩, ⟨(some 9), none, (.bin .shr (.t 5) (.t 8))⟩, ⟨(some 4), none, (.mv (.t 9))⟩]) .ret))
def R104 : List LRes := [(.tmp 4)]
theorem low104 : (Try.f104.body.bind (lowCode Try.prog Try.f104.ntmps)) = some L104 := by kernel_rfl
theorem res104 : lowRes Try.prog Try.f104.results.toList = some R104 := by kernel_rfl
theorem nm104 : (Try.f104.name == "runtime.NumGoroutine") = false := by kernel_rfl
theorem nt104 : 10 = Try.f104.ntmps := by kernel_rfl
theorem lf104 : LFok Try.prog ⟨104, 10, L104, R104, false⟩ := ⟨Try.f104, Try.func104, nm104, low104, res104, nt104⟩
/--  stile words.word .is -/
def L105 : LC := (.seq (.region [⟨(some 4), none, (.mv (.c (.int .i64 0)))⟩]) (.seq (.region [⟨(some 5), none, (.mv (.t 0))⟩, ⟨(some 6), none, (.mv (.t 1))⟩, ⟨(some 7), none, (.bin .eql (.t 5) (.t 6))⟩, ⟨(some 8), none, (.call (.f 113) [(.t 7)])⟩, ⟨(some 4), none, (.mv (.t 8))⟩]) .ret))
def R105 : List LRes := [(.tmp 4)]
theorem low105 : (Try.f105.body.bind (lowCode Try.prog Try.f105.ntmps)) = some L105 := by kernel_rfl
theorem res105 : lowRes Try.prog Try.f105.results.toList = some R105 := by kernel_rfl
theorem nm105 : (Try.f105.name == "runtime.NumGoroutine") = false := by kernel_rfl
theorem nt105 : 9 = Try.f105.ntmps := by kernel_rfl
theorem lf105 : LFok Try.prog ⟨105, 9, L105, R105, false⟩ := ⟨Try.f105, Try.func105, nm105, low105, res105, nt105⟩
/--  stile words.word .isNot -/
def L106 : LC := (.seq (.region [⟨(some 4), none, (.mv (.c (.int .i64 0)))⟩]) (.seq (.region [⟨(some 5), none, (.mv (.t 0))⟩, ⟨(some 6), none, (.mv (.t 1))⟩, ⟨(some 7), none, (.bin .neq (.t 5) (.t 6))⟩, ⟨(some 8), none, (.call (.f 113) [(.t 7)])⟩, ⟨(some 4), none, (.mv (.t 8))⟩]) .ret))
def R106 : List LRes := [(.tmp 4)]
theorem low106 : (Try.f106.body.bind (lowCode Try.prog Try.f106.ntmps)) = some L106 := by kernel_rfl
theorem res106 : lowRes Try.prog Try.f106.results.toList = some R106 := by kernel_rfl
theorem nm106 : (Try.f106.name == "runtime.NumGoroutine") = false := by kernel_rfl
theorem nt106 : 9 = Try.f106.ntmps := by kernel_rfl
theorem lf106 : LFok Try.prog ⟨106, 9, L106, R106, false⟩ := ⟨Try.f106, Try.func106, nm106, low106, res106, nt106⟩
/--  stile words.word .less -/
def L107 : LC := (.seq (.region [⟨(some 4), none, (.mv (.c (.int .i64 0)))⟩]) (.seq (.region [⟨(some 5), none, (.mv (.t 0))⟩, ⟨(some 6), none, (.mv (.t 1))⟩, ⟨(some 7), none, (.bin .lss (.t 5) (.t 6))⟩, ⟨(some 8), none, (.call (.f 113) [(.t 7)])⟩, ⟨(some 4), none, (.mv (.t 8))⟩]) .ret))
def R107 : List LRes := [(.tmp 4)]
theorem low107 : (Try.f107.body.bind (lowCode Try.prog Try.f107.ntmps)) = some L107 := by kernel_rfl
theorem res107 : lowRes Try.prog Try.f107.results.toList = some R107 := by kernel_rfl
theorem nm107 : (Try.f107.name == "runtime.NumGoroutine") = false := by kernel_rfl
theorem nt107 : 9 = Try.f107.ntmps := by kernel_rfl
theorem lf107 : LFok Try.prog ⟨107, 9, L107, R107, false⟩ := ⟨Try.f107, Try.func107, nm107, low107, res107, nt107⟩
/--  stile words.word .most -/
def L108 : LC := (.seq (.region [⟨(some 4), none, (.mv (.c (.int .i64 0)))⟩]) (.seq (.region [⟨(some 5), none, (.mv (.t 0))⟩, ⟨(some 6), none, (.mv (.t 1))⟩, ⟨(some 7), none, (.bin .leq (.t 5) (.t 6))⟩, ⟨(some 8), none, (.call (.f 113) [(.t 7)])⟩, ⟨(some 4), none, (.mv (.t 8))⟩]) .ret))
def R108 : List LRes := [(.tmp 4)]
theorem low108 : (Try.f108.body.bind (lowCode Try.prog Try.f108.ntmps)) = some L108 := by kernel_rfl
theorem res108 : lowRes Try.prog Try.f108.results.toList = some R108 := by kernel_rfl
theorem nm108 : (Try.f108.name == "runtime.NumGoroutine") = false := by kernel_rfl
theorem nt108 : 9 = Try.f108.ntmps := by kernel_rfl
theorem lf108 : LFok Try.prog ⟨108, 9, L108, R108, false⟩ := ⟨Try.f108, Try.func108, nm108, low108, res108, nt108⟩
/--  stile words.word .above -/
def L109 : LC := (.seq (.region [⟨(some 4), none, (.mv (.c (.int .i64 0)))⟩]) (.seq (.region [⟨(some 5), none, (.mv (.t 0))⟩, ⟨(some 6), none, (.mv (.t 1))⟩, ⟨(some 7), none, (.bin .gtr (.t 5) (.t 6))⟩, ⟨(some 8), none, (.call (.f 113) [(.t 7)])⟩, ⟨(some 4), none, (.mv (.t 8))⟩]) .ret))
def R109 : List LRes := [(.tmp 4)]
theorem low109 : (Try.f109.body.bind (lowCode Try.prog Try.f109.ntmps)) = some L109 := by kernel_rfl
theorem res109 : lowRes Try.prog Try.f109.results.toList = some R109 := by kernel_rfl
theorem nm109 : (Try.f109.name == "runtime.NumGoroutine") = false := by kernel_rfl
theorem nt109 : 9 = Try.f109.ntmps := by kernel_rfl
theorem lf109 : LFok Try.prog ⟨109, 9, L109, R109, false⟩ := ⟨Try.f109, Try.func109, nm109, low109, res109, nt109⟩
/--  stile words.word .least -/
def L110 : LC := (.seq (.region [⟨(some 4), none, (.mv (.c (.int .i64 0)))⟩]) (.seq (.region [⟨(some 5), none, (.mv (.t 0))⟩, ⟨(some 6), none, (.mv (.t 1))⟩, ⟨(some 7), none, (.bin .geq (.t 5) (.t 6))⟩, ⟨(some 8), none, (.call (.f 113) [(.t 7)])⟩, ⟨(some 4), none, (.mv (.t 8))⟩]) .ret))
def R110 : List LRes := [(.tmp 4)]
theorem low110 : (Try.f110.body.bind (lowCode Try.prog Try.f110.ntmps)) = some L110 := by kernel_rfl
theorem res110 : lowRes Try.prog Try.f110.results.toList = some R110 := by kernel_rfl
theorem nm110 : (Try.f110.name == "runtime.NumGoroutine") = false := by kernel_rfl
theorem nt110 : 9 = Try.f110.ntmps := by kernel_rfl
theorem lf110 : LFok Try.prog ⟨110, 9, L110, R110, false⟩ := ⟨Try.f110, Try.func110, nm110, low110, res110, nt110⟩
/--  stile words.word .minus -/
def L111 : LC := (.seq (.region [⟨(some 2), none, (.mv (.c (.int .i64 0)))⟩]) (.seq (.region [⟨(some 3), none, (.mv (.t 0))⟩, ⟨(some 4), none, (.un .neg (.t 3))⟩, ⟨(some 2), none, (.mv (.t 4))⟩]) .ret))
def R111 : List LRes := [(.tmp 2)]
theorem low111 : (Try.f111.body.bind (lowCode Try.prog Try.f111.ntmps)) = some L111 := by kernel_rfl
theorem res111 : lowRes Try.prog Try.f111.results.toList = some R111 := by kernel_rfl
theorem nm111 : (Try.f111.name == "runtime.NumGoroutine") = false := by kernel_rfl
theorem nt111 : 5 = Try.f111.ntmps := by kernel_rfl
theorem lf111 : LFok Try.prog ⟨111, 5, L111, R111, false⟩ := ⟨Try.f111, Try.func111, nm111, low111, res111, nt111⟩
/--  stile words.word .not -/
def L112 : LC := (.seq (.region [⟨(some 2), none, (.mv (.c (.int .i64 0)))⟩]) (.seq (.region [⟨(some 3), none, (.mv (.t 0))⟩, ⟨(some 4), none, (.bin .eql (.t 3) (.c (.int .i64 0)))⟩, ⟨(some 5), none, (.call (.f 113) [(.t 4)])⟩, ⟨(some 2), none, (.mv (.t 5))⟩]) .ret))
def R112 : List LRes := [(.tmp 2)]
theorem low112 : (Try.f112.body.bind (lowCode Try.prog Try.f112.ntmps)) = some L112 := by kernel_rfl
theorem res112 : lowRes Try.prog Try.f112.results.toList = some R112 := by kernel_rfl
theorem nm112 : (Try.f112.name == "runtime.NumGoroutine") = false := by kernel_rfl
theorem nt112 : 6 = Try.f112.ntmps := by kernel_rfl
theorem lf112 : LFok Try.prog ⟨112, 6, L112, R112, false⟩ := ⟨Try.f112, Try.func112, nm112, low112, res112, nt112⟩
/-- stile words.truth -/
def L113 : LC := (.seq (.region [⟨(some 2), none, (.mv (.c (.int .i64 0)))⟩]) (.seq (.seq (.region [⟨(some 3), none, (.mv (.t 0))⟩]) (.cond (.t 3) (.seq (.region [⟨(some 2), none, (.mv (.c (.int .i64 1)))⟩]) .ret) .skip)) (.seq (.region [⟨(some 2), none, (.mv (.c (.int .i64 0)))⟩]) .ret)))
def R113 : List LRes := [(.tmp 2)]
theorem low113 : (Try.f113.body.bind (lowCode Try.prog Try.f113.ntmps)) = some L113 := by kernel_rfl
theorem res113 : lowRes Try.prog Try.f113.results.toList = some R113 := by kernel_rfl
theorem nm113 : (Try.f113.name == "runtime.NumGoroutine") = false := by kernel_rfl
theorem nt113 : 4 = Try.f113.ntmps := by kernel_rfl
theorem lf113 : LFok Try.prog ⟨113, 4, L113, R113, false⟩ := ⟨Try.f113, Try.func113, nm113, low113, res113, nt113⟩
end Go.Proofs.Ytliabecchkolgaa
