import Derived.Test.YtflicfkgbjmffaaProg
import Derived.Test.YtflicfkgbjmffaaM9
import Derived.KernelRfl
section
/- The lowered code of some functions, as a program printed it; each is held against the loaded program by the kernel. -/
namespace Go.Proofs.Ytflicfkgbjmffaa
open Go Go.Abs Go.Proofs
def L78 : LC := (.seq (.region [oN 4 (.mv (cI 0))]) (.seq (.region [oN 5 (.mv 0), oN 6 (.mv 1), oN 7 (.bin .add 5 6), oN 4 (.mv 7)]) .ret))
def R78 : List LRes := [(.tmp 4)]
theorem low78 : (Try.f78.body.bind (lowCode Try.prog Try.f78.ntmps)) = some L78 := by kernel_rfl
theorem res78 : lowRes Try.prog Try.f78.results.toList = some R78 := by kernel_rfl
theorem nm78 : (Try.f78.name == "runtime.NumGoroutine") = false := by kernel_rfl
theorem nt78 : 8 = Try.f78.ntmps := by kernel_rfl
theorem lf78 : LFok Try.prog ⟨78, 8, L78, R78, false⟩ := ⟨Try.f78, Try.func78, nm78, low78, res78, nt78⟩
def L79 : LC := (.seq (.region [oN 4 (.mv (cI 0))]) (.seq (.region [oN 5 (.mv 0), oN 6 (.mv 1), oN 7 (.bin .sub 5 6), oN 4 (.mv 7)]) .ret))
def R79 : List LRes := [(.tmp 4)]
theorem low79 : (Try.f79.body.bind (lowCode Try.prog Try.f79.ntmps)) = some L79 := by kernel_rfl
theorem res79 : lowRes Try.prog Try.f79.results.toList = some R79 := by kernel_rfl
theorem nm79 : (Try.f79.name == "runtime.NumGoroutine") = false := by kernel_rfl
theorem nt79 : 8 = Try.f79.ntmps := by kernel_rfl
theorem lf79 : LFok Try.prog ⟨79, 8, L79, R79, false⟩ := ⟨Try.f79, Try.func79, nm79, low79, res79, nt79⟩
def L80 : LC := (.seq (.region [oN 4 (.mv (cI 0))]) (.seq (.region [oN 5 (.mv 0), oN 6 (.mv 1), oN 7 (.bin .mul 5 6), oN 4 (.mv 7)]) .ret))
def R80 : List LRes := [(.tmp 4)]
theorem low80 : (Try.f80.body.bind (lowCode Try.prog Try.f80.ntmps)) = some L80 := by kernel_rfl
theorem res80 : lowRes Try.prog Try.f80.results.toList = some R80 := by kernel_rfl
theorem nm80 : (Try.f80.name == "runtime.NumGoroutine") = false := by kernel_rfl
theorem nt80 : 8 = Try.f80.ntmps := by kernel_rfl
theorem lf80 : LFok Try.prog ⟨80, 8, L80, R80, false⟩ := ⟨Try.f80, Try.func80, nm80, low80, res80, nt80⟩
def L81 : LC := (.seq (.region [oN 4 (.mv (cI 0))]) (.seq (.seq (.region [oN 5 (.mv 1)]) (.block 0 (.seq (.region [oN 7 (.bin .eql 5 (cI 0)), oN 6 (.mv 7)]) (.cond 6 (.seq (.region [oN 4 (.mv (cI 0))]) .ret) (.seq (.region [oN 9 (.bin .eql 5 (cI (-1))), oN 8 (.mv 9)]) (.cond 8 (.seq (.region [oN 10 (.mv 0), oN 11 (.un .neg 10), oN 4 (.mv 11)]) .ret) .skip)))))) (.seq (.region [oN 12 (.mv 0), oN 13 (.mv 1), oN 14 (.bin .quo 12 13), oN 4 (.mv 14)]) .ret)))
def R81 : List LRes := [(.tmp 4)]
theorem low81 : (Try.f81.body.bind (lowCode Try.prog Try.f81.ntmps)) = some L81 := by kernel_rfl
theorem res81 : lowRes Try.prog Try.f81.results.toList = some R81 := by kernel_rfl
theorem nm81 : (Try.f81.name == "runtime.NumGoroutine") = false := by kernel_rfl
theorem nt81 : 15 = Try.f81.ntmps := by kernel_rfl
theorem lf81 : LFok Try.prog ⟨81, 15, L81, R81, false⟩ := ⟨Try.f81, Try.func81, nm81, low81, res81, nt81⟩
def L82 : LC := (.seq (.region [oN 4 (.mv (cI 0))]) (.seq (.seq (.region [oN 5 (.mv 1), oN 6 (.bin .eql 5 (cI 0))]) (.cond 6 (.seq (.region [oN 7 (.mv 0), oN 4 (.mv 7)]) .ret) .skip)) (.seq (.region [oN 8 (.mv 0), oN 9 (.mv 0), oN 10 (.mv 1), oN 11 (.call (.f 81) [9, 10]), oN 12 (.mv 1), oN 13 (.bin .mul 11 12), oN 14 (.bin .sub 8 13), oN 4 (.mv 14)]) .ret)))
def R82 : List LRes := [(.tmp 4)]
theorem low82 : (Try.f82.body.bind (lowCode Try.prog Try.f82.ntmps)) = some L82 := by kernel_rfl
theorem res82 : lowRes Try.prog Try.f82.results.toList = some R82 := by kernel_rfl
theorem nm82 : (Try.f82.name == "runtime.NumGoroutine") = false := by kernel_rfl
theorem nt82 : 15 = Try.f82.ntmps := by kernel_rfl
theorem lf82 : LFok Try.prog ⟨82, 15, L82, R82, false⟩ := ⟨Try.f82, Try.func82, nm82, low82, res82, nt82⟩
def L83 : LC := (.seq (.region [oN 4 (.mv (cI 0))]) (.seq (.region [oN 5 (.mv 0), oN 6 (.mv 1), oN 7 (.bin .and 5 6), oN 4 (.mv 7)]) .ret))
def R83 : List LRes := [(.tmp 4)]
theorem low83 : (Try.f83.body.bind (lowCode Try.prog Try.f83.ntmps)) = some L83 := by kernel_rfl
theorem res83 : lowRes Try.prog Try.f83.results.toList = some R83 := by kernel_rfl
theorem nm83 : (Try.f83.name == "runtime.NumGoroutine") = false := by kernel_rfl
theorem nt83 : 8 = Try.f83.ntmps := by kernel_rfl
theorem lf83 : LFok Try.prog ⟨83, 8, L83, R83, false⟩ := ⟨Try.f83, Try.func83, nm83, low83, res83, nt83⟩
def L84 : LC := (.seq (.region [oN 4 (.mv (cI 0))]) (.seq (.region [oN 5 (.mv 0), oN 6 (.mv 1), oN 7 (.bin .or 5 6), oN 4 (.mv 7)]) .ret))
def R84 : List LRes := [(.tmp 4)]
theorem low84 : (Try.f84.body.bind (lowCode Try.prog Try.f84.ntmps)) = some L84 := by kernel_rfl
theorem res84 : lowRes Try.prog Try.f84.results.toList = some R84 := by kernel_rfl
theorem nm84 : (Try.f84.name == "runtime.NumGoroutine") = false := by kernel_rfl
theorem nt84 : 8 = Try.f84.ntmps := by kernel_rfl
theorem lf84 : LFok Try.prog ⟨84, 8, L84, R84, false⟩ := ⟨Try.f84, Try.func84, nm84, low84, res84, nt84⟩
def L85 : LC := (.seq (.region [oN 4 (.mv (cI 0))]) (.seq (.region [oN 5 (.mv 0), oN 6 (.mv 1), oN 7 (.bin .xor 5 6), oN 4 (.mv 7)]) .ret))
def R85 : List LRes := [(.tmp 4)]
theorem low85 : (Try.f85.body.bind (lowCode Try.prog Try.f85.ntmps)) = some L85 := by kernel_rfl
theorem res85 : lowRes Try.prog Try.f85.results.toList = some R85 := by kernel_rfl
theorem nm85 : (Try.f85.name == "runtime.NumGoroutine") = false := by kernel_rfl
theorem nt85 : 8 = Try.f85.ntmps := by kernel_rfl
theorem lf85 : LFok Try.prog ⟨85, 8, L85, R85, false⟩ := ⟨Try.f85, Try.func85, nm85, low85, res85, nt85⟩
def L86 : LC := (.seq (.region [oN 4 (.mv (cI 0))]) (.seq (.region [oN 5 (.mv 0), oN 6 (.mv 1), oN 7 (.cvt .u64 6), oN 8 (.bin .and 7 (.c (.int .u64 63))), oN 9 (.bin .shl 5 8), oN 4 (.mv 9)]) .ret))
def R86 : List LRes := [(.tmp 4)]
theorem low86 : (Try.f86.body.bind (lowCode Try.prog Try.f86.ntmps)) = some L86 := by kernel_rfl
theorem res86 : lowRes Try.prog Try.f86.results.toList = some R86 := by kernel_rfl
theorem nm86 : (Try.f86.name == "runtime.NumGoroutine") = false := by kernel_rfl
theorem nt86 : 10 = Try.f86.ntmps := by kernel_rfl
theorem lf86 : LFok Try.prog ⟨86, 10, L86, R86, false⟩ := ⟨Try.f86, Try.func86, nm86, low86, res86, nt86⟩
def L87 : LC := (.seq (.region [oN 4 (.mv (cI 0))]) (.seq (.region [oN 5 (.mv 0), oN 6 (.mv 1), oN 7 (.cvt .u64 6), oN 8 (.bin .and 7 (.c (.int .u64 63))), oN 9 (.bin .shr 5 8), oN 4 (.mv 9)]) .ret))
def R87 : List LRes := [(.tmp 4)]
theorem low87 : (Try.f87.body.bind (lowCode Try.prog Try.f87.ntmps)) = some L87 := by kernel_rfl
theorem res87 : lowRes Try.prog Try.f87.results.toList = some R87 := by kernel_rfl
theorem nm87 : (Try.f87.name == "runtime.NumGoroutine") = false := by kernel_rfl
theorem nt87 : 10 = Try.f87.ntmps := by kernel_rfl
theorem lf87 : LFok Try.prog ⟨87, 10, L87, R87, false⟩ := ⟨Try.f87, Try.func87, nm87, low87, res87, nt87⟩
def L88 : LC := (.seq (.region [oN 4 (.mv (cI 0))]) (.seq (.region [oN 5 (.mv 0), oN 6 (.mv 1), oN 7 (.bin .eql 5 6), oN 8 (.call (.f 96) [7]), oN 4 (.mv 8)]) .ret))
def R88 : List LRes := [(.tmp 4)]
theorem low88 : (Try.f88.body.bind (lowCode Try.prog Try.f88.ntmps)) = some L88 := by kernel_rfl
theorem res88 : lowRes Try.prog Try.f88.results.toList = some R88 := by kernel_rfl
theorem nm88 : (Try.f88.name == "runtime.NumGoroutine") = false := by kernel_rfl
theorem nt88 : 9 = Try.f88.ntmps := by kernel_rfl
theorem lf88 : LFok Try.prog ⟨88, 9, L88, R88, false⟩ := ⟨Try.f88, Try.func88, nm88, low88, res88, nt88⟩
def L89 : LC := (.seq (.region [oN 4 (.mv (cI 0))]) (.seq (.region [oN 5 (.mv 0), oN 6 (.mv 1), oN 7 (.bin .neq 5 6), oN 8 (.call (.f 96) [7]), oN 4 (.mv 8)]) .ret))
def R89 : List LRes := [(.tmp 4)]
theorem low89 : (Try.f89.body.bind (lowCode Try.prog Try.f89.ntmps)) = some L89 := by kernel_rfl
theorem res89 : lowRes Try.prog Try.f89.results.toList = some R89 := by kernel_rfl
theorem nm89 : (Try.f89.name == "runtime.NumGoroutine") = false := by kernel_rfl
theorem nt89 : 9 = Try.f89.ntmps := by kernel_rfl
theorem lf89 : LFok Try.prog ⟨89, 9, L89, R89, false⟩ := ⟨Try.f89, Try.func89, nm89, low89, res89, nt89⟩
def L90 : LC := (.seq (.region [oN 4 (.mv (cI 0))]) (.seq (.region [oN 5 (.mv 0), oN 6 (.mv 1), oN 7 (.bin .lss 5 6), oN 8 (.call (.f 96) [7]), oN 4 (.mv 8)]) .ret))
def R90 : List LRes := [(.tmp 4)]
theorem low90 : (Try.f90.body.bind (lowCode Try.prog Try.f90.ntmps)) = some L90 := by kernel_rfl
theorem res90 : lowRes Try.prog Try.f90.results.toList = some R90 := by kernel_rfl
theorem nm90 : (Try.f90.name == "runtime.NumGoroutine") = false := by kernel_rfl
theorem nt90 : 9 = Try.f90.ntmps := by kernel_rfl
theorem lf90 : LFok Try.prog ⟨90, 9, L90, R90, false⟩ := ⟨Try.f90, Try.func90, nm90, low90, res90, nt90⟩
def L91 : LC := (.seq (.region [oN 4 (.mv (cI 0))]) (.seq (.region [oN 5 (.mv 0), oN 6 (.mv 1), oN 7 (.bin .leq 5 6), oN 8 (.call (.f 96) [7]), oN 4 (.mv 8)]) .ret))
def R91 : List LRes := [(.tmp 4)]
theorem low91 : (Try.f91.body.bind (lowCode Try.prog Try.f91.ntmps)) = some L91 := by kernel_rfl
theorem res91 : lowRes Try.prog Try.f91.results.toList = some R91 := by kernel_rfl
theorem nm91 : (Try.f91.name == "runtime.NumGoroutine") = false := by kernel_rfl
theorem nt91 : 9 = Try.f91.ntmps := by kernel_rfl
theorem lf91 : LFok Try.prog ⟨91, 9, L91, R91, false⟩ := ⟨Try.f91, Try.func91, nm91, low91, res91, nt91⟩
def L92 : LC := (.seq (.region [oN 4 (.mv (cI 0))]) (.seq (.region [oN 5 (.mv 0), oN 6 (.mv 1), oN 7 (.bin .gtr 5 6), oN 8 (.call (.f 96) [7]), oN 4 (.mv 8)]) .ret))
def R92 : List LRes := [(.tmp 4)]
theorem low92 : (Try.f92.body.bind (lowCode Try.prog Try.f92.ntmps)) = some L92 := by kernel_rfl
theorem res92 : lowRes Try.prog Try.f92.results.toList = some R92 := by kernel_rfl
theorem nm92 : (Try.f92.name == "runtime.NumGoroutine") = false := by kernel_rfl
theorem nt92 : 9 = Try.f92.ntmps := by kernel_rfl
theorem lf92 : LFok Try.prog ⟨92, 9, L92, R92, false⟩ := ⟨Try.f92, Try.func92, nm92, low92, res92, nt92⟩
def L93 : LC := (.seq (.region [oN 4 (.mv (cI 0))]) (.seq (.region [oN 5 (.mv 0), oN 6 (.mv 1), oN 7 (.bin .geq 5 6), oN 8 (.call (.f 96) [7]), oN 4 (.mv 8)]) .ret))
def R93 : List LRes := [(.tmp 4)]
theorem low93 : (Try.f93.body.bind (lowCode Try.prog Try.f93.ntmps)) = some L93 := by kernel_rfl
theorem res93 : lowRes Try.prog Try.f93.results.toList = some R93 := by kernel_rfl
theorem nm93 : (Try.f93.name == "runtime.NumGoroutine") = false := by kernel_rfl
theorem nt93 : 9 = Try.f93.ntmps := by kernel_rfl
theorem lf93 : LFok Try.prog ⟨93, 9, L93, R93, false⟩ := ⟨Try.f93, Try.func93, nm93, low93, res93, nt93⟩
def L94 : LC := (.seq (.region [oN 2 (.mv (cI 0))]) (.seq (.region [oN 3 (.mv 0), oN 4 (.un .neg 3), oN 2 (.mv 4)]) .ret))
def R94 : List LRes := [(.tmp 2)]
theorem low94 : (Try.f94.body.bind (lowCode Try.prog Try.f94.ntmps)) = some L94 := by kernel_rfl
theorem res94 : lowRes Try.prog Try.f94.results.toList = some R94 := by kernel_rfl
theorem nm94 : (Try.f94.name == "runtime.NumGoroutine") = false := by kernel_rfl
theorem nt94 : 5 = Try.f94.ntmps := by kernel_rfl
theorem lf94 : LFok Try.prog ⟨94, 5, L94, R94, false⟩ := ⟨Try.f94, Try.func94, nm94, low94, res94, nt94⟩
def L95 : LC := (.seq (.region [oN 2 (.mv (cI 0))]) (.seq (.region [oN 3 (.mv 0), oN 4 (.bin .eql 3 (cI 0)), oN 5 (.call (.f 96) [4]), oN 2 (.mv 5)]) .ret))
def R95 : List LRes := [(.tmp 2)]
theorem low95 : (Try.f95.body.bind (lowCode Try.prog Try.f95.ntmps)) = some L95 := by kernel_rfl
theorem res95 : lowRes Try.prog Try.f95.results.toList = some R95 := by kernel_rfl
theorem nm95 : (Try.f95.name == "runtime.NumGoroutine") = false := by kernel_rfl
theorem nt95 : 6 = Try.f95.ntmps := by kernel_rfl
theorem lf95 : LFok Try.prog ⟨95, 6, L95, R95, false⟩ := ⟨Try.f95, Try.func95, nm95, low95, res95, nt95⟩
def L96 : LC := (.seq (.region [oN 2 (.mv (cI 0))]) (.seq (.seq (.region [oN 3 (.mv 0)]) (.cond 3 (.seq (.region [oN 2 (.mv (cI 1))]) .ret) .skip)) (.seq (.region [oN 2 (.mv (cI 0))]) .ret)))
def R96 : List LRes := [(.tmp 2)]
theorem low96 : (Try.f96.body.bind (lowCode Try.prog Try.f96.ntmps)) = some L96 := by kernel_rfl
theorem res96 : lowRes Try.prog Try.f96.results.toList = some R96 := by kernel_rfl
theorem nm96 : (Try.f96.name == "runtime.NumGoroutine") = false := by kernel_rfl
theorem nt96 : 4 = Try.f96.ntmps := by kernel_rfl
theorem lf96 : LFok Try.prog ⟨96, 4, L96, R96, false⟩ := ⟨Try.f96, Try.func96, nm96, low96, res96, nt96⟩
end Go.Proofs.Ytflicfkgbjmffaa
end
