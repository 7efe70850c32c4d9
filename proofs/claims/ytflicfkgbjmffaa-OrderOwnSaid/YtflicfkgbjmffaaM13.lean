import Derived.Test.YtflicfkgbjmffaaProg
import Derived.Test.YtflicfkgbjmffaaM9
import Derived.KernelRfl
section
/- The lowered code of some functions, as a program printed it; each is held against the loaded program by the kernel. -/
namespace Go.Proofs.Ytflicfkgbjmffaa
open Go Go.Abs Go.Proofs
def L114 : LC := (.seq (.region [oN 6 (.mv (cB false))]) (.seq (.drawn [⟨[oN 7 (.mv 0), oN 8 (.mv 1), oN 9 (.ia 1 none 7 8), oN 10 (.ld false 1 9), oN 11 (.mv 0), oN 12 (.mv 2), oN 13 (.ia 1 none 11 12), oN 14 (.ld false 1 13)], []⟩, ⟨[oN 15 (.bin .lss 10 14)], []⟩, ⟨[oN 6 (.mv 15)], []⟩]) .ret))
def R114 : List LRes := [(.tmp 6)]
theorem low114 : (Try.f114.body.bind (lowCode Try.prog Try.f114.ntmps)) = some L114 := by kernel_rfl
theorem res114 : lowRes Try.prog Try.f114.results.toList = some R114 := by kernel_rfl
theorem nm114 : (Try.f114.name == "runtime.NumGoroutine") = false := by kernel_rfl
theorem nt114 : 16 = Try.f114.ntmps := by kernel_rfl
theorem lf114 : LFok Try.prog ⟨114, 16, L114, R114, false⟩ := ⟨Try.f114, Try.func114, nm114, low114, res114, nt114⟩
def L115 : LC := (.seq (.region [oN 2 (.mv (.c .nilIface))]) (.seq (.region [oN 5 (.mv 0), oN 6 (.nck 5), oN 7 (.ld false 1 6), oN 3 (.mv 7)]) (.seq (.region [oN 8 (.mv 3), oN 9 (.mv 3), oN 10 (.len 9), oN 11 (.bin .sub 10 (cI 1)), oN 12 (.ia 1 none 8 11), oN 13 (.ld false 1 12), oN 4 (.mv 13)]) (.seq (.region [oN 14 (.mv 0), oN 15 (.mv 3), oN 16 (.mv 3), oN 17 (.len 16), oN 18 (.bin .sub 17 (cI 1)), oN 19 (.slc 1 15 none (some 18)), oN 20 (.nck 14), uN (.st false 1 20 19)]) (.seq (.region [oN 21 (.mv 4), oN 22 (.mki 3 21), oN 2 (.mv 22)]) .ret)))))
def R115 : List LRes := [(.tmp 2)]
theorem low115 : (Try.f115.body.bind (lowCode Try.prog Try.f115.ntmps)) = some L115 := by kernel_rfl
theorem res115 : lowRes Try.prog Try.f115.results.toList = some R115 := by kernel_rfl
theorem nm115 : (Try.f115.name == "runtime.NumGoroutine") = false := by kernel_rfl
theorem nt115 : 23 = Try.f115.ntmps := by kernel_rfl
theorem lf115 : LFok Try.prog ⟨115, 23, L115, R115, false⟩ := ⟨Try.f115, Try.func115, nm115, low115, res115, nt115⟩
def L116 : LC := (.drawn [⟨[oN 4 (.mv 0), oN 5 (.mv 0), oN 6 (.nck 5), oN 7 (.ld false 1 6), oN 8 (.mv 1), oN 9 (.tas 3 false false [(.int .i64 0)] 8), oN 10 (.bsl 3 1 false [(.int .i64 0)] 1 [(0, 9)]), oN 11 (.app 3 1 8 false [(.int .i64 0)] 7 10)], [(3, 6)]⟩, ⟨[oN 12 (.nck 4)], []⟩, ⟨[uN (.st false 1 12 11)], []⟩])
def R116 : List LRes := []
theorem low116 : (Try.f116.body.bind (lowCode Try.prog Try.f116.ntmps)) = some L116 := by kernel_rfl
theorem res116 : lowRes Try.prog Try.f116.results.toList = some R116 := by kernel_rfl
theorem nm116 : (Try.f116.name == "runtime.NumGoroutine") = false := by kernel_rfl
theorem nt116 : 13 = Try.f116.ntmps := by kernel_rfl
theorem lf116 : LFok Try.prog ⟨116, 13, L116, R116, false⟩ := ⟨Try.f116, Try.func116, nm116, low116, res116, nt116⟩
def L117 : LC := (.drawn [⟨[oN 6 (.mv 0), oN 7 (.mv 1), oN 8 (.mv 0), oN 9 (.mv 2), oN 10 (.mv 0), oN 11 (.mv 2), oN 12 (.ia 1 none 10 11), oN 13 (.ld false 1 12), oN 14 (.mv 0), oN 15 (.mv 1), oN 16 (.ia 1 none 14 15), oN 17 (.ld false 1 16), oN 18 (.ia 1 none 6 7), uN (.st false 1 18 13)], []⟩, ⟨[oN 19 (.ia 1 none 8 9)], []⟩, ⟨[uN (.st false 1 19 17)], []⟩])
def R117 : List LRes := []
theorem low117 : (Try.f117.body.bind (lowCode Try.prog Try.f117.ntmps)) = some L117 := by kernel_rfl
theorem res117 : lowRes Try.prog Try.f117.results.toList = some R117 := by kernel_rfl
theorem nm117 : (Try.f117.name == "runtime.NumGoroutine") = false := by kernel_rfl
theorem nt117 : 20 = Try.f117.ntmps := by kernel_rfl
theorem lf117 : LFok Try.prog ⟨117, 20, L117, R117, false⟩ := ⟨Try.f117, Try.func117, nm117, low117, res117, nt117⟩
end Go.Proofs.Ytflicfkgbjmffaa
end
