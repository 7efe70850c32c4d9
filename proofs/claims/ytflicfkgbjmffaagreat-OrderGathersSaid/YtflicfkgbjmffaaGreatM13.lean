import Derived.Test.YtflicfkgbjmffaaGreatProg
import Derived.Test.YtflicfkgbjmffaaGreatM9
import Derived.KernelRfl
section
/- The lowered code of some functions, as a program printed it; each is held against the loaded program by the kernel. -/
namespace Go.Proofs.YtflicfkgbjmffaaGreat
open Go Go.Abs Go.Proofs
def L137:LC:=(.seq (.region [oN 6 (.mv (cB false))]) (.seq (.drawn [⟨[oN 7 (.mv 0),oN 8 (.mv 1),oN 9 (.ia 1 none 7 8),oN 10 (.ld false 1 9),oN 11 (.mv 0),oN 12 (.mv 2),oN 13 (.ia 1 none 11 12),oN 14 (.ld false 1 13)],[]⟩,⟨[oN 15 (.bin .lss 10 14)],[]⟩,⟨[oN 6 (.mv 15)],[]⟩]) .ret))
theorem lf137:LFok Tryz.prog ⟨137,16,L137,[(.tmp 6)],false⟩:=lfok Tryz.func137 (by kernel_rfl)
def L138:LC:=(.seq (.region [oN 2 (.mv (.c .nilIface))]) (.seq (.region [oN 5 (.mv 0),oN 6 (.nck 5),oN 7 (.ld false 1 6),oN 3 (.mv 7)]) (.seq (.region [oN 8 (.mv 3),oN 9 (.mv 3),oN 10 (.len 9),oN 11 (.bin .sub 10 (cI 1)),oN 12 (.ia 1 none 8 11),oN 13 (.ld false 1 12),oN 4 (.mv 13)]) (.seq (.region [oN 14 (.mv 0),oN 15 (.mv 3),oN 16 (.mv 3),oN 17 (.len 16),oN 18 (.bin .sub 17 (cI 1)),oN 19 (.slc 1 15 none (some 18)),oN 20 (.nck 14),uN (.st false 1 20 19)]) (.seq (.region [oN 21 (.mv 4),oN 22 (.mki 3 21),oN 2 (.mv 22)]) .ret)))))
theorem lf138:LFok Tryz.prog ⟨138,23,L138,[(.tmp 2)],false⟩:=lfok Tryz.func138 (by kernel_rfl)
def L139:LC:=(.drawn [⟨[oN 4 (.mv 0),oN 5 (.mv 0),oN 6 (.nck 5),oN 7 (.ld false 1 6),oN 8 (.mv 1),oN 9 (.tas 3 false false [(.int .i64 0)] 8),oN 10 (.bsl 3 1 false [(.int .i64 0)] 1 [(0,9)]),oN 11 (.app 3 1 8 false [(.int .i64 0)] 7 10)],[(3,6)]⟩,⟨[oN 12 (.nck 4)],[]⟩,⟨[uN (.st false 1 12 11)],[]⟩])
theorem lf139:LFok Tryz.prog ⟨139,13,L139,[],false⟩:=lfok Tryz.func139 (by kernel_rfl)
def L140:LC:=(.drawn [⟨[oN 6 (.mv 0),oN 7 (.mv 1),oN 8 (.mv 0),oN 9 (.mv 2),oN 10 (.mv 0),oN 11 (.mv 2),oN 12 (.ia 1 none 10 11),oN 13 (.ld false 1 12),oN 14 (.mv 0),oN 15 (.mv 1),oN 16 (.ia 1 none 14 15),oN 17 (.ld false 1 16),oN 18 (.ia 1 none 6 7),uN (.st false 1 18 13)],[]⟩,⟨[oN 19 (.ia 1 none 8 9)],[]⟩,⟨[uN (.st false 1 19 17)],[]⟩])
theorem lf140:LFok Tryz.prog ⟨140,20,L140,[],false⟩:=lfok Tryz.func140 (by kernel_rfl)
end Go.Proofs.YtflicfkgbjmffaaGreat
end
