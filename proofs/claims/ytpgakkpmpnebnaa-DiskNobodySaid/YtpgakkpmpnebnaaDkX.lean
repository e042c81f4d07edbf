/- The chapter's example in plain words (lives). -/
import Derived.Test.YtpgakkpmpnebnaaDkA
namespace Go.Proofs.Ytpgakkpmpnebnaa
set_option maxRecDepth 100000
def lv0 : Dk := ⟨100, [], false, -1, 0⟩
def lv1 : Dk := ⟨100, [⟨[97], [120, 121, 122], 0⟩], false, -1, 1⟩
def lv2 : Dk := ⟨100, [⟨[97], [120, 121, 122], 3⟩], false, -1, 2⟩
def lv3 : Dk := ⟨100, [⟨[97], [120, 121, 122, 117, 118], 3⟩], false, -1, 3⟩
def lv4 : Dk := ⟨100, [⟨[97], [120, 121, 122, 117], 4⟩], true, -1, 3⟩
def lv5 : Dk := ⟨100, [⟨[97], [120, 121, 122, 117], 4⟩], false, -1, 3⟩
theorem lv_01 : lv0.append [97] [120, 121, 122] = (lv1, 0) := by rfl
theorem lv_12 : lv1.sync [97] = (lv2, 0) := by rfl
theorem lv_23 : lv2.append [97] [117, 118] = (lv3, 0) := by rfl
theorem lv_34 : lv3.crash [⟨1, 0⟩] = lv4 := by rfl
theorem lv_45 : lv4.boot = lv5 := by rfl
theorem lv_read : lv5.read [97] = ([120, 121, 122, 117], 0) := by rfl
theorem lv_free : lv5.free = 96 := by rfl
end Go.Proofs.Ytpgakkpmpnebnaa
