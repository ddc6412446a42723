/- Both ways of counting run, up to seven people. -/
import Derived.Test.YtjnllbmknblecaaCwD
namespace Go.Proofs.Ytjnllbmknblecaa
theorem cw_1_0 : cwOk 1 0 = true := by kernel_rfl
theorem cw_2_0 : cwOk 2 0 = true := by kernel_rfl
theorem cw_2_1 : cwOk 2 1 = true := by kernel_rfl
theorem cw_3_0 : cwOk 3 0 = true := by kernel_rfl
theorem cw_3_1 : cwOk 3 1 = true := by kernel_rfl
theorem cw_3_2 : cwOk 3 2 = true := by kernel_rfl
theorem cw_4_0 : cwOk 4 0 = true := by kernel_rfl
theorem cw_4_1 : cwOk 4 1 = true := by kernel_rfl
theorem cw_4_2 : cwOk 4 2 = true := by kernel_rfl
theorem cw_4_3 : cwOk 4 3 = true := by kernel_rfl
theorem cw_5_0 : cwOk 5 0 = true := by kernel_rfl
theorem cw_5_1 : cwOk 5 1 = true := by kernel_rfl
theorem cw_5_2 : cwOk 5 2 = true := by kernel_rfl
theorem cw_5_3 : cwOk 5 3 = true := by kernel_rfl
theorem cw_5_4 : cwOk 5 4 = true := by kernel_rfl
theorem cw_6_0 : cwOk 6 0 = true := by kernel_rfl
theorem cw_6_1 : cwOk 6 1 = true := by kernel_rfl
theorem cw_6_2 : cwOk 6 2 = true := by kernel_rfl
theorem cw_6_3 : cwOk 6 3 = true := by kernel_rfl
theorem cw_6_4 : cwOk 6 4 = true := by kernel_rfl
theorem cw_6_5 : cwOk 6 5 = true := by kernel_rfl
theorem cw_7_0 : cwOk 7 0 = true := by kernel_rfl
theorem cw_7_1 : cwOk 7 1 = true := by kernel_rfl
theorem cw_7_2 : cwOk 7 2 = true := by kernel_rfl
theorem cw_7_3 : cwOk 7 3 = true := by kernel_rfl
theorem cw_7_4 : cwOk 7 4 = true := by kernel_rfl
theorem cw_7_5 : cwOk 7 5 = true := by kernel_rfl
theorem cw_7_6 : cwOk 7 6 = true := by kernel_rfl
theorem cw_all {n r : Nat} (h1 : 1 ≤ n) (h7 : n ≤ 7) (hr : r < n) : sW n r n [] = iW n r n [] := by
  refine Nat.eq_of_beq_eq_true (?_ : cwOk n r = true)
  rcases n with _ | _ | _ | _ | _ | _ | _ | _ | n
  · omega
  · rcases r with _ | r
    · exact cw_1_0
    · omega
  · rcases r with _ | _ | r
    · exact cw_2_0
    · exact cw_2_1
    · omega
  · rcases r with _ | _ | _ | r
    · exact cw_3_0
    · exact cw_3_1
    · exact cw_3_2
    · omega
  · rcases r with _ | _ | _ | _ | r
    · exact cw_4_0
    · exact cw_4_1
    · exact cw_4_2
    · exact cw_4_3
    · omega
  · rcases r with _ | _ | _ | _ | _ | r
    · exact cw_5_0
    · exact cw_5_1
    · exact cw_5_2
    · exact cw_5_3
    · exact cw_5_4
    · omega
  · rcases r with _ | _ | _ | _ | _ | _ | r
    · exact cw_6_0
    · exact cw_6_1
    · exact cw_6_2
    · exact cw_6_3
    · exact cw_6_4
    · exact cw_6_5
    · omega
  · rcases r with _ | _ | _ | _ | _ | _ | _ | r
    · exact cw_7_0
    · exact cw_7_1
    · exact cw_7_2
    · exact cw_7_3
    · exact cw_7_4
    · exact cw_7_5
    · exact cw_7_6
    · omega
  · omega
end Go.Proofs.Ytjnllbmknblecaa
