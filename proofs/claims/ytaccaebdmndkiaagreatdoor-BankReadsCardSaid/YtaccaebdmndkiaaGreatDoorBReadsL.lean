/- BankReads: the walk. No conditions beyond those stated. -/
import Derived.Test.YtaccaebdmndkiaaGreatDoorBReads
namespace Go.Proofs.YtaccaebdmndkiaaGreatDoor
open Go.RowKit
set_option linter.unusedVariables false

set_option maxRecDepth 100000 in
set_option maxHeartbeats 2000000 in
theorem reads_walk (s : ByteArray) (w : World) (hs : s.size ≤ maxLen) (hT : Tabs w.heap.size w) (hM : MaxI w.heap.size w) :
    Calls Tryz.prog 3 #[.string s] w fun e w' => e = .returned (.bool true) ∧ Below w.heap.size w w' := by
  unfold maxLen at hs
  by_cases hlen : s.size ≤ 3000
  case neg =>
    have hlen' : 3000 < s.size := by omega
    have ha := awake_any w hT
    clear hlen
    go_enter Tryz.func3, Tryz.ntmps3
    go_wp2_with fail
    refine ha.mono ?_
    rintro e w1 ⟨rfl, hb1⟩
    go_wp2_with fail
    go_ret
    exact ⟨rfl, hb1⟩
  obtain ⟨l, hl⟩ : ∃ l, s.data.toList = l := ⟨_, rfl⟩
  have hll : l.length = s.size := (size_of hl).symm
  have hsl : (⟨l.toArray⟩ : ByteArray) = s := by rw [← hl]
  have hr := reads_any s w (by omega) hT hM
  have hE := fun W => rend_any l W (by omega)
  rw [hsl] at hE
  obtain ⟨t, ht⟩ : ∃ t : ByteArray, (⟨(endB l).toArray⟩ : ByteArray) = t := ⟨_, rfl⟩
  have htz : t.size = 22 := by rw [← ht, str_size, endB_length]
  rw [ht] at hE
  have hz : (s ++ t).size ≤ 2 ^ 40 := by rw [ByteArray.size_append]; omega
  have HE := Lib.hid hE
  have HZ := Lib.hid hz
  have htb : t.size ≤ 22 := by omega
  clear hE hz ht hsl hll hl htz
  go_enter Tryz.func3, Tryz.ntmps3
  go_wp2_with fail
  refine hr.mono ?_
  rintro e w1 ⟨rfl, hb1⟩
  have he := HE.out w1
  have hr2 := reads_any (s ++ t) w1 HZ.out (hT.up hb1 hb1.size) (hM.up hb1 hb1.size)
  clear hr
  go_wp2_with fail
  refine he.mono ?_
  rintro e w2 ⟨rfl, rfl⟩
  go_wp2_with fail
  refine hr2.mono ?_
  rintro e w3 ⟨rfl, hb3⟩
  have hb13 := hb1.trans (hb3.mono hb1.size)
  have ha := awake_any w3 (hT.up hb13 hb13.size)
  go_wp2_with fail
  refine ha.mono ?_
  rintro e w4 ⟨rfl, hb4⟩
  go_wp2_with fail
  go_ret
  exact ⟨rfl, hb13.trans (hb4.mono hb13.size)⟩
end Go.Proofs.YtaccaebdmndkiaaGreatDoor
