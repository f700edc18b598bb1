/- BankChanged: the walk. No conditions beyond the readings of the arguments. -/
import Derived.Test.YtaccaebdmndkiaaDoorBChg
namespace Go.Proofs.YtaccaebdmndkiaaDoor
open Go.RowKit
set_option linter.unusedVariables false

theorem not_taken {l : List UInt8} (h : ¬ Acc l) : taken l = false := by
  cases ht : taken l with
  | false => rfl
  | true => exact absurd (acc_taken ht) h
theorem acc_str {l : List UInt8} (w : World) (hl : l.length ≤ 2 ^ 40) (hT : Tabs w.heap.size w) (hM : MaxI w.heap.size w) :
    Calls Tryd.prog 19 #[.string ⟨l.toArray⟩] w fun e w' => e = .returned (.bool (taken l)) ∧ Below w.heap.size w w' := by
  have h := accepted_any ⟨l.toArray⟩ w (by rw [str_size]; exact hl) hT hM
  rw [show (⟨l.toArray⟩ : ByteArray).data.toList = l from List.toList_toArray] at h
  exact h
theorem chg_len (l : List UInt8) (i how : Nat) (c : UInt8) : (chg l i how c).length ≤ l.length + 1 := by
  have h1 := List.length_take (i := i) (l := l)
  have h2 := List.length_drop (i := i) (l := l)
  have h3 := List.length_drop (i := i + 1) (l := l)
  unfold chg
  split
  · rw [List.length_append, List.length_cons]; omega
  · split
    · rw [List.length_append, List.length_cons]; omega
    · rw [List.length_append]; omega

set_option maxRecDepth 100000 in
set_option maxHeartbeats 4000000 in
theorem changed_walk (K : Nat) (n d : Int) (l : List Od) (v : Value) (an ad : Int) (rs : List Rt) (u : Value) (ans : Bool) (at0 c : Int) (w : World) (hv : Ords K w v l) (hu : Rets K w u rs) (hK : K ≤ w.heap.size) (hat : -(2 ^ 63) ≤ at0 ∧ at0 ≤ 2 ^ 63 - 1) (hc : 0 ≤ c ∧ c ≤ 255)
    (hT : Tabs w.heap.size w) (hM : MaxI w.heap.size w) :
    Calls Tryd.prog 5 #[.agg #[.int .i64 n, .int .i64 d, v], .agg #[.int .i64 an, .int .i64 ad, u], .bool ans, .int .i64 at0, .int .u8 c] w fun e w' => e = .returned (.bool true) ∧ Below w.heap.size w w' := by
  obtain ⟨cb, rfl⟩ : ∃ cb : UInt8, c = (cb.toNat : Int) := ⟨UInt8.ofNat c.toNat, by simp; omega⟩
  clear hc
  have hvl : ∃ a cap, v = .slice a l.length cap := by obtain ⟨a, cap, rfl, _⟩ := hv; exact ⟨a, cap, rfl⟩
  obtain ⟨va, vcap, rfl⟩ := hvl
  have hul : ∃ a cap, u = .slice a rs.length cap := by obtain ⟨a, cap, rfl, _⟩ := hu; exact ⟨a, cap, rfl⟩
  obtain ⟨ua, ucap, rfl⟩ := hul
  have hb1 : Below w.heap.size w ((w.alloc (.cells #[.int .i64 n, .int .i64 d, .slice va l.length vcap] 24)).alloc (.cells #[.int .i64 an, .int .i64 ad, .slice ua rs.length ucap] 27)) := ((Below.refl _ w).alloc (Nat.le_refl _) _).alloc (by simp) _
  have q1 := (Blk.new w #[.int .i64 n, .int .i64 d, .slice va l.length vcap] 24).alloc (.cells #[.int .i64 an, .int .i64 ad, .slice ua rs.length ucap] 27)
  have q2 := Blk.new (w.alloc (.cells #[.int .i64 n, .int .i64 d, .slice va l.length vcap] 24)) #[.int .i64 an, .int .i64 ad, .slice ua rs.length ucap] 27
  rw [World.size_alloc] at q2
  obtain ⟨W1, hW1⟩ : ∃ W1, (w.alloc (.cells #[.int .i64 n, .int .i64 d, .slice va l.length vcap] 24)).alloc (.cells #[.int .i64 an, .int .i64 ad, .slice ua rs.length ucap] 27) = W1 := ⟨_, rfl⟩
  rw [hW1] at hb1 q1 q2
  have HW1 := Lib.hid hW1
  clear hW1
  have hT1 := hT.up hb1 hb1.size
  have hv1 : Ords W1.heap.size W1 (.slice va l.length vcap) l := Recs.below hv hb1 hK (Nat.le_trans hK hb1.size)
  have hu1 : Rets W1.heap.size W1 (.slice ua rs.length ucap) rs := Recs.below hu hb1 hK (Nat.le_trans hK hb1.size)
  have ha := awake_any W1 hT1
  clear hv hu
  go_enter Tryd.func5, Tryd.ntmps5
  go_wp2_with fail
  rw [HW1.out]
  refine ha.mono ?_
  rintro e w2 ⟨rfl, hb2⟩
  clear ha
  have hbq := hb1.trans (hb2.mono hb1.size)
  obtain ⟨d0, d1, d2⟩ := (q1.below hb2 q1.lt).three
  obtain ⟨e0, e1, e2⟩ := (q2.below hb2 q2.lt).three
  have hv2 : Ords W1.heap.size w2 (.slice va l.length vcap) l := Recs.below hv1 hb2 (Nat.le_refl _) (Nat.le_refl _)
  have hu2 : Rets W1.heap.size w2 (.slice ua rs.length ucap) rs := Recs.below hu1 hb2 (Nat.le_refl _) (Nat.le_refl _)
  have htx := text_any W1.heap.size n d l _ an ad rs _ ans w2 hv2 hu2 hb2.size (hT.up hbq hbq.size)
  obtain ⟨sl, hsl⟩ : ∃ sl, textS ⟨n, d, l⟩ ⟨an, ad, rs⟩ ans = sl := ⟨_, rfl⟩
  have hacc : sl ≠ [] → taken sl = true ∧ sl.length ≤ 100122 := fun h => by rw [← hsl] at h ⊢; exact textS_acc h
  rw [hsl] at htx
  obtain ⟨t, ht⟩ : ∃ t : ByteArray, (⟨sl.toArray⟩ : ByteArray) = t := ⟨_, rfl⟩
  have htd : t.data.toList = sl := by rw [← ht]
  rw [ht] at htx
  have HT := Lib.hid htd
  have HACC := Lib.hid hacc
  have hts := size_of htd
  have htl := toList_of htd
  clear hsl ht htd hacc hv1 hu1 hv2 hu2 q1 q2
  go_wp2_with fail
  refine htx.mono ?_
  rintro e w3 ⟨rfl, hb3⟩
  clear htx d0 d1 d2 e0 e1 e2
  have hb13 := hbq.trans (hb3.mono hbq.size)
  by_cases hnil : sl = []
  · have h0 : t.toList = [] := htl.trans hnil
    clear hnil htl hts
    go_wp2_with fail
    go_ret
    exact ⟨rfl, hb13⟩
  obtain ⟨htk, hlen⟩ := HACC.out hnil
  have hA := acc_taken htk
  have h0 : ¬ t.toList = [] := by rw [htl]; exact hnil
  have h0' : t.toList.isEmpty = false := by rw [htl]; cases sl with | nil => exact absurd rfl hnil | cons a b => rfl
  have hsz : t.size ≤ 100122 := by omega
  by_cases hneg : at0 < 0
  · clear hnil htl hts htk
    go_wp2_with fail
    go_ret
    exact ⟨rfl, hb13⟩
  obtain ⟨i, rfl⟩ : ∃ i : Nat, at0 = (i : Int) := ⟨at0.toNat, by omega⟩
  by_cases hbig : t.size < i
  · have hbig' : (t.size : Int) < (i : Int) := by omega
    clear hnil htl hts htk hneg
    go_wp2_with fail
    go_ret
    exact ⟨rfl, hb13⟩
  have hile : i ≤ t.size := by omega
  have hT3 := hT.up hb13 hb13.size
  have hM3 := hM.up hb13 hb13.size
  have c1 := accepted_any t w3 (by omega) hT3 hM3
  rw [HT.out, htk] at c1
  have c2 := fun W => change1_any t i cb W (by omega) hile
  rw [HT.out] at c2
  have c3 := fun W hT hM => acc_str (l := chg sl i 1 cb) W (by have := chg_len sl i 1 cb; omega) hT hM
  rw [not_taken (not_inserted hA (by omega) cb)] at c3
  have g1 : decide ((i : Int) < 0) = false := decide_eq_false (by omega)
  have g2 : decide ((t.size : Int) < (i : Int)) = false := decide_eq_false (by omega)
  have HS := Lib.hid hts
  have HN := Lib.hid hnil
  clear hneg hbig htk hts htl hnil
  go_wp2_with fail
  refine c1.mono ?_
  rintro e w4 ⟨rfl, hb4⟩
  have hb14 := hb13.trans (hb4.mono hb13.size)
  clear c1
  go_wp2_with fail
  refine (c2 w4).mono ?_
  rintro e w5 ⟨rfl, hb5⟩
  have hb15 := hb14.trans (hb5.mono hb14.size)
  clear c2
  go_wp2_with fail
  refine (c3 w5 (hT.up hb15 hb15.size) (hM.up hb15 hb15.size)).mono ?_
  rintro e w6 ⟨rfl, hb6⟩
  have hb16 := hb15.trans (hb6.mono hb15.size)
  clear c3 hb4 hb5 hb6 hb14 hb15
  by_cases hlast : i = t.size
  · have heq : (((i : Nat) : Int) == ((t.size : Nat) : Int)) = true := by rw [hlast]; simp
    clear hlast
    go_wp2_with fail
    go_ret
    exact ⟨rfl, hb16⟩
  have heq : (((i : Nat) : Int) == ((t.size : Nat) : Int)) = false := by rw [beq_eq_false_iff_ne]; omega
  have hlt : i < t.size := by omega
  have c4 := fun W => change2_any t i 0 W (by omega) hlt
  rw [HT.out] at c4
  have c5 := fun W hT hM => acc_str (l := chg sl i 2 0) W (by have := chg_len sl i 2 0; have := HS.out; omega) hT hM
  rw [not_taken (not_removed hA (by have := HS.out; omega) 0)] at c5
  have hbt : t[i] = sl[i]?.getD 0 := str_at HT.out hlt
  clear hlast
  go_wp2_with fail
  refine (c4 w6).mono ?_
  rintro e w7 ⟨rfl, hb7⟩
  have hb17 := hb16.trans (hb7.mono hb16.size)
  clear c4
  go_wp2_with fail
  refine (c5 w7 (hT.up hb17 hb17.size) (hM.up hb17 hb17.size)).mono ?_
  rintro e w8 ⟨rfl, hb8⟩
  have hb18 := hb17.trans (hb8.mono hb17.size)
  clear c5
  by_cases hsame : sl[i]?.getD 0 = cb
  · have hs1 : (((t[i]).toNat : Int) == (cb.toNat : Int)) = true := by rw [hbt, hsame]; simp
    clear hsame hbt
    go_wp2_with fail
    go_ret
    exact ⟨rfl, hb18⟩
  · have hs1 : (((t[i]).toNat : Int) == (cb.toNat : Int)) = false := by
      rw [hbt, beq_eq_false_iff_ne]
      intro e
      exact hsame (UInt8.toNat_inj.1 (by simpa using Int.ofNat_inj.1 e))
    have c6 := fun W => change0_any t i cb W (by omega) hlt
    rw [HT.out] at c6
    have c7 := fun W hT hM => acc_str (l := chg sl i 0 cb) W (by have := chg_len sl i 0 cb; have := HS.out; omega) hT hM
    rw [not_taken (not_replaced hA (by have := HS.out; omega) hsame)] at c7
    clear hsame hbt
    go_wp2_with fail
    refine (c6 w8).mono ?_
    rintro e w9 ⟨rfl, hb9⟩
    have hb19 := hb18.trans (hb9.mono hb18.size)
    clear c6
    go_wp2_with fail
    refine (c7 w9 (hT.up hb19 hb19.size) (hM.up hb19 hb19.size)).mono ?_
    rintro e w10 ⟨rfl, hb10⟩
    have hb20 := hb19.trans (hb10.mono hb19.size)
    clear c7
    go_wp2_with fail
    go_ret
    exact ⟨rfl, hb20⟩
end Go.Proofs.YtaccaebdmndkiaaDoor
