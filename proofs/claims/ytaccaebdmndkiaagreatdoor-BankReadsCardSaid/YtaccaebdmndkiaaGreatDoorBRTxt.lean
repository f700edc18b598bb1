/- The reference of layer 36: decimal, hex, End, line. No conditions beyond those stated. -/
import Derived.Test.YtaccaebdmndkiaaGreatDoorBLine
namespace Go.Proofs.YtaccaebdmndkiaaGreatDoor
open Go.RowKit
set_option linter.unusedVariables false

theorem Byts.one' (w : World) (b : UInt8) : Byts (w.heap.size + 1) (w.alloc (.cells #[.int .u8 (b.toNat : Int)] 5)) (.slice (some ⟨w.heap.size, 0, none⟩) 1 1) [b] :=
  Byts.mk_cells (l := [b]) (Nat.le_refl _) (by simp [maxLen]) (by omega) (fun i hi => by
    simp only [List.length_cons, List.length_nil] at hi
    match i, hi with
    | 0, _ => simp)
def dgt (j : Nat) : UInt8 := UInt8.ofNat (48 + j)
theorem conv_dig (w : World) (j : Nat) (h : j < 10) : (convert 73 9 (.slice (some ⟨w.heap.size, 0, none⟩) 1 1)).run Tryz.prog (w.alloc (.cells #[.int .u8 (48 + (j : Int))] 5)) = .ok (.string ⟨[dgt j].toArray⟩) (w.alloc (.cells #[.int .u8 (48 + (j : Int))] 5)) := by
  have h2 := conv_str (Byts.one' w (UInt8.ofNat (48 + j)))
  have e : ((UInt8.ofNat (48 + j)).toNat : Int) = 48 + (j : Int) := by rw [UInt8.toNat_ofNat']; omega
  rw [e] at h2
  exact h2

set_option maxRecDepth 100000 in
set_option maxHeartbeats 1000000 in
theorem dec_nat (n : Nat) (w : World) (hn : n < 10000000000000000) :
    Calls Tryz.prog 47 #[.int .i64 n] w fun e w' => e = .returned (.string ⟨(Lib.decDigits n).toArray⟩) ∧ Below w.heap.size w w' := by
  obtain ⟨x0, hx0⟩ : ∃ x0 : Int, x0 = (n : Int) := ⟨_, rfl⟩
  have HX0 := Lib.hid hx0
  rw [← hx0]
  have h0 : 0 ≤ x0 := by omega
  have h1 : x0 < 10000000000000000 := by omega
  obtain ⟨j, hj⟩ : ∃ j : Nat, n % 10 = j := ⟨_, rfl⟩
  have hj10 : j < 10 := by omega
  have hr : x0 % 10 = (j : Int) := by omega
  have HJ := Lib.hid hj
  have hcv := conv_dig w j hj10
  have hb1 : Below w.heap.size w (w.alloc (.cells #[.int .u8 (48 + (j : Int))] 5)) := (Below.refl _ w).alloc (Nat.le_refl _) _
  have HD := Lib.hid (dec_len 15 n (by omega))
  clear hj hx0
  go_enter Tryz.func47, Tryz.ntmps47
  go_wp2_with fail
  clear hr hcv
  go_loopw [0, 3] (fun a s wr => ∃ (m : Nat) (x : Int) (out : List UInt8), a = .int .i64 x ∧ s = .string ⟨out.toArray⟩ ∧ Hid (x = (m : Int)) ∧ m < 10000000000000000 ∧ Hid (decPre m ++ out = Lib.decDigits n) ∧ Below w.heap.size w wr) (fun a _ _ => (intOf a).toNat)
  case atStart => exact ⟨n, x0, _, rfl, rfl, HX0, hn, Lib.hid (by rw [← HJ.out]; exact decPre_all n), hb1⟩
  case round =>
    obtain ⟨m, x, out, rfl, rfl, HX, hm, HO, hbr⟩ := hrel
    have hxx0 : 0 ≤ x := by have := HX.out; omega
    have hxx1 : x < 10000000000000000 := by have := HX.out; omega
    have hol : out.length ≤ 16 := by have h2 := HD.out; rw [← HO.out, List.length_append] at h2; omega
    by_cases hlt : 9 < x
    · obtain ⟨k, hk⟩ : ∃ k : Nat, m / 10 % 10 = k := ⟨_, rfl⟩
      have hk10 : k < 10 := by omega
      have hr2 : x / 10 % 10 = (k : Int) := by have := HX.out; omega
      have HK := Lib.hid hk
      have hcv := conv_dig wr k hk10
      have hcat : (⟨#[dgt k]⟩ : ByteArray) ++ (⟨out.toArray⟩ : ByteArray) = ⟨(dgt k :: out).toArray⟩ := str_app [dgt k] out
      clear hk
      go_wp2_with fail
      refine ⟨⟨m / 10, x / 10, dgt k :: out, rfl, rfl, Lib.hid (by have := HX.out; omega), by omega, Lib.hid ?_, hbr.alloc hbr.size _⟩, by simp [intOf]; omega⟩
      rw [← HK.out]; unfold dgt; rw [decPre_step m (by have := HX.out; omega), HO.out]
    · go_wp2_with fail
      go_ret
      refine ⟨?_, hbr⟩
      have h2 := HO.out
      rw [decPre_end m (by have := HX.out; omega)] at h2
      rw [← h2]; rfl
theorem dec_any (n : Int) (w : World) (hn : Gn n) :
    Calls Tryz.prog 47 #[.int .i64 n] w fun e w' => e = .returned (.string ⟨(Lib.itoa n).toArray⟩) ∧ Below w.heap.size w w' := by
  have hl := itoa_len hn
  obtain ⟨h1, h2⟩ := hn
  by_cases h0 : n < 0
  · obtain ⟨m, hm⟩ : ∃ m : Nat, -n = (m : Int) := ⟨(-n).toNat, by omega⟩
    have hd := dec_nat m w (by omega)
    rw [itoa_neg n h0, hm, itoa_nat] at hl ⊢
    rw [List.length_cons] at hl
    have HM := Lib.hid hm
    rw [← hm] at hd
    have hcat : (⟨#[45]⟩ : ByteArray) ++ (⟨(Lib.decDigits m).toArray⟩ : ByteArray) = ⟨(45 :: Lib.decDigits m).toArray⟩ := str_app [45] (Lib.decDigits m)
    obtain ⟨D, hD⟩ : ∃ D, Lib.decDigits m = D := ⟨_, rfl⟩
    rw [hD] at hd hl hcat ⊢
    clear hD hm
    go_enter Tryz.func47, Tryz.ntmps47
    go_wp2_with fail
    refine hd.mono ?_
    rintro e w1 ⟨rfl, hb1⟩
    go_wp2_with fail
    go_ret
    exact ⟨rfl, hb1⟩
  · obtain ⟨m, rfl⟩ : ∃ m : Nat, n = (m : Int) := ⟨n.toNat, by omega⟩
    rw [itoa_nat]
    exact dec_nat m w (by omega)

theorem hex_extract : ∀ j : Fin 16, (⟨#[48, 49, 50, 51, 52, 53, 54, 55, 56, 57, 97, 98, 99, 100, 101, 102]⟩ : ByteArray).extract j.1 (j.1 + 1) = ⟨#[hexd j.1]⟩ := by decide +kernel

set_option maxRecDepth 100000 in
set_option maxHeartbeats 1000000 in
theorem rhex_any (n : Nat) (w : World) (hn : n < 4294967296) :
    Calls Tryz.prog 26 #[.int .i64 n] w fun e w' => e = .returned (.string ⟨(hex8 n).toArray⟩) ∧ w = w' := by
  obtain ⟨x0, hx0⟩ : ∃ x0 : Int, x0 = (n : Int) := ⟨_, rfl⟩
  have HX0 := Lib.hid hx0
  rw [← hx0]
  have h0 : 0 ≤ x0 := by omega
  have h1 : x0 < 4294967296 := by omega
  clear hx0
  go_enter Tryz.func26, Tryz.ntmps26
  go_wp2_with fail
  go_loop [0, 4, 5] (fun a s i => ∃ (t : Nat) (x : Int) (out : List UInt8), t ≤ 8 ∧ a = .int .i64 x ∧ s = .string ⟨out.toArray⟩ ∧ i = .int .i64 (t : Int) ∧ Hid (x = ((n / 16 ^ t : Nat) : Int)) ∧ out.length = t ∧ Hid (out = hexk t n)) (fun _ _ i => 8 - (intOf i).toNat)
  case atStart => exact ⟨0, x0, [], by omega, rfl, rfl, rfl, Lib.hid (by rw [HX0.out]; simp), rfl, Lib.hid rfl⟩
  case round =>
    obtain ⟨t, x, out, ht, rfl, rfl, rfl, HX, hol, HO⟩ := hrel
    have hx0 : 0 ≤ x := by have h2 := HX.out; rw [h2]; exact Int.natCast_nonneg _
    have hx1 : x < 4294967296 := by have h3 := HX.out; have h2 : n / 16 ^ t ≤ n := Nat.div_le_self _ _; omega
    have HL := Lib.hid hol
    have hol2 : out.length ≤ 8 := by omega
    clear hol
    by_cases hlt : t < 8
    · obtain ⟨j, hj⟩ : ∃ j : Nat, x % 16 = (j : Int) := ⟨(x % 16).toNat, by omega⟩
      have hj16 : j < 16 := by omega
      have HJ := Lib.hid hj
      have hex := hex_extract ⟨j, hj16⟩
      simp only at hex
      have HEX := Lib.hid hex
      clear hex
      go_wp2_with fail
      refine ⟨⟨t + 1, x / 16, hexd j :: out, by omega, rfl, ?_, rfl, Lib.hid ?_, by rw [List.length_cons, HL.out], Lib.hid ?_⟩, by simp [intOf]; omega⟩
      · rw [HEX.out]; exact congrArg Value.string (str_app [hexd j] out)
      · have h1 := HX.out
        rw [Nat.pow_succ, ← Nat.div_div_eq_div_mul]
        generalize n / 16 ^ t = y at h1 ⊢
        omega
      · have h1 := HX.out
        have h2 := HJ.out
        rw [hexk_cons, HO.out]
        congr 2
        generalize n / 16 ^ t = y at h1 ⊢
        omega
    · obtain rfl : t = 8 := by omega
      go_wp2_with fail
      go_ret
      exact ⟨by rw [HO.out]; rfl, rfl⟩

set_option maxHeartbeats 1000000 in
theorem rline_any (K k : Nat) (word : List UInt8) (ns : List Int) (w : World) (hns : Blk w k (ns.map I).toArray 3) (hg : ∀ n ∈ ns, Gn n) (hl : word.length + 18 * ns.length + 1 ≤ 900000) (h0 : 0 < ns.length) :
    Calls Tryz.prog 28 #[.string ⟨word.toArray⟩, .slice (some ⟨k, 0, none⟩) ns.length ns.length] w fun e w' => e = .returned (.string ⟨(lineB word ns).toArray⟩) ∧ Below w.heap.size w w' := by
  have hnl : ns.length ≤ 50000 := by omega
  have HL := Lib.hid hl
  clear hl
  go_enter Tryz.func28, Tryz.ntmps28
  go_wp2_with fail
  go_loopw [0, 5] (fun s i wr => ∃ (j : Nat) (out : List UInt8), j ≤ ns.length ∧ i = .int .i64 j ∧ s = .string ⟨out.toArray⟩ ∧ Hid (out = word ++ numsB (ns.take j)) ∧ out.length ≤ 900000 ∧ Below w.heap.size w wr) (fun _ i _ => ns.length - (intOf i).toNat)
  case atStart => exact ⟨0, word, Nat.zero_le _, rfl, rfl, Lib.hid (by simp [numsB]), by have := HL.out; omega, Below.refl _ _⟩
  case round =>
    obtain ⟨j, out, hj, rfl, rfl, HO, hol, hbr⟩ := hrel
    by_cases hlt : j < ns.length
    · have hc := (hns.below hbr hns.lt).at (i := j) (x := .int .i64 (ns[j]?.getD 0)) (by simp [hlt])
      have hgn := hg _ (getD_mem hlt 0)
      have hnt := numsB_take ns j hlt
      have hlen := numsB_len fun n (hn : n ∈ ns.take (j + 1)) => hg n (List.mem_of_mem_take hn)
      rw [List.length_take, hnt] at hlen
      obtain ⟨x, hx⟩ : ∃ x, ns[j]?.getD 0 = x := ⟨_, rfl⟩
      rw [hx] at hc hgn hnt hlen
      have hil := itoa_len hgn
      have hit := dec_any x wr hgn
      obtain ⟨s, hs⟩ : ∃ s, Lib.itoa x = s := ⟨_, rfl⟩
      rw [hs] at hil hit hnt hlen
      have HN := Lib.hid hnt
      have HLN := Lib.hid hlen
      clear hnt hx hs hlen
      have hcat : (⟨out.toArray⟩ : ByteArray) ++ (⟨#[32]⟩ : ByteArray) = ⟨(out ++ [32]).toArray⟩ := str_app out [32]
      have hcat2 : (⟨(out ++ [32]).toArray⟩ : ByteArray) ++ (⟨s.toArray⟩ : ByteArray) = ⟨((out ++ [32]) ++ s).toArray⟩ := str_app (out ++ [32]) s
      obtain ⟨o1, ho1⟩ : ∃ o1, out ++ [32] = o1 := ⟨_, rfl⟩
      have hol1 : o1.length ≤ 900001 := by rw [← ho1]; simp; omega
      rw [ho1] at hcat hcat2
      have HO1 := Lib.hid ho1
      clear ho1
      go_wp2_with fail
      refine hit.mono ?_
      rintro e w2 ⟨rfl, hb2⟩
      go_wp2_with fail
      refine ⟨⟨j + 1, o1 ++ s, by omega, by go_num, rfl, Lib.hid ?_, ?_, hbr.trans (hb2.mono hbr.size)⟩, by simp [intOf]; omega⟩
      · rw [HN.out, ← HO1.out, HO.out]; simp
      · have h2 := HL.out
        have h3 := HLN.out
        rw [← HO1.out, HO.out]
        simp only [List.length_append, List.length_cons, List.length_nil] at h3 ⊢
        omega
    · obtain rfl : j = ns.length := by omega
      have hcat : (⟨out.toArray⟩ : ByteArray) ++ (⟨#[10]⟩ : ByteArray) = ⟨(out ++ [10]).toArray⟩ := str_app out [10]
      go_wp2_with fail
      go_ret
      refine ⟨?_, hbr⟩
      have h2 := HO.out
      rw [List.take_length] at h2
      rw [lineB, ← h2]; rfl

set_option maxRecDepth 100000 in
set_option maxHeartbeats 1000000 in
theorem rend_any (l : List UInt8) (w : World) (hl : l.length ≤ 1048576) :
    Calls Tryz.prog 7 #[.string ⟨l.toArray⟩] w fun e w' => e = .returned (.string ⟨(endB l).toArray⟩) ∧ w = w' := by
  obtain ⟨s, hs⟩ : ∃ s : ByteArray, ⟨l.toArray⟩ = s := ⟨_, rfl⟩
  have hsl : s.size = l.length := by rw [← hs, str_size]
  have hsd : s.data.toList = l := by rw [← hs]
  have HSL := Lib.hid hsl
  have HSD := Lib.hid hsd
  have hsz : s.size ≤ 1048576 := by omega
  rw [hs]
  clear hs hsl hsd hl
  go_enter Tryz.func7, Tryz.ntmps7
  go_wp2_with fail
  go_loop [3, 4, 5] (fun a b i => ∃ (k : Nat) (x y : Int), k ≤ s.size ∧ i = .int .i64 k ∧ a = .int .i64 x ∧ b = .int .i64 y ∧ 0 ≤ x ∧ x < 4294967296 ∧ 0 ≤ y ∧ y < 4294967296 ∧ Hid (x = ((sA (l.take k) % 4294967296 : Nat) : Int)) ∧ Hid (y = ((sW 0 (l.take k) % 4294967296 : Nat) : Int))) (fun _ _ i => s.size - (intOf i).toNat)
  case atStart => exact ⟨0, 0, 0, Nat.zero_le _, rfl, rfl, rfl, by omega, by omega, by omega, by omega, Lib.hid (by simp [sA]), Lib.hid (by simp [sW])⟩
  case round =>
    obtain ⟨k, x, y, hk, rfl, rfl, rfl, hx0, hx1, hy0, hy1, HX, HY⟩ := hrel
    by_cases hlt : k < s.size
    · obtain ⟨c, hc⟩ : ∃ c : Int, (s[k].toNat : Int) = c := ⟨_, rfl⟩
      have hc0 : 0 ≤ c := by omega
      have hc1 : c < 256 := by have := u8_lt s[k]; omega
      have HC := Lib.hid hc
      obtain ⟨p, hp⟩ : ∃ p : Int, ((k : Int) + 1) * c = p := ⟨_, rfl⟩
      have hp0 : 0 ≤ p := by rw [← hp]; exact Int.mul_nonneg (by omega) hc0
      have hp1 : p ≤ 300000000 := by
        have h1 : ((k : Int) + 1) * c ≤ 1048576 * 256 := Int.mul_le_mul (by omega) (by omega) hc0 (by omega)
        omega
      have HP := Lib.hid hp
      go_wp2_with fail
      have hcl : c = ((l[k]?.getD 0).toNat : Int) := by rw [← HC.out, str_at HSD.out hlt]
      have hkl : k < l.length := by have := HSL.out; omega
      refine ⟨⟨k + 1, _, _, by omega, by go_num, rfl, rfl, by omega, by omega, by omega, by omega, Lib.hid ?_, Lib.hid ?_⟩, by simp [intOf]; omega⟩
      · rw [sA_take l k hkl, HX.out, hcl]
        omega
      · have h2 : p = (((k + 1) * (l[k]?.getD 0).toNat : Nat) : Int) := by rw [← HP.out, hcl]; simp
        rw [sW_take l k hkl, HY.out, h2]
        generalize (k + 1) * (l[k]?.getD 0).toNat = q
        omega
    · obtain rfl : k = s.size := by omega
      have e : l.take s.size = l := List.take_of_length_le (by have := HSL.out; omega)
      rw [e] at HX HY
      obtain ⟨a, ha⟩ : ∃ a : Nat, sA l % 4294967296 = a := ⟨_, rfl⟩
      obtain ⟨b, hb⟩ : ∃ a : Nat, sW 0 l % 4294967296 = a := ⟨_, rfl⟩
      have ha1 : a < 4294967296 := by omega
      have hb1 : b < 4294967296 := by omega
      rw [ha] at HX
      rw [hb] at HY
      obtain rfl := HX.out
      obtain rfl := HY.out
      have HA := Lib.hid ha
      have HB := Lib.hid hb
      clear ha hb e HX HY hx0 hx1 hy0 hy1
      have hA := rhex_any a w ha1
      have hB := rhex_any b w hb1
      have e1 : (hex8 a).length = 8 := hexk_length 8 a
      have e2 : (hex8 b).length = 8 := hexk_length 8 b
      go_wp2_with fail
      refine hA.mono ?_
      rintro e w2 ⟨rfl, rfl⟩
      go_wp2_with fail
      refine hB.mono ?_
      rintro e w3 ⟨rfl, rfl⟩
      go_wp2_with fail
      go_ret
      refine ⟨?_, rfl⟩
      show Ending.returned (Value.string (((((⟨[69, 78, 68, 32].toArray⟩ ++ ⟨(hex8 a).toArray⟩) ++ ⟨[32].toArray⟩) ++ ⟨(hex8 b).toArray⟩) ++ ⟨[10].toArray⟩ : ByteArray))) = _
      unfold endB
      rw [HA.out, HB.out, str_app, str_app, str_app, str_app]
end Go.Proofs.YtaccaebdmndkiaaGreatDoor
