/- Package bank: sums; FormatUint at base 16. No conditions beyond those stated. -/
import Derived.Test.YtaccaebdmndkiaaGreatDoorBVal
import Derived.Test.YtaccaebdmndkiaaGreatDoorBShelf
import Derived.Lib.AppendIntMem
import Derived.Laws.Bits64b
namespace Go.Proofs.YtaccaebdmndkiaaGreatDoor
open Go.RowKit
set_option linter.unusedVariables false

/-- The library's tables, as they are laid, whatever is done from block B on. -/
def Tabs (B : Nat) (w : World) : Prop := Lib.TabBelow Tryz.prog B w "internal/strconv.uint64pow10" .u64 Lib.pow10Tab ∧ 5 < B ∧ w.cell? ⟨5, 15, none⟩ = some (.int .u8 4)
theorem Tabs.on {B : Nat} {w w' : World} (h : Tabs B w) (hb : Below B w w') : Tabs B w' := ⟨h.1.on hb, h.2.1, (hb.cell (p := ⟨5, 15, none⟩) h.2.1).trans h.2.2⟩
theorem Tabs.on' {B C : Nat} {w w' : World} (h : Tabs B w) (hb : Below C w w') (hC : B ≤ C) : Tabs B w' := h.on (hb.mono hC)
theorem Tabs.drewN {B : Nat} {w : World} (h : Tabs B w) (n : Nat) : Tabs B (w.drewN n) := h.on ⟨rfl, rfl, rfl, Nat.le_refl _, fun _ _ => rfl⟩

theorem str_at {s : ByteArray} {l : List UInt8} (hl : s.data.toList = l) {k : Nat} (h : k < s.size) : s[k] = l[k]?.getD 0 := by
  subst hl
  have h' : k < s.data.size := h
  show s.data[k] = _
  rw [Array.getElem?_toList, Array.getElem?_eq_getElem h']; rfl

theorem sums_any (s : ByteArray) (w : World) (hs : s.size ≤ 2 ^ 40) :
    Calls Tryz.prog 70 #[.string s] w fun e w' => e = .returned (.tuple #[.int .u32 ((sA s.data.toList % 4294967296 : Nat) : Int), .int .u32 ((sW 0 s.data.toList % 4294967296 : Nat) : Int)]) ∧ w = w' := by
  obtain ⟨l, hl⟩ : ∃ l, s.data.toList = l := ⟨_, rfl⟩
  have hsl : s.size = l.length := by rw [← hl]; rfl
  have HL := Lib.hid hl
  have HSL := Lib.hid hsl
  rw [hl]
  clear hl hsl
  go_enter Tryz.func70, Tryz.ntmps70
  go_wp2
  go_loop [2, 3, 4] (fun a b i => ∃ k : Nat, k ≤ s.size ∧ i = .int .i64 k ∧ a = .int .u32 ((sA (l.take k) % 4294967296 : Nat) : Int) ∧ b = .int .u32 ((sW 0 (l.take k) % 4294967296 : Nat) : Int)) (fun _ _ i => s.size - (intOf i).toNat)
  case atStart => exact ⟨0, Nat.zero_le _, rfl, by simp [sA], by simp [sW]⟩
  case round =>
    obtain ⟨k, hk, rfl, rfl, rfl⟩ := hrel
    by_cases hlt : k < s.size
    · go_wp2
      refine ⟨⟨k + 1, by omega, by go_num, ?_, ?_⟩, by simp [intOf]; omega⟩
      · rw [str_at HL.out hlt, sA_take l k (by have := HSL.out; omega)]
        congr 1; rw [Int.natCast_emod, Int.natCast_add]; exact (Int.add_emod _ _ _).symm
      · rw [str_at HL.out hlt, sW_take l k (by have := HSL.out; omega)]
        generalize (l[k]?.getD 0).toNat = c
        congr 1
        rw [Int.natCast_emod, Int.natCast_add, Int.natCast_mul, Int.natCast_add, ← Int.mul_emod]; exact (Int.add_emod _ _ _).symm
    · obtain rfl : k = s.size := by omega
      go_wp2
      go_ret2
      have e : l.take s.size = l := List.take_of_length_le (by have := HSL.out; omega)
      rw [e]; simp

theorem isPow_16 (w : World) : Calls Tryz.prog 104 #[.int .i64 16] w fun e w' => e = .returned (.bool true) ∧ w = w' := by
  have hb : bits BinOp.and IntKind.i64 16 15 = 0 := by kernel_rfl
  go_enter Tryz.func104, Tryz.ntmps104
  go_wp2
  go_ret
  exact ⟨rfl, rfl⟩
theorem tz_16 (w : World) (hT : w.cell? ⟨5, 15, none⟩ = some (.int .u8 4)) : Calls Tryz.prog 105 #[.int .u64 16] w fun e w' => e = .returned (.int .i64 4) ∧ w = w' := by
  have h1 : IntKind.u64.wrap (-16) = 18446744073709551600 := by kernel_rfl
  have h2 : bits BinOp.and IntKind.u64 16 18446744073709551600 = 16 := by kernel_rfl
  have h3 : IntKind.u64.wrap (16 * 285870213051353865) = 4573923408821661840 := by kernel_rfl
  have H1 := Lib.hid h1
  have h4 : (4573923408821661840 : Int) / 288230376151711744 = 15 := by kernel_rfl
  go_enter Tryz.func105, Tryz.ntmps105
  go_wp2
  go_ret
  exact ⟨rfl, rfl⟩
theorem set_drop {α : Type} (l : List α) (i : Nat) (h : i < l.length) (x : α) : (l.set i x).drop i = x :: l.drop (i + 1) := by
  induction l generalizing i with
  | nil => simp at h
  | cons a l ih =>
    cases i with
    | zero => simp
    | succ i => simpa using ih i (by simpa using h)
/-- string(b). -/
theorem conv_str {K : Nat} {w : World} {v : Value} {l : List UInt8} (h : Byts K w v l) : (convert 73 9 v).run Tryz.prog w = .ok (.string ⟨l.toArray⟩) w := by
  obtain ⟨a, cap, rfl, hl, hm, hz, hc⟩ := h
  cases a with
  | none =>
    have h0 : l = [] := by
      cases l with
      | nil => rfl
      | cons b r => obtain ⟨b', o', h, _⟩ := hc 0 (by simp); cases h
    subst h0
    exact run_convert_bytes_nil w 73 5 Tryz.underlying73 Tryz.underlying5 _ _ 9 Tryz.underlying9
  | some ad =>
    refine run_convert_bytes_back w 73 9 5 ad cap l Tryz.underlying73 Tryz.underlying5 Tryz.underlying9 fun j hj => ?_
    obtain ⟨b, o, he, _, hcell⟩ := hc j hj
    simp only [Option.some.injEq] at he
    subst he
    rw [List.getElem?_eq_getElem hj] at hcell
    rw [Addr.add]
    by_cases h0 : j = 0
    · subst h0; simpa using hcell
    · simpa [h0] using hcell
theorem and_15 (x : Int) (h0 : 0 ≤ x) (h1 : x < 4294967296) : bits BinOp.and IntKind.u64 x 15 = x % 16 := by
  have h := bits_and_u64_nat x.toNat 15 (by omega) (by omega)
  have e : x.toNat &&& 15 = x.toNat % 16 := Nat.and_two_pow_sub_one_eq_mod x.toNat 4
  rw [e, Int.toNat_of_nonneg h0] at h
  exact h.trans (by omega)
/-- The array of formatBits: its last t cells hold the last t digits of n. -/
def HexA (b t n : Nat) (w : World) : Prop := ∃ cs : Array Value, Blk w b cs 150 ∧ cs.size = 65 ∧ cs.toList.drop (65 - t) = (hexk t n).map B
theorem HexA.free {b t n : Nat} {w : World} (h : HexA b t n w) (i : Nat) : w.frozen? ⟨b, i, none⟩ = false := by
  obtain ⟨cs, h, _⟩ := h; exact h.free i
theorem HexA.at {b t n : Nat} {w : World} (h : HexA b t n w) {i : Nat} (hi : i < 65) : ∃ v, w.cell? ⟨b, i, none⟩ = some v := by
  obtain ⟨cs, h, hs, _⟩ := h
  exact ⟨cs[i], h.at (Array.getElem?_eq_getElem (by omega))⟩
theorem HexA.set {b t n : Nat} {w : World} (h : HexA b t n w) (ht : t < 65) : HexA b (t + 1) n (w.setCell ⟨b, 64 - t, none⟩ (B (hexd (n / 16 ^ t % 16)))) := by
  obtain ⟨cs, h, hs, hd⟩ := h
  refine ⟨_, h.set _, by simp [hs], ?_⟩
  rw [Array.toList_setIfInBounds, show 65 - (t + 1) = 64 - t by omega, set_drop _ _ (by simp [hs]; omega), show 64 - t + 1 = 65 - t by omega, hd, hexk_cons, List.map_cons]
theorem HexA.byts {b t n : Nat} {w : World} (h : HexA b t n w) (ht : t ≤ 65) : Byts (b + 1) w (.slice (some ⟨b, 65 - t, none⟩) t t) (hexk t n) := by
  obtain ⟨cs, h, hs, hd⟩ := h
  have hl := hexk_length t n
  have := Byts.mk_cells (K := b + 1) (w := w) (l := hexk t n) (b := b) (o := 65 - t) (cap := t) (by omega) (by simp [maxLen]; omega) (by omega) fun i hi => by
    have h2 : (cs.toList.drop (65 - t))[i]? = ((hexk t n).map B)[i]? := by rw [hd]
    rw [List.getElem?_drop, List.getElem?_map, List.getElem?_eq_getElem hi] at h2
    refine h.at ?_
    rw [← Array.getElem?_toList, h2, List.getElem?_eq_getElem hi]; rfl
  rwa [hl] at this
theorem hexd_at : ∀ j : Nat, j < 16 → (#[48, 49, 50, 51, 52, 53, 54, 55, 56, 57, 97, 98, 99, 100, 101, 102, 103, 104, 105, 106, 107, 108, 109, 110, 111, 112, 113, 114, 115, 116, 117, 118, 119, 120, 121, 122] : Array UInt8)[j]? = some (hexd j) := by decide

theorem hexd_get (j : Nat) (h : j < 36) (h16 : j < 16) : (⟨#[48, 49, 50, 51, 52, 53, 54, 55, 56, 57, 97, 98, 99, 100, 101, 102, 103, 104, 105, 106, 107, 108, 109, 110, 111, 112, 113, 114, 115, 116, 117, 118, 119, 120, 121, 122]⟩ : ByteArray)[j] = hexd j :=
  (Array.getElem?_eq_some_iff.1 (hexd_at j h16)).elim fun _ h => h

set_option maxRecDepth 100000 in
set_option maxHeartbeats 1000000 in
theorem bits_16 (n : Nat) (w : World) (hT : w.cell? ⟨5, 15, none⟩ = some (.int .u8 4)) (h1 : n < 4294967296) :
    Calls Tryz.prog 92 #[.slice none 0 0, .int .u64 n, .int .i64 16, .bool false, .bool false] w fun e w' => ∃ m, 1 ≤ m ∧ m ≤ 8 ∧ n < 16 ^ m ∧ e = .returned (.tuple #[.slice none 0 0, .string ⟨(hexk m n).toArray⟩]) ∧ Below w.heap.size w w' := by
  have hT1 : (w.alloc (.cells Tryz.zeroCells150 150)).cell? ⟨5, 15, none⟩ = some (.int .u8 4) := ((Below.refl w.heap.size w).alloc (Nat.le_refl _) _ |>.cell (p := ⟨5, 15, none⟩) (World.block_lt_of_cell? w _ hT)).trans hT
  have hz : HexA w.heap.size 0 n (w.alloc (.cells Tryz.zeroCells150 150)) := ⟨_, Blk.new w _ _, by kernel_rfl, by kernel_rfl⟩
  have HZ := Lib.hid hz
  clear hz
  have hb0 : Below w.heap.size w (w.alloc (.cells Tryz.zeroCells150 150)) := (Below.refl _ w).alloc (Nat.le_refl _) _
  go_enter Tryz.func92, Tryz.ntmps92
  go_wp2_with first | (go_at_call 104; refine (isPow_16 _).mono ?_; rintro e w1 ⟨rfl, rfl⟩) | (go_at_call 105; refine (tz_16 _ hT1).mono ?_; rintro e w1 ⟨rfl, rfl⟩)
  go_loopw [1, 13] (fun u i wr => ∃ (t : Nat) (x : Int), t ≤ 7 ∧ u = .int .u64 x ∧ i = .int .i64 (65 - (t : Int)) ∧ Hid (x = ((n / 16 ^ t : Nat) : Int)) ∧ HexA w.heap.size t n wr ∧ Below w.heap.size w wr) (fun u _ _ => (intOf u).toNat)
  case atStart => exact ⟨0, _, by omega, rfl, by simp, Lib.hid (by simp), HZ.out, hb0⟩
  case round =>
    obtain ⟨t, x, ht, rfl, rfl, HX, hA, hbr⟩ := hrel
    have hx0 : 0 ≤ x := by have h2 := HX.out; rw [h2]; exact Int.natCast_nonneg _
    have hx1 : x < 4294967296 := by have h3 := HX.out; have h2 : n / 16 ^ t ≤ n := Nat.div_le_self _ _; omega
    by_cases hlt : 16 ≤ x
    · have ht8 : t < 7 := by
        rcases Nat.lt_or_ge t 7 with h | h
        · exact h
        · have : t = 7 := by omega
          subst this
          have h2 := HX.out
          have : n / 16 ^ 7 < 16 := by omega
          omega
      obtain ⟨v0, hv0⟩ := hA.at (i := 65 - t - 1) (by omega)
      have hf0 := hA.free (65 - t - 1)
      obtain ⟨j, hj⟩ : ∃ j : Nat, x % 16 = (j : Int) := ⟨(x % 16).toNat, by omega⟩
      have hj16 : j < 16 := by omega
      have HJ := Lib.hid hj
      have hand : bits BinOp.and IntKind.u64 x 15 = (j : Int) := by rw [← hj]; exact and_15 x hx0 hx1
      clear hj
      have hjn : j = n / 16 ^ t % 16 := by have h1 := HX.out; have h2 := HJ.out; generalize n / 16 ^ t = y at h1 ⊢; omega
      have HJN := Lib.hid hjn
      clear hjn
      go_wp2_with fail
      refine ⟨⟨t + 1, x / 16, by omega, rfl, ?_, Lib.hid ?_, ?_, hbr.setCell (p := ⟨w.heap.size, _, none⟩) (Nat.le_refl _) _⟩, by simp [intOf]; omega⟩
      · congr 1; omega
      · have h1 := HX.out
        rw [Nat.pow_succ, ← Nat.div_div_eq_div_mul]
        generalize n / 16 ^ t = y at h1 ⊢
        omega
      · have h2 := hA.set (by omega)
        rw [← HJN.out] at h2
        rw [hexd_get j _ hj16, show 65 - t - 1 = 64 - t by omega]
        exact h2
    · obtain ⟨v0, hv0⟩ := hA.at (i := 65 - t - 1) (by omega)
      have hf0 := hA.free (65 - t - 1)
      have hx16 : x < 16 := by omega
      have hjn : n / 16 ^ t % 16 = x.toNat := by have h1 := HX.out; generalize n / 16 ^ t = y at h1 ⊢; omega
      have hnt : n < 16 ^ (t + 1) := by
        have h1 := HX.out
        have h2 : n / 16 ^ t < 16 := by generalize n / 16 ^ t = y at h1 ⊢; omega
        rw [Nat.pow_succ]; exact (Nat.div_lt_iff_lt_mul (Nat.pow_pos (by omega))).1 h2 |> fun h => by rwa [Nat.mul_comm] at h
      obtain ⟨W1, hW1⟩ : ∃ W1, wr.setCell ⟨w.heap.size, 65 - t - 1, none⟩ (.int .u8 ((⟨#[48, 49, 50, 51, 52, 53, 54, 55, 56, 57, 97, 98, 99, 100, 101, 102, 103, 104, 105, 106, 107, 108, 109, 110, 111, 112, 113, 114, 115, 116, 117, 118, 119, 120, 121, 122]⟩ : ByteArray)[x.toNat]'(by show x.toNat < 36; omega)).toNat) = W1 := ⟨_, rfl⟩
      have hA1 : HexA w.heap.size (t + 1) n W1 := by
        have h2 := hA.set (by omega)
        rw [hjn] at h2
        rw [← hW1, hexd_get x.toNat _ (by omega), show 65 - t - 1 = 64 - t by omega]
        exact h2
      have hb1 : Below w.heap.size w W1 := by rw [← hW1]; exact hbr.setCell (p := ⟨w.heap.size, _, none⟩) (Nat.le_refl _) _
      have hsl : (Instr.sliceAt 150 (.pointer (some ⟨w.heap.size, 0, none⟩)) (some (.int .i64 (65 - (t : Int) - 1))) none none).run Tryz.prog W1 = .ok (.slice (some ⟨w.heap.size, 64 - t, none⟩) (t + 1) (t + 1)) W1 := by
        have ha : Tryz.prog.arrayLen 150 = 65 := by kernel_rfl
        have h1 := run_sliceAt_array_l (P := Tryz.prog) W1 150 ⟨w.heap.size, 0, none⟩ (by rw [ha]; exact Tryz.underlying150) IntKind.i64 (65 - (t : Int) - 1) (by omega) (by rw [ha]; omega)
        rw [h1, ha, show Tryz.prog.elem 150 = 5 by kernel_rfl, Tryz.sizeOf5]
        rw [Result.andThen_ok]
        unfold slicedAt
        rw [show (65 - (t : Int) - 1).toNat = 64 - t by omega, if_neg (by omega), show 65 - (64 - t) = t + 1 by omega]
        simp [Addr.add]
        omega
      have hcv := conv_str (hA1.byts (by omega))
      rw [show 65 - (t + 1) = 64 - t by omega] at hcv
      go_wp2_with fail
      go_ret2
      exact ⟨t + 1, by omega, by omega, hnt, rfl, hb1⟩
end Go.Proofs.YtaccaebdmndkiaaGreatDoor
