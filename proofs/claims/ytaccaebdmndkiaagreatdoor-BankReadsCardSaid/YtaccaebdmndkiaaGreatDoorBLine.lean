/- Package bank: a line that is written to a text. No conditions beyond those stated. -/
import Derived.Test.YtaccaebdmndkiaaGreatDoorBEnd
namespace Go.Proofs.YtaccaebdmndkiaaGreatDoor
open Go.RowKit
set_option linter.unusedVariables false

theorem itoa_any {B : Nat} (n : Int) (w : World) (hT : Tabs B w) (hn : Gn n) :
    Calls Tryz.prog 54 #[.int .i64 n] w fun e w' => e = .returned (.string ⟨(Lib.itoa n).toArray⟩) ∧ Below w.heap.size w w' := by
  unfold Gn at hn
  refine (Tryz.strconv_Itoa n (by omega) (by omega) w hT.1.here).mono ?_
  rintro e w' ⟨rfl, k, os, rfl⟩
  exact ⟨rfl, Lib.below_grow _ _ (Nat.le_refl _) _ _⟩

/-- The text that is being written holds l. -/
abbrev Bld (B b : Nat) (l : List UInt8) (w : World) : Prop := Lib.IsBuilderF 95 5 B b (Lib.byteCells l) w
theorem Bld.lt {B b : Nat} {l : List UInt8} {w : World} (h : Bld B b l w) : b < w.heap.size := by
  rcases h with h | h
  · exact h.lt
  · exact h.lt
theorem Bld.old {B b : Nat} {l : List UInt8} {w w' : World} (h : Bld B b l w) (hb : Below w.heap.size w w') : Bld B b l w' := by
  have key : ∀ p, Lib.BuilderAtF 95 5 B b p (Lib.byteCells l) w → Lib.BuilderAtF 95 5 B b p (Lib.byteCells l) w' := by
    rintro p ⟨hB, v, hv, ho, hne⟩
    have h1 := (Array.getElem?_eq_some_iff.1 hv).1
    refine ⟨hB, v, (hb.block b h1).trans hv, ⟨ho.1, ?_⟩, hne⟩
    rcases ho.2 with hn | ⟨g, cap, cur, fz, rfl, hg, hc, rest⟩
    · exact .inl hn
    · have h2 := (Array.getElem?_eq_some_iff.1 hc).1
      exact .inr ⟨g, cap, cur, fz, rfl, hg, (hb.block g h2).trans hc, rest⟩
  rcases h with h | h
  · exact .inl (key _ h)
  · exact .inr (key _ h)
theorem kept_old {t : TypeId} {b : Option Nat} {w w' : World} (hb : Below w.heap.size w w') : Lib.OthersKept t b w w' := fun k o hk _ _ =>
  (hb.block k (Array.getElem?_eq_some_iff.1 hk).1).trans hk
theorem Blk.kept {b k t : Nat} {cs : Array Value} {w w' : World} (h : Blk w k cs t) (hk : Lib.OthersKept 5 (some b) w w') (hne : k ≠ b) (ht : t ≠ 5) : Blk w' k cs t :=
  hk k _ h (by simpa using hne) (by intro c fz he; injection he with _ h2 _; exact ht h2)

theorem wr_any (B b : Nat) (l s : List UInt8) (w : World) (h : Bld B b l w) (hB : B ≤ w.heap.size) (hl : l.length + s.length ≤ 1000000) :
    Calls Tryz.prog 53 #[.pointer (some ⟨b, 0, none⟩), .string ⟨s.toArray⟩] w fun e w' => ∃ n, e = .returned (.tuple #[.int .i64 n, .nilIface]) ∧ Bld B b (l ++ s) w' ∧ Below B w w' ∧ Lib.OthersKept 5 (some b) w w' := by
  refine (Tryz.Builder_WriteString_k B b _ ⟨s.toArray⟩ w h (by rw [Lib.byteCells_length, str_size]; omega) hB).mono ?_
  rintro e w' ⟨rfl, h1, h2, h3⟩
  refine ⟨_, rfl, ?_, h2, h3⟩
  unfold Bld
  rw [Lib.byteCells_append]
  exact .inr h1

set_option maxHeartbeats 1000000 in
theorem line_any (B b k : Nat) (acc word : List UInt8) (ns : List Int) (w : World) (h : Bld B b acc w) (hB : B ≤ w.heap.size) (hT : Tabs B w) (hns : Blk w k (ns.map I).toArray 3) (hkb : k ≠ b)
    (hg : ∀ n ∈ ns, Gn n) (hl : acc.length + word.length + 18 * ns.length + 1 ≤ 900000) (h0 : 0 < ns.length) :
    Calls Tryz.prog 52 #[.string ⟨word.toArray⟩, .slice (some ⟨k, 0, none⟩) ns.length ns.length, .pointer (some ⟨b, 0, none⟩)] w fun e w' =>
      e = .returned (.tuple #[]) ∧ Bld B b (acc ++ lineB word ns) w' ∧ Below B w w' ∧ Lib.OthersKept 5 (some b) w w' := by
  have hnl : ns.length ≤ 50000 := by omega
  have HL := Lib.hid hl
  have hw1 := wr_any B b acc word w h hB (by omega)
  clear hl
  go_enter Tryz.func52, Tryz.ntmps52
  go_wp2_with fail
  refine hw1.mono ?_
  rintro e w1 ⟨n1, rfl, hb1, hw1b, hk1⟩
  go_wp2_with fail
  go_loopw [11] (fun i wr => ∃ j : Nat, j ≤ ns.length ∧ i = .int .i64 j ∧ Bld B b (acc ++ (word ++ numsB (ns.take j))) wr ∧ Below B w wr ∧ Lib.OthersKept 5 (some b) w wr) (fun i _ => ns.length - (intOf i).toNat)
  case atStart => exact ⟨0, Nat.zero_le _, rfl, by simpa [numsB] using hb1, hw1b, hk1⟩
  case round =>
    obtain ⟨j, hj, rfl, hI, hbr, hkr⟩ := hrel
    have hsz := hbr.size
    by_cases hlt : j < ns.length
    · have hc := (hns.kept hkr hkb (by decide)).at (i := j) (x := .int .i64 (ns[j]?.getD 0)) (by simp [hlt])
      have hgn := hg _ (getD_mem hlt 0)
      have hnt := numsB_take ns j hlt
      have hlen := numsB_len fun n (hn : n ∈ ns.take j) => hg n (List.mem_of_mem_take hn)
      rw [List.length_take] at hlen
      obtain ⟨x, hx⟩ : ∃ x, ns[j]?.getD 0 = x := ⟨_, rfl⟩
      rw [hx] at hc hgn hnt
      have hil := itoa_len hgn
      have HN := Lib.hid hnt
      clear hnt hx
      have hit := itoa_any x wr (hT.on hbr) hgn
      go_wp2_with fail
      refine hit.mono ?_
      rintro e w2 ⟨rfl, hb2⟩
      obtain ⟨s, hs⟩ : ∃ s, Lib.itoa x = s := ⟨_, rfl⟩
      rw [hs] at hil
      have HSE := Lib.hid hs
      rw [hs]
      clear hs hit
      have hcat : (⟨#[32]⟩ : ByteArray) ++ (⟨s.toArray⟩ : ByteArray) = ⟨(32 :: s).toArray⟩ := str_app [32] s
      have hw3 := wr_any B b (acc ++ (word ++ numsB (ns.take j))) (32 :: s) w2 (hI.old hb2) (by have := hb2.size; omega) (by have := HL.out; simp only [List.length_append, List.length_cons]; omega)
      go_wp2_with fail
      refine hw3.mono ?_
      rintro e w3 ⟨n3, rfl, hI3, hb3, hk3⟩
      go_wp2_with fail
      refine ⟨⟨j + 1, by omega, by go_num, ?_, (hbr.trans (hb2.mono (Nat.le_trans hB hsz))).trans hb3, (hkr.trans (kept_old hb2)).trans hk3⟩, by simp [intOf]; omega⟩
      rw [HN.out, HSE.out]; simpa using hI3
    · obtain rfl : j = ns.length := by omega
      have hlen := numsB_len hg
      rw [List.take_length] at hI
      have hw3 := wr_any B b (acc ++ (word ++ numsB ns)) [10] wr hI (by omega) (by have := HL.out; simp only [List.length_append, List.length_cons, List.length_nil]; omega)
      go_wp2_with fail
      refine hw3.mono ?_
      rintro e w3 ⟨n3, rfl, hI3, hb3, hk3⟩
      go_wp2_with fail
      go_end0
      refine ⟨rfl, ?_, hbr.trans hb3, hkr.trans hk3⟩
      simpa [lineB] using hI3
end Go.Proofs.YtaccaebdmndkiaaGreatDoor
