/- What comes in, opened: bytes, lists of texts, numbers. No conditions. -/
import Derived.Test.YtkdlimigepkepaaTxr
import Derived.OpenShut
import Derived.Deep.Slices
import Derived.Lib.SmallJoins
namespace Go.Proofs.Ytkdlimigepkepaa
open Go.RowKit Go.ChangeShapes Go.WideShapes Go.ChangeAt
set_option linter.unusedVariables false

theorem lt_of_cell {w : World} {a : Addr} {v : Value} (h : w.cell? a = some v) : a.block < w.heap.size := World.block_lt_of_cell? w _ h

/-- Bytes that came in. -/
theorem byts_of_trod {H : Type} {enc : TypeId × Value → H} {W : World} {fuel : Nat} {v : Value} {x : DataW H × List MemPlace}
    (h : DataW.trod enc Try.prog W 0 (fun _ => true) true fuel 25 [v] = some x) : ∃ l, Byts W.heap.size W v l := by
  rcases open_ints Try.underlying25 Try.underlying5 (by kernel_rfl) h with ⟨hcs, _⟩ | ⟨a, len, cap, zs, hcs, _, hl, hm, hz, _, hcell, hwz⟩
  · simp only [List.cons.injEq, and_true] at hcs
    subst hcs
    exact ⟨[], Byts.nil none 0 (Nat.zero_le _) (fun _ => rfl)⟩
  · simp only [List.cons.injEq, and_true] at hcs
    subst hcs
    simp only [if_true] at hz
    have hlen : ((zs.take len).map fun n => UInt8.ofNat n.toNat).length = len := by simp; omega
    refine ⟨(zs.take len).map fun n => UInt8.ofNat n.toNat, some a, cap, by rw [hlen], by rw [hlen]; exact hl, hm, (fun h => nomatch h), fun i hi => ?_⟩
    rw [hlen] at hi
    have hc := hcell i (by omega)
    have hw := hwz (zs.getD i 0) (by rw [List.getD_eq_getElem?_getD, List.getElem?_eq_getElem (by omega)]; exact List.getElem_mem _)
    have hb := lt_of_cell hc
    have hr : 0 ≤ zs.getD i 0 ∧ zs.getD i 0 < 256 := by
      obtain ⟨z, hz⟩ : ∃ z, zs.getD i 0 = z := ⟨_, rfl⟩
      rw [hz] at hw ⊢
      simp [Lit.wf, IntKind.min, IntKind.max, IntKind.signed, IntKind.bits] at hw
      omega
    have hv : (((zs.take len).map fun n => UInt8.ofNat n.toNat)[i]?.getD 0) = UInt8.ofNat (zs.getD i 0).toNat := by
      rw [List.getElem?_map, List.getElem?_take_of_lt hi, List.getD_eq_getElem?_getD, List.getElem?_eq_getElem (by omega)]
      rfl
    obtain ⟨b, o, sp⟩ := a
    have hsp : sp = none := by
      have := World.cell?_spot (hcell 0 (by omega))
      simpa [Addr.add] using this
    subst hsp
    have he : (Addr.add ⟨b, o, none⟩ i) = ⟨b, o + i, none⟩ := by
      rw [Addr.add]; by_cases h0 : i = 0
      · subst h0; simp
      · simp [h0]
    rw [he] at hc hb
    refine ⟨b, o, rfl, hb, ?_⟩
    rw [hc, hv]
    congr 2
    rw [UInt8.toNat_ofNat']
    omega

/-- Numbers that came in. -/
def Ints (w : World) (v : Value) (zs : List Int) : Prop :=
  ∃ a cap, v = .slice a zs.length cap ∧ zs.length ≤ cap ∧ cap ≤ maxLen ∧ (∀ n ∈ zs, -(2 ^ 63) ≤ n ∧ n ≤ 2 ^ 63 - 1) ∧
    ∀ i, i < zs.length → ∃ b o, a = some ⟨b, o, none⟩ ∧ b < w.heap.size ∧ w.cell? ⟨b, o + i, none⟩ = some (.int .i64 (zs[i]?.getD 0))
theorem ints_of_trod {H : Type} {enc : TypeId × Value → H} {W : World} {fuel : Nat} {v : Value} {x : DataW H × List MemPlace}
    (h : DataW.trod enc Try.prog W 0 (fun _ => true) true fuel 22 [v] = some x) : ∃ l, Ints W v l := by
  rcases open_ints Try.underlying22 Try.underlying3 (by kernel_rfl) h with ⟨hcs, _⟩ | ⟨a, len, cap, zs, hcs, _, hl, hm, hz, _, hcell, hwz⟩
  · simp only [List.cons.injEq, and_true] at hcs
    subst hcs
    exact ⟨[], none, 0, rfl, Nat.le_refl _, Nat.zero_le _, (fun n hn => nomatch hn), fun i hi => absurd hi (Nat.not_lt_zero i)⟩
  · simp only [List.cons.injEq, and_true] at hcs
    subst hcs
    simp only [if_true] at hz
    have hlen : (zs.take len).length = len := by simp; omega
    refine ⟨zs.take len, some a, cap, by rw [hlen], by rw [hlen]; exact hl, hm, fun n hn => ?_, fun i hi => ?_⟩
    · have := hwz n (List.mem_of_mem_take hn)
      simp [Lit.wf, IntKind.min, IntKind.max, IntKind.signed, IntKind.bits] at this
      omega
    rw [hlen] at hi
    have hc := hcell i (by omega)
    have hb := lt_of_cell hc
    have hv : ((zs.take len)[i]?.getD 0) = zs.getD i 0 := by
      rw [List.getElem?_take_of_lt hi, List.getD_eq_getElem?_getD]
    obtain ⟨b, o, sp⟩ := a
    have hsp : sp = none := by
      have := World.cell?_spot (hcell 0 (by omega))
      simpa [Addr.add] using this
    subst hsp
    have he : (Addr.add ⟨b, o, none⟩ i) = ⟨b, o + i, none⟩ := by
      rw [Addr.add]; by_cases h0 : i = 0
      · subst h0; simp
      · simp [h0]
    rw [he] at hc hb
    exact ⟨b, o, rfl, hb, by rw [hc, hv]⟩

/-- Texts that came in. -/
theorem txts_of_trod {H : Type} {enc : TypeId × Value → H} {W : World} {fuel : Nat} {v : Value} {x : DataW H × List MemPlace}
    (h : DataW.trod enc Try.prog W 0 (fun _ => true) true fuel 23 [v] = some x) : ∃ l, Txts W.heap.size W v l := by
  rcases Go.Deep.open_slice1 Try.underlying23 (by kernel_rfl) h with ⟨hcs, _⟩ | ⟨a, len, cap, m, n, V, D, Pl, hcs, _, hl, hm, hmm, _, hcell⟩
  · simp only [List.cons.injEq, and_true] at hcs
    subst hcs
    exact ⟨[], none, 0, rfl, Nat.le_refl _, Nat.zero_le _, fun i hi => absurd hi (Nat.not_lt_zero i)⟩
  · simp only [List.cons.injEq, and_true] at hcs
    subst hcs
    simp only [if_true] at hmm
    subst hmm
    have hall : ∀ i, ∃ l, i < m → Byts W.heap.size W (V i) l := fun i => by
      by_cases hi : i < m
      · obtain ⟨l, hl⟩ := byts_of_trod (hcell i hi).2
        exact ⟨l, fun _ => hl⟩
      · exact ⟨[], fun h => absurd h hi⟩
    refine ⟨(List.range len).map fun i => Classical.choose (hall i), some a, m, by simp, by simpa using hl, hm, fun i hi => ?_⟩
    simp only [List.length_map, List.length_range] at hi
    have hb := Classical.choose_spec (hall i) (by omega)
    have hc := (hcell i (by omega)).1
    have hlt := lt_of_cell hc
    obtain ⟨b, o, sp⟩ := a
    have hsp : sp = none := by
      have := World.cell?_spot (hcell 0 (by omega)).1
      simpa [Addr.add] using this
    subst hsp
    have he : (Addr.add ⟨b, o, none⟩ i) = ⟨b, o + i, none⟩ := by
      rw [Addr.add]; by_cases h0 : i = 0
      · subst h0; simp
      · simp [h0]
    rw [he] at hc hlt
    refine ⟨b, o, V i, rfl, hlt, hc, ?_⟩
    rw [List.getElem?_map, List.getElem?_range hi]
    exact hb

end Go.Proofs.Ytkdlimigepkepaa
