/- Package bank: lines, and what its iterator yields. No conditions beyond the text's form. -/
import Derived.Test.YtaccaebdmndkiaaGreatDoorBIsEnd
import Derived.Test.YtaccaebdmndkiaaGreatDoorRF
namespace Go.Proofs.YtaccaebdmndkiaaGreatDoor
open Go.RowKit
set_option linter.unusedVariables false
attribute [local go_sem] Oper.semAt_some

theorem lines_any (s : ByteArray) (w : World) : Calls Tryz.prog 61 #[.string s] w fun e w' => e = .returned (.func (.func 75) #[] #[.pointer (some ⟨w.heap.size, 0, none⟩)]) ∧ w.alloc (.cells #[.string s] 9) = w' := by
  go_enter Tryz.func61, Tryz.ntmps61
  go_wp2
  go_ret
  exact ⟨rfl, rfl⟩

theorem cut_line {p : List UInt8} (h : (10 : UInt8) ∉ p) (r : List UInt8) : Lib.cut (p ++ 10 :: r) [10] = (p, r, true) := by
  unfold Lib.cut
  rw [idx_hit h, if_pos (by omega)]
  have e : (p ++ 10 :: r).drop (p.length + 1) = r := by rw [List.drop_append, List.drop_eq_nil_of_le (by omega)]; simp
  simp only [Int.toNat_natCast, List.take_left, List.length_singleton, e]
theorem joinAt_drop (ls : List (List UInt8)) (k : Nat) (h : k < ls.length) : joinAt 10 (ls.drop k) = (ls[k]?.getD []) ++ 10 :: joinAt 10 (ls.drop (k + 1)) := by
  rw [List.drop_eq_getElem_cons h, joinAt, List.getElem?_eq_getElem h]; rfl
theorem joinAt_many (ls : List (List UInt8)) : ls.length ≤ (joinAt 10 ls).length := by
  induction ls with
  | nil => simp
  | cons p r ih => rw [joinAt, List.length_append, List.length_cons, List.length_cons]; omega
theorem joinAt_len (ls : List (List UInt8)) (k : Nat) : (joinAt 10 (ls.drop k)).length ≤ (joinAt 10 ls).length := by
  conv => rhs; rw [← List.take_append_drop k ls, joinAt_append, List.length_append]
  omega

theorem grownL_set (w : World) (R i : Nat) (x : Value) : w.grownBy (w.setCell ⟨R, i, none⟩ x) (some R) :=
  ⟨rfl, rfl, rfl, by simp [World.setCell], fun k _ hk => Below.heap_setCell _ _ _ _ (fun e => hk (by simp at e; rw [e]))⟩
/-- What a round of a loop over the lines keeps for the iterator. -/
def KeepL (K L : Nat) (W W' : World) : Prop := W'.heap[L]? = W.heap[L]? ∧ Below K W W'

set_option maxRecDepth 100000 in
set_option maxHeartbeats 1000000 in
theorem lines_iter (K L : Nat) (ls : List (List UInt8)) (hK : K ≤ L) (hno : ∀ l ∈ ls, (10 : UInt8) ∉ l) (hlen : (joinAt 10 ls).length ≤ 2 ^ 30) :
    IterSt (α := Nat × List UInt8) Tryz.prog 75 (fun i => #[] ++ #[.func (.yield i) #[] #[]] ++ #[.pointer (some ⟨L, 0, none⟩)]) (fun x => #[.int .i64 x.1, .string ⟨x.2.toArray⟩]) (fun pre x W => x.1 = pre.length ∧ pre.length < ls.length ∧ x.2 = ls[pre.length]?.getD [] ∧ pre.map (·.2) = ls.take pre.length ∧ ∃ sv, Blk W L #[sv] 9) (fun A B => A.grownBy B (some L) ∧ ∃ sv, Blk A L #[sv] 9) (KeepL K L)
      (fun xs W => xs.map (·.2) = ls) (fun xs W => True)
      (fun W => Blk W L #[.string ⟨(joinAt 10 ls).toArray⟩] 9 ∧ MaxI K W) := by
  rintro n i J Jx W ⟨hb, hM⟩ hJ hJx hY h0
  have hmany := joinAt_many ls
  refine callsIn_of_wp Tryz.func75 rfl trivial ?_
  simp only [Tryz.ntmps75, List.size_toArray, List.length_cons, List.length_nil, Nat.reduceAdd, Nat.reduceSub, Array.replicate_succ, Array.replicate_zero, List.push_toArray, List.append_toArray, List.nil_append, List.cons_append]
  gi_wp2
  gi_loopw [3] (fun v wr => ∃ (pre : List (Nat × List UInt8)), v = .int .i64 pre.length ∧ pre.length ≤ ls.length ∧ Hid (pre.map (·.2) = ls.take pre.length) ∧ J pre wr ∧ Blk wr L #[.string ⟨(joinAt 10 (ls.drop pre.length)).toArray⟩] 9 ∧ MaxI K wr)
    (fun v _ => ls.length - (intOf v).toNat)
  case atStart => exact ⟨[], rfl, Nat.zero_le _, Lib.hid rfl, h0, hb, hM⟩
  case round =>
    obtain ⟨pre, rfl, hle, HP, hj, hbr, hMr⟩ := hrel
    obtain ⟨t, ht⟩ : ∃ t : ByteArray, (⟨(joinAt 10 (ls.drop pre.length)).toArray⟩ : ByteArray) = t := ⟨_, rfl⟩
    have htd : t.data.toList = joinAt 10 (ls.drop pre.length) := by rw [← ht]
    rw [ht] at hbr
    have hc0 : wr.cell? ⟨L, 0, none⟩ = some (.string t) := hbr.at rfl
    have hf0 := hbr.free 0
    have HT := Lib.hid htd
    have htl : t.toList = joinAt 10 (ls.drop pre.length) := toList_of htd
    clear ht htd
    by_cases hlt : pre.length < ls.length
    · have hne1 : (!t.toList == []) = true := by rw [htl, joinAt_drop _ _ hlt]; simp
      have hne2 : t.toList.isEmpty = false := by rw [htl, joinAt_drop _ _ hlt]; simp
      have hsz : t.size < 4294967281 := by
        have := joinAt_len ls pre.length
        rw [size_of HT.out]; omega
      obtain ⟨hm0, m, hm⟩ := id hMr
      have hcut := Tryz.strings_Cut t ⟨#[10]⟩ m wr hsz hm
      have hl10 : (10 : UInt8) ∉ ls[pre.length]?.getD [] := hno _ (getD_mem hlt [])
      rw [HT.out, show (⟨#[10]⟩ : ByteArray).data.toList = [10] from rfl, joinAt_drop _ _ hlt, cut_line hl10] at hcut
      dsimp only at hcut
      have hp1 : Hid ((pre ++ [(pre.length, ls[pre.length]?.getD [])]).map (·.2) = ls.take (pre.length + 1)) := by
        unfold Hid
        rw [List.map_append, HP.out, List.take_add_one, List.getElem?_eq_getElem hlt]; rfl
      obtain ⟨p, hp⟩ : ∃ p, ls[pre.length]?.getD [] = p := ⟨_, rfl⟩
      have hy0 := hY pre (pre.length, p)
      rw [hp] at hcut hp1
      obtain ⟨rs, hrs⟩ : ∃ rs, joinAt 10 (ls.drop (pre.length + 1)) = rs := ⟨_, rfl⟩
      rw [hrs] at hcut
      have HPP := Lib.hid hp
      have HRS := Lib.hid hrs
      clear htl hp hrs hl10 hm
      gi_wp2_with fail
      refine ⟨trivial, wide_depth, callsIn_wide.2 (hcut.mono ?_)⟩
      rintro e w1 ⟨rfl, nd, rfl⟩
      have hj1 : J pre (wr.drewN nd) := hJ _ _ _ hj ⟨⟨rfl, rfl, rfl, by simp [World.drewN], fun _ _ _ => rfl⟩, _, hbr⟩
      have hb1 : Blk (wr.drewN nd) L #[.string t] 9 := hbr
      obtain ⟨fn, tmps, assign, body, hy, hR⟩ := hy0 (wr.drewN nd) hj1 (by refine ⟨?_, hlt, ?_, HP.out, _, hb1⟩ <;> first | trivial | rfl | exact HPP.out.symm)
      have hMd : MaxI K (wr.drewN nd) := hMr.on ⟨rfl, rfl, rfl, by simp [World.drewN], fun _ _ => rfl⟩
      clear hcut hY hj hbr hMr hy0
      gi_wp2_with fail
      refine ⟨wide_depth, hR.mono ?_⟩
      clear hR hy
      rintro e' W3 (⟨rfl, hj3, hk3⟩ | ⟨rfl, hj3, hk3⟩)
      · have hb3 : Blk W3 L #[.string t] 9 := hk3.1.trans hb1
        have hf3 := hb3.free 0
        have hc3 : W3.cell? ⟨L, 0, none⟩ = some (.string t) := hb3.at rfl
        have hM3 := hMd.on hk3.2
        have hst := hJ _ W3 (W3.setCell ⟨L, 0, none⟩ (.string ⟨rs.toArray⟩)) hj3 ⟨grownL_set W3 L 0 _, _, hb3⟩
        have hbs := hb3.set (i := 0) (.string ⟨rs.toArray⟩)
        have hMs := hM3.on ((Below.refl K W3).setCell (p := ⟨L, 0, none⟩) hK (.string ⟨rs.toArray⟩))
        have HST := Lib.hid hst
        clear hj3
        gi_wp2_with fail
        refine ⟨⟨pre ++ [(pre.length, p)], by simp, by simp; omega, Lib.hid ?_, HST.out, ?_, hMs⟩, ?_⟩
        · rw [hp1.out]; simp
        · rw [List.length_append, List.length_singleton, HRS.out]; exact hbs
        · simp [intOf]; omega
      · gi_wp2_with fail
        refine bodyPost_ret (results_none rfl _ _ _) rfl ?_
        exact ⟨⟨_, rfl⟩, .inr ⟨_, trivial, hj3⟩⟩
    · have he : pre.length = ls.length := by omega
      have hnil : joinAt 10 (ls.drop pre.length) = [] := by rw [he, List.drop_length]; rfl
      have hne1 : t.toList = [] := by rw [htl, hnil]
      have hfin : pre.map (·.2) = ls := by rw [HP.out, he, List.take_length]
      have HF := Lib.hid hfin
      clear htl he hnil hfin
      gi_wp2_with fail
      go_end0
      exact ⟨⟨_, rfl⟩, .inl ⟨pre, HF.out, hj⟩⟩
end Go.Proofs.YtaccaebdmndkiaaGreatDoor
