/- Package bank: Write, WriteAnswer, Total. No conditions beyond those stated. -/
import Derived.Test.YtaccaebdmndkiaaGreatDoorBWrite
namespace Go.Proofs.YtaccaebdmndkiaaGreatDoor
open Go.RowKit
set_option linter.unusedVariables false

theorem Tabs.up {B C : Nat} {w w' : World} (h : Tabs B w) (hb : Below B w w') (hC : B ≤ C) : Tabs C w' :=
  ⟨fun w'' h'' => h.1 w'' (hb.trans (h''.mono hC)), Nat.lt_of_lt_of_le h.2.1 hC, (h.on hb).2.2⟩
/-- compose, with a function that writes l. -/
theorem compose_any (x : Value) (l : List UInt8) (w : World) (hl : l.length ≤ 200000) (hT : Tabs w.heap.size w) (g : FuncId)
    (hbody : ∀ W, Bld w.heap.size w.heap.size [] W → w.heap.size ≤ W.heap.size → Below w.heap.size w W → Calls Tryz.prog g #[lineV w.heap.size, x] W fun e w' => e = .returned (.tuple #[]) ∧ Bld w.heap.size w.heap.size l w' ∧ Below w.heap.size W w')
    (hg : ∀ args W, (callFunc g args).run Tryz.prog W = .ok (.enter g args) W) :
    Calls Tryz.prog 38 #[.func (.func g) #[] #[x]] w fun e w' => e = .returned (.string ⟨(l ++ endB l).toArray⟩) ∧ Below w.heap.size w w' := by
  have hB0 : Below w.heap.size w (w.alloc (.cells #[.pointer none, .slice none 0 0] 95)) := (Below.refl _ w).alloc (Nat.le_refl _) _
  have hI0 : Bld w.heap.size w.heap.size [] (w.alloc (.cells #[.pointer none, .slice none 0 0] 95)) := Lib.IsBuilderF.of (Lib.fresh_isBuilder 95 5 w)
  have hl2 : (endB l).length = 22 := endB_length l
  have hcat : (⟨l.toArray⟩ : ByteArray) ++ (⟨(endB l).toArray⟩ : ByteArray) = ⟨(l ++ endB l).toArray⟩ := str_app l (endB l)
  go_enter Tryz.func38, Tryz.ntmps38
  go_wp2_with fail
  refine (hbody _ hI0 hB0.size hB0).mono ?_
  rintro e w1 ⟨rfl, hI1, hb1⟩
  have hq1 := hB0.trans hb1
  have hs1 := Tryz.Builder_String_any_k w.heap.size w.heap.size l w1 hI1 hq1.size
  go_wp2_with fail
  refine hs1.mono ?_
  rintro e w2 ⟨rfl, hI2, hb2, _⟩
  have hq2 := hq1.trans hb2
  have hs2 := Tryz.Builder_String_any_k w.heap.size w.heap.size l w2 hI2 hq2.size
  clear hs1 hI1 hI0 hb1 hB0 hb2
  go_wp2_with fail
  refine hs2.mono ?_
  rintro e w3 ⟨rfl, hI3, hb3, _⟩
  have hq3 := hq2.trans hb3
  have he := end_any l w3 (by omega) (hT.on hq3).2.2
  clear hs2 hI2 hb3 hI3
  go_wp2_with fail
  refine he.mono ?_
  rintro e w4 ⟨rfl, hb4⟩
  go_wp2_with fail
  go_ret
  exact ⟨rfl, hq3.trans (hb4.mono hq3.size)⟩

theorem write0_any (K : Nat) (n d : Int) (l : List Od) (v : Value) (w : World) (hv : Ords K w v l) (hK : K ≤ w.heap.size) (hT : Tabs w.heap.size w) (hok : okF ⟨n, d, l⟩ = true) :
    Calls Tryz.prog 37 #[.agg #[.int .i64 n, .int .i64 d, v]] w fun e w' => e = .returned (.string ⟨(textF ⟨n, d, l⟩).toArray⟩) ∧ Below w.heap.size w w' := by
  have hb1 : Below w.heap.size w (w.alloc (.cells #[.int .i64 n, .int .i64 d, v] 27)) := (Below.refl _ w).alloc (Nat.le_refl _) _
  have q1 := Blk.new w #[.int .i64 n, .int .i64 d, v] 27
  have hs1 : (w.alloc (.cells #[.int .i64 n, .int .i64 d, v] 27)).heap.size = w.heap.size + 1 := by simp
  have hvl : ∃ a cap, v = .slice a l.length cap := by obtain ⟨a, cap, rfl, _⟩ := hv; exact ⟨a, cap, rfl⟩
  obtain ⟨va, vcap, rfl⟩ := hvl
  have hT1 := hT.up hb1 hb1.size
  have hv1 : Ords w.heap.size (w.alloc (.cells #[.int .i64 n, .int .i64 d, .slice va l.length vcap] 27)) (.slice va l.length vcap) l := hv.below hb1 hK hK
  have hcm := compose_any (.pointer (some ⟨w.heap.size, 0, none⟩)) (bodyF ⟨n, d, l⟩) _ (Nat.le_trans (bodyF_len hok) (by omega)) hT1 51 (fun W hI hW hbW =>
    write1_any _ _ w.heap.size w.heap.size n d l _ W hI hW (hT1.on hbW) (q1.below hbW (by omega)) (by omega) (Recs.below hv1 hbW (by omega) (Nat.le_refl _)) (by omega) hok) (enters_of Tryz.func51 (by kernel_rfl) rfl)
  go_enter Tryz.func37, Tryz.ntmps37
  go_wp2_with fail
  refine hcm.mono ?_
  rintro e w2 ⟨rfl, hb2⟩
  go_wp2_with fail
  go_ret
  exact ⟨rfl, hb1.trans (hb2.mono hb1.size)⟩

/-- Write: the text and the error. -/
def writeS (f : Fi) : List UInt8 × Int := if okF f = true then (textF f, 0) else ([], 2)
def writeAS (f : An) : List UInt8 × Int := if okA f = true then (textA f, 0) else ([], 2)
def totalS (f : Fi) : Int × Int := if okF f = true then (tot f.ods, 0) else (0, 2)

theorem write_any (K : Nat) (n d : Int) (l : List Od) (v : Value) (w : World) (hv : Ords K w v l) (hK : K ≤ w.heap.size) (hT : Tabs w.heap.size w) :
    Calls Tryz.prog 17 #[.agg #[.int .i64 n, .int .i64 d, v]] w fun e w' => e = .returned (.tuple #[.string ⟨(writeS ⟨n, d, l⟩).1.toArray⟩, .int .i64 (writeS ⟨n, d, l⟩).2]) ∧ Below w.heap.size w w' := by
  have hb1 : Below w.heap.size w (w.alloc (.cells #[.int .i64 n, .int .i64 d, v] 27)) := (Below.refl _ w).alloc (Nat.le_refl _) _
  have q1 := Blk.new w #[.int .i64 n, .int .i64 d, v] 27
  have hvl : ∃ a cap, v = .slice a l.length cap := by obtain ⟨a, cap, rfl, _⟩ := hv; exact ⟨a, cap, rfl⟩
  obtain ⟨va, vcap, rfl⟩ := hvl
  have hvd := valid_any K _ n d l _ (hv.below hb1 hK (Nat.le_refl _)) (Nat.le_trans hK hb1.size)
  obtain ⟨x, hx⟩ : ∃ x, okF ⟨n, d, l⟩ = x := ⟨_, rfl⟩
  have HX := Lib.hid hx
  rw [hx] at hvd
  clear hx
  go_enter Tryz.func17, Tryz.ntmps17
  go_wp2_with fail
  refine hvd.mono ?_
  rintro e w1 ⟨rfl, hb2⟩
  have hbq := hb1.trans (hb2.mono hb1.size)
  obtain ⟨e0, e1, e2⟩ := (q1.below hb2 (by simp)).three
  cases x with
  | false =>
    go_wp2_with fail
    go_ret2
    exact ⟨by rw [writeS, if_neg (by rw [HX.out]; simp)]; rfl, hbq⟩
  | true =>
    have hw0 := write0_any K n d l _ w1 (hv.below hbq hK (Nat.le_refl _)) (Nat.le_trans hK hbq.size) (hT.up hbq hbq.size) HX.out
    go_wp2_with fail
    refine hw0.mono ?_
    rintro e w2 ⟨rfl, hb3⟩
    go_wp2_with fail
    go_ret2
    exact ⟨by rw [writeS, if_pos HX.out]; rfl, hbq.trans (hb3.mono hbq.size)⟩

theorem total_any (K : Nat) (n d : Int) (l : List Od) (v : Value) (w : World) (hv : Ords K w v l) (hK : K ≤ w.heap.size) :
    Calls Tryz.prog 16 #[.agg #[.int .i64 n, .int .i64 d, v]] w fun e w' => e = .returned (.tuple #[.int .i64 (totalS ⟨n, d, l⟩).1, .int .i64 (totalS ⟨n, d, l⟩).2]) ∧ Below w.heap.size w w' := by
  have hb1 : Below w.heap.size w (w.alloc (.cells #[.int .i64 n, .int .i64 d, v] 27)) := (Below.refl _ w).alloc (Nat.le_refl _) _
  have q1 := Blk.new w #[.int .i64 n, .int .i64 d, v] 27
  have hvl : ∃ a cap, v = .slice a l.length cap := by obtain ⟨a, cap, rfl, _⟩ := hv; exact ⟨a, cap, rfl⟩
  obtain ⟨va, vcap, rfl⟩ := hvl
  have hvd := valid_any K _ n d l _ (hv.below hb1 hK (Nat.le_refl _)) (Nat.le_trans hK hb1.size)
  obtain ⟨x, hx⟩ : ∃ x, okF ⟨n, d, l⟩ = x := ⟨_, rfl⟩
  have HX := Lib.hid hx
  rw [hx] at hvd
  clear hx
  go_enter Tryz.func16, Tryz.ntmps16
  go_wp2_with fail
  refine hvd.mono ?_
  rintro e w1 ⟨rfl, hb2⟩
  have hbq := hb1.trans (hb2.mono hb1.size)
  obtain ⟨e0, e1, e2⟩ := (q1.below hb2 (by simp)).three
  cases x with
  | false =>
    go_wp2_with fail
    go_ret2
    exact ⟨by rw [totalS, if_neg (by rw [HX.out]; simp)]; rfl, hbq⟩
  | true =>
    have hp := okF_parts HX.out
    have hw0 := sum_any K n d _ l w1 (hv.below hbq hK (Nat.le_refl _)) (Nat.le_trans hK hbq.size) (okTo_all hp.2.2.2.1) hp.2.2.1
    clear hp
    go_wp2_with fail
    refine hw0.mono ?_
    rintro e w2 ⟨rfl, hb3⟩
    go_wp2_with fail
    go_ret2
    exact ⟨by rw [totalS, if_pos HX.out]; rfl, hbq.trans (hb3.mono hbq.size)⟩

theorem writeA_any (K : Nat) (n d : Int) (l : List Rt) (v : Value) (w : World) (hv : Rets K w v l) (hK : K ≤ w.heap.size) (hT : Tabs w.heap.size w) :
    Calls Tryz.prog 18 #[.agg #[.int .i64 n, .int .i64 d, v]] w fun e w' => e = .returned (.tuple #[.string ⟨(writeAS ⟨n, d, l⟩).1.toArray⟩, .int .i64 (writeAS ⟨n, d, l⟩).2]) ∧ Below w.heap.size w w' := by
  have hb1 : Below w.heap.size w (w.alloc (.cells #[.int .i64 n, .int .i64 d, v] 30)) := (Below.refl _ w).alloc (Nat.le_refl _) _
  have q1 := Blk.new w #[.int .i64 n, .int .i64 d, v] 30
  have hs1 : (w.alloc (.cells #[.int .i64 n, .int .i64 d, v] 30)).heap.size = w.heap.size + 1 := by simp
  have hvl : ∃ a cap, v = .slice a l.length cap := by obtain ⟨a, cap, rfl, _⟩ := hv; exact ⟨a, cap, rfl⟩
  obtain ⟨va, vcap, rfl⟩ := hvl
  have hvd := right_any K _ n d l _ (hv.below hb1 hK (Nat.le_refl _)) (Nat.le_trans hK hb1.size)
  obtain ⟨x, hx⟩ : ∃ x, okA ⟨n, d, l⟩ = x := ⟨_, rfl⟩
  have HX := Lib.hid hx
  rw [hx] at hvd
  clear hx
  go_enter Tryz.func18, Tryz.ntmps18
  go_wp2_with fail
  refine hvd.mono ?_
  rintro e w1 ⟨rfl, hb2⟩
  have hbq := hb1.trans (hb2.mono hb1.size)
  have q2 := q1.below hb2 (by simp)
  obtain ⟨e0, e1, e2⟩ := q2.three
  cases x with
  | false =>
    go_wp2_with fail
    go_ret2
    exact ⟨by rw [writeAS, if_neg (by rw [HX.out]; simp)]; rfl, hbq⟩
  | true =>
    have hT1 := hT.up hbq hbq.size
    have hs2 := q2.lt
    have hv1 : Rets w.heap.size w1 (.slice va l.length vcap) l := Recs.below hv hbq hK hK
    have hcm := compose_any (.pointer (some ⟨w.heap.size, 0, none⟩)) (bodyA ⟨n, d, l⟩) w1 (Nat.le_trans (bodyA_len HX.out) (by omega)) hT1 39 (fun W hI hW hbW =>
      writeA1_any _ _ w.heap.size w.heap.size n d l _ W hI hW (hT1.on hbW) (q2.below hbW (by omega)) (by omega) (Recs.below hv1 hbW (by omega) (Nat.le_refl _)) (by omega) HX.out) (enters_of Tryz.func39 (by kernel_rfl) rfl)
    go_wp2_with fail
    refine hcm.mono ?_
    rintro e w2 ⟨rfl, hb3⟩
    go_wp2_with fail
    go_ret2
    exact ⟨by rw [writeAS, if_pos HX.out]; rfl, hbq.trans (hb3.mono hbq.size)⟩
end Go.Proofs.YtaccaebdmndkiaaGreatDoor
