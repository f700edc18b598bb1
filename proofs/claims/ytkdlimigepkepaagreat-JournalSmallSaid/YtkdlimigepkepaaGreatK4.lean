/- The laws' kit: slices of bytes share no memory. No conditions beyond sizes. -/
import Derived.Test.YtkdlimigepkepaaGreatK2
import Derived.Test.YtkdlimigepkepaaGreatK3
namespace Go.Proofs.YtkdlimigepkepaaGreat
open Go.RowKit
set_option linter.unusedVariables false

/-- A bag that holds a list of slices of bytes. -/
def bagC (rv : Value) : Array Value := #[.slice none 0 0, .slice none 0 0, .slice none 0 0, rv, .slice none 0 0, .slice none 0 0, .slice none 0 0, .slice none 0 0, .slice none 0 0, .slice none 0 0, .slice none 0 0, .slice none 0 0, .slice none 0 0, .slice none 0 0, .slice none 0 0, .slice none 0 0, .slice none 0 0, .slice none 0 0, .slice none 0 0, .slice none 0 0, .slice none 0 0, .slice none 0 0, .slice none 0 0]

section
variable {base : Nat} {w W W' : World} {N lb : Nat} {lcs : Array Value} {F : Nat → Value} {D : Nat → List UInt8} {G : Nat → Value} {E : Nat → List UInt8}
theorem FS.here (h : FS base w W N lb lcs F D G E) : FS base W W N lb lcs F D G E := ⟨h.two, h.row, Below.refl _ _, h.size, fun _ _ _ _ hq => hq⟩
end

set_option maxRecDepth 100000 in
set_option maxHeartbeats 4000000 in
theorem bag_any (base : Nat) (w : World) (bb N lcap lb : Nat) (lcs : Array Value) (F : Nat → Value) (D0 : Nat → List UInt8) (hq : Blk w bb (bagC (.slice (some ⟨lb, 0, none⟩) N lcap)) 105) (h : FS base w w N lb lcs F D0 F D0) (hN : N ≤ lcap) (hlc : lcap ≤ 2 ^ 63 - 1)
    (hget : ∀ k, k < N → lcs[k]? = some (F k)) (hsmall : ∀ k, k < N → (D0 k).length ≤ 2 ^ 22) (hN20 : N ≤ 2 ^ 20) :
    Calls Tryz.prog 44 #[.pointer (some ⟨bb, 0, none⟩)] w fun e w' => e = .returned (.bool true) ∧ Below base w w' := by
  have HG := Lib.hid hget; have HS := Lib.hid hsmall
  clear hget hsmall
  have hl0 := hq.lt
  have hbs0 := h.size
  have hbel0 : Below base w w := Below.refl _ _
  have c0 := hq.at (i := 0) rfl
  go_enter Tryz.func44, Tryz.ntmps44
  go_wp2_with fail
  refine (flatLimbs_none w).mono ?_
  rintro e w1 ⟨rfl, hb1⟩
  have h1 := h.below hb1
  have q1 := hq.below hb1 hl0
  have hl1 := q1.lt
  have hbs1 : base ≤ w1.heap.size := Nat.le_trans hbs0 hb1.size
  have bel1 := hbel0.trans (hb1.mono hbs0)
  clear hq hl0 hb1 hbs0 hbel0 c0 h
  have c1 := q1.at (i := 1) rfl
  go_wp2_with fail
  refine (flatInts_none w1).mono ?_
  rintro e w2 ⟨rfl, hb2⟩
  have h2 := h1.below hb2
  have q2 := q1.below hb2 hl1
  have hl2 := q2.lt
  have hbs2 : base ≤ w2.heap.size := Nat.le_trans hbs1 hb2.size
  have bel2 := bel1.trans (hb2.mono hbs1)
  clear q1 hl1 hb2 hbs1 bel1 c1 h1
  have c2 := q2.at (i := 2) rfl
  go_wp2_with fail
  refine (flatTexts_none w2).mono ?_
  rintro e w3 ⟨rfl, hb3⟩
  have h3 := h2.below hb3
  have q3 := q2.below hb3 hl2
  have hl3 := q3.lt
  have hbs3 : base ≤ w3.heap.size := Nat.le_trans hbs2 hb3.size
  have bel3 := bel2.trans (hb3.mono hbs2)
  clear q2 hl2 hb3 hbs2 bel2 c2 h2
  have c3 := q3.at (i := 3) rfl
  go_wp2_with fail
  refine (flatB_any base w3 N lcap lb lcs F D0 h3.here hN hlc HG.out HS.out hN20).mono ?_
  rintro e w4 ⟨rfl, hb4, ho4⟩
  have q4 := ho4 _ _ _ (by decide) q3
  have hl4 := q4.lt
  have hbs4 : base ≤ w4.heap.size := Nat.le_trans hbs3 hb4.size
  have bel4 := bel3.trans hb4
  clear q3 hl3 hb4 ho4 hbs3 bel3 c3 h3
  have c4 := q4.at (i := 4) rfl
  go_wp2_with fail
  refine (flatWholes_none w4).mono ?_
  rintro e w5 ⟨rfl, hb5⟩
  have q5 := q4.below hb5 hl4
  have hl5 := q5.lt
  have hbs5 : base ≤ w5.heap.size := Nat.le_trans hbs4 hb5.size
  have bel5 := bel4.trans (hb5.mono hbs4)
  clear q4 hl4 hb5 hbs4 bel4 c4
  have c5 := q5.at (i := 5) rfl
  go_wp2_with fail
  refine (flatFracs_none w5).mono ?_
  rintro e w6 ⟨rfl, hb6⟩
  have q6 := q5.below hb6 hl5
  have hl6 := q6.lt
  have hbs6 : base ≤ w6.heap.size := Nat.le_trans hbs5 hb6.size
  have bel6 := bel5.trans (hb6.mono hbs5)
  clear q5 hl5 hb6 hbs5 bel5 c5
  have c6 := q6.at (i := 6) rfl
  go_wp2_with fail
  refine (flatValues_none w6).mono ?_
  rintro e w7 ⟨rfl, hb7⟩
  have q7 := q6.below hb7 hl6
  have hl7 := q7.lt
  have hbs7 : base ≤ w7.heap.size := Nat.le_trans hbs6 hb7.size
  have bel7 := bel6.trans (hb7.mono hbs6)
  clear q6 hl6 hb7 hbs6 bel6 c6
  have c7 := q7.at (i := 7) rfl
  go_wp2_with fail
  refine (flatSpans_none w7).mono ?_
  rintro e w8 ⟨rfl, hb8⟩
  have q8 := q7.below hb8 hl7
  have hl8 := q8.lt
  have hbs8 : base ≤ w8.heap.size := Nat.le_trans hbs7 hb8.size
  have bel8 := bel7.trans (hb8.mono hbs7)
  clear q7 hl7 hb8 hbs7 bel7 c7
  have c8 := q8.at (i := 8) rfl
  go_wp2_with fail
  refine (flatSteps_none w8).mono ?_
  rintro e w9 ⟨rfl, hb9⟩
  have q9 := q8.below hb9 hl8
  have hl9 := q9.lt
  have hbs9 : base ≤ w9.heap.size := Nat.le_trans hbs8 hb9.size
  have bel9 := bel8.trans (hb9.mono hbs8)
  clear q8 hl8 hb9 hbs8 bel8 c8
  have c9 := q9.at (i := 9) rfl
  go_wp2_with fail
  refine (flatFacts_none w9).mono ?_
  rintro e w10 ⟨rfl, hb10⟩
  have q10 := q9.below hb10 hl9
  have hl10 := q10.lt
  have hbs10 : base ≤ w10.heap.size := Nat.le_trans hbs9 hb10.size
  have bel10 := bel9.trans (hb10.mono hbs9)
  clear q9 hl9 hb10 hbs9 bel9 c9
  have c10 := q10.at (i := 10) rfl
  go_wp2_with fail
  refine (flatRows_none w10).mono ?_
  rintro e w11 ⟨rfl, hb11⟩
  have q11 := q10.below hb11 hl10
  have hl11 := q11.lt
  have hbs11 : base ≤ w11.heap.size := Nat.le_trans hbs10 hb11.size
  have bel11 := bel10.trans (hb11.mono hbs10)
  clear q10 hl10 hb11 hbs10 bel10 c10
  have c11 := q11.at (i := 11) rfl
  go_wp2_with fail
  refine (flatTables_none w11).mono ?_
  rintro e w12 ⟨rfl, hb12⟩
  have q12 := q11.below hb12 hl11
  have hl12 := q12.lt
  have hbs12 : base ≤ w12.heap.size := Nat.le_trans hbs11 hb12.size
  have bel12 := bel11.trans (hb12.mono hbs11)
  clear q11 hl11 hb12 hbs11 bel11 c11
  have c12 := q12.at (i := 12) rfl
  go_wp2_with fail
  refine (flatExprs_none w12).mono ?_
  rintro e w13 ⟨rfl, hb13⟩
  have q13 := q12.below hb13 hl12
  have hl13 := q13.lt
  have hbs13 : base ≤ w13.heap.size := Nat.le_trans hbs12 hb13.size
  have bel13 := bel12.trans (hb13.mono hbs12)
  clear q12 hl12 hb13 hbs12 bel12 c12
  have c13 := q13.at (i := 13) rfl
  go_wp2_with fail
  refine (flatClauses_none w13).mono ?_
  rintro e w14 ⟨rfl, hb14⟩
  have q14 := q13.below hb14 hl13
  have hl14 := q14.lt
  have hbs14 : base ≤ w14.heap.size := Nat.le_trans hbs13 hb14.size
  have bel14 := bel13.trans (hb14.mono hbs13)
  clear q13 hl13 hb14 hbs13 bel13 c13
  have c14 := q14.at (i := 14) rfl
  go_wp2_with fail
  refine (flatDefs_none w14).mono ?_
  rintro e w15 ⟨rfl, hb15⟩
  have q15 := q14.below hb15 hl14
  have hl15 := q15.lt
  have hbs15 : base ≤ w15.heap.size := Nat.le_trans hbs14 hb15.size
  have bel15 := bel14.trans (hb15.mono hbs14)
  clear q14 hl14 hb15 hbs14 bel14 c14
  have c15 := q15.at (i := 15) rfl
  go_wp2_with fail
  refine (flatPlans_none w15).mono ?_
  rintro e w16 ⟨rfl, hb16⟩
  have q16 := q15.below hb16 hl15
  have hl16 := q16.lt
  have hbs16 : base ≤ w16.heap.size := Nat.le_trans hbs15 hb16.size
  have bel16 := bel15.trans (hb16.mono hbs15)
  clear q15 hl15 hb16 hbs15 bel15 c15
  have c16 := q16.at (i := 16) rfl
  go_wp2_with fail
  refine (flatPostings_none w16).mono ?_
  rintro e w17 ⟨rfl, hb17⟩
  have q17 := q16.below hb17 hl16
  have hl17 := q17.lt
  have hbs17 : base ≤ w17.heap.size := Nat.le_trans hbs16 hb17.size
  have bel17 := bel16.trans (hb17.mono hbs16)
  clear q16 hl16 hb17 hbs16 bel16 c16
  have c17 := q17.at (i := 17) rfl
  go_wp2_with fail
  refine (flatOrders_none w17).mono ?_
  rintro e w18 ⟨rfl, hb18⟩
  have q18 := q17.below hb18 hl17
  have hl18 := q18.lt
  have hbs18 : base ≤ w18.heap.size := Nat.le_trans hbs17 hb18.size
  have bel18 := bel17.trans (hb18.mono hbs17)
  clear q17 hl17 hb18 hbs17 bel17 c17
  have c18 := q18.at (i := 18) rfl
  go_wp2_with fail
  refine (flatEvents_none w18).mono ?_
  rintro e w19 ⟨rfl, hb19⟩
  have q19 := q18.below hb19 hl18
  have hl19 := q19.lt
  have hbs19 : base ≤ w19.heap.size := Nat.le_trans hbs18 hb19.size
  have bel19 := bel18.trans (hb19.mono hbs18)
  clear q18 hl18 hb19 hbs18 bel18 c18
  have c19 := q19.at (i := 19) rfl
  go_wp2_with fail
  refine (flatFilings_none w19).mono ?_
  rintro e w20 ⟨rfl, hb20⟩
  have q20 := q19.below hb20 hl19
  have hl20 := q20.lt
  have hbs20 : base ≤ w20.heap.size := Nat.le_trans hbs19 hb20.size
  have bel20 := bel19.trans (hb20.mono hbs19)
  clear q19 hl19 hb20 hbs19 bel19 c19
  have c20 := q20.at (i := 20) rfl
  go_wp2_with fail
  refine (flatCases_none w20).mono ?_
  rintro e w21 ⟨rfl, hb21⟩
  have q21 := q20.below hb21 hl20
  have hl21 := q21.lt
  have hbs21 : base ≤ w21.heap.size := Nat.le_trans hbs20 hb21.size
  have bel21 := bel20.trans (hb21.mono hbs20)
  clear q20 hl20 hb21 hbs20 bel20 c20
  have c21 := q21.at (i := 21) rfl
  go_wp2_with fail
  refine (flatChanges_none w21).mono ?_
  rintro e w22 ⟨rfl, hb22⟩
  have q22 := q21.below hb22 hl21
  have hl22 := q22.lt
  have hbs22 : base ≤ w22.heap.size := Nat.le_trans hbs21 hb22.size
  have bel22 := bel21.trans (hb22.mono hbs21)
  clear q21 hl21 hb22 hbs21 bel21 c21
  have c22 := q22.at (i := 22) rfl
  go_wp2_with fail
  refine (flatDeltas_none w22).mono ?_
  rintro e w23 ⟨rfl, hb23⟩
  have q23 := q22.below hb23 hl22
  have hl23 := q23.lt
  have hbs23 : base ≤ w23.heap.size := Nat.le_trans hbs22 hb23.size
  have bel23 := bel22.trans (hb23.mono hbs22)
  clear q22 hl22 hb23 hbs22 bel22 c22
  go_wp2_with fail
  go_ret
  exact ⟨rfl, bel23⟩

/-- The lists' heads, in order. -/
def heads (F : Nat → Value) (k : Nat) : List Value := (List.range k).map F
theorem heads_length (F : Nat → Value) (k : Nat) : (heads F k).length = k := by simp [heads]
theorem heads_succ (F : Nat → Value) (k : Nat) : heads F (k + 1) = heads F k ++ [F k] := by simp [heads, List.range_succ]

theorem head_cells {W : World} {base lb N lcap : Nat} {F : Nat → Value} (h : W.ownsRow base 22 1 (.slice (some ⟨lb, 0, none⟩) N lcap) N (heads F N)) : ∃ cs, Blk W lb cs 22 ∧ (∀ k, k < N → cs[k]? = some (F k)) ∧ N ≤ lcap ∧ lcap ≤ maxLen := by
  rcases h.2 with ⟨he, _⟩ | ⟨g', cap', cur, he, hb, hg, h1, h2, h3, h4⟩
  · cases he
  · simp only [Value.slice.injEq, Option.some.injEq, Addr.mk.injEq, and_true, true_and] at he
    obtain ⟨rfl, rfl⟩ := he
    refine ⟨cur, hg, fun k hk => ?_, h1, h2⟩
    have h5 : (cur.toList.take (N * 1))[k]? = (heads F N)[k]? := by rw [h4]
    rw [List.getElem?_take, if_pos (by omega), Array.getElem?_toList] at h5
    rw [h5]; simp [heads, hk]

end Go.Proofs.YtkdlimigepkepaaGreat
