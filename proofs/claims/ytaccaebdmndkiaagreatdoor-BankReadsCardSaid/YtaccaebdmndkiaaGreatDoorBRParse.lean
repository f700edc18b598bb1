/- The reference's function parse: the rows of a text. No conditions beyond those stated. -/
import Derived.Test.YtaccaebdmndkiaaGreatDoorBRNumbers
import Derived.Test.YtaccaebdmndkiaaGreatDoorBRDigits
import Derived.Test.YtaccaebdmndkiaaGreatDoorBRRowL
namespace Go.Proofs.YtaccaebdmndkiaaGreatDoor
open Go.RowKit
set_option linter.unusedVariables false

/-- A row of integers that lies somewhere. -/
def Inner (w : World) (v : Value) (ns : List Int) : Prop := ∃ b cap, v = .slice (some ⟨b, 0, none⟩) ns.length cap ∧ (ns.length ≤ cap ∧ cap ≤ maxLen) ∧ (∃ cs f, w.heap[b]? = some (.cells cs 3 f)) ∧ ∀ i x, ns[i]? = some x → w.cell? ⟨b, i, none⟩ = some (intV x)
theorem Inner.of {base : Nat} {w : World} {v : Value} {ns : List Int} (h : OwnV base 3 w v (ns.map intV)) (hn : 0 < ns.length) : Inner w v ns := by
  obtain ⟨g, cap, rfl, _, _, h1, h2, h3, h4⟩ := h.cases.resolve_left (by rintro ⟨_, h⟩; rw [List.map_eq_nil_iff.1 h] at hn; simp at hn)
  rw [List.length_map] at h1 ⊢
  exact ⟨g, cap, rfl, ⟨h1, h2⟩, h3, fun i x hx => h4 i _ (by rw [List.getElem?_map, hx]; rfl)⟩
theorem Inner.same {w w' : World} {v : Value} {ns : List Int} (h : Inner w v ns) (hs : ∀ (b : Nat) (cs : Array Value) (f : Nat × Nat), w.heap[b]? = some (.cells cs 3 f) → w'.heap[b]? = w.heap[b]?) : Inner w' v ns := by
  obtain ⟨b, cap, rfl, h1, ⟨cs, f, h2⟩, h3⟩ := h
  have := hs b cs f h2
  refine ⟨b, cap, rfl, h1, ⟨cs, f, this.trans h2⟩, fun i x hx => ?_⟩
  have := h3 i x hx
  simpa [World.cell?, hs b cs f h2] using this
theorem Inner.below {w w' : World} {v : Value} {ns : List Int} (h : Inner w v ns) (hb : Below w.heap.size w w') : Inner w' v ns :=
  h.same fun b _ _ hg => hb.block b (Array.getElem?_eq_some_iff.1 hg).1
theorem Inner.grown {base T : Nat} {A C : World} {v o : Value} {vs : List Value} {ns : List Int} (h : Inner A v ns) (hg : A.grownBy C o.ownBlock) (ho : OwnV base T A o vs) (hT : T ≠ 3) : Inner C v ns :=
  h.same fun b cs f hb => hg.block b (Array.getElem?_eq_some_iff.1 hb).1 (fun e => by
    obtain ⟨cs', f', h'⟩ := ho.own e.symm
    rw [hb] at h'
    injection h' with h1
    injection h1 with _ h2 _
    exact hT h2.symm)
/-- Values that are rows. -/
def Inners (w : World) (vs : List Value) (rows : List (List Int)) : Prop := vs.length = rows.length ∧ ∀ (i : Nat) (v : Value) (ns : List Int), vs[i]? = some v → rows[i]? = some ns → Inner w v ns
theorem Inners.nil (w : World) : Inners w [] [] := ⟨rfl, fun i v ns h => by simp at h⟩
theorem Inners.map {w w' : World} {vs : List Value} {rows : List (List Int)} (h : Inners w vs rows) (hm : ∀ v ns, Inner w v ns → Inner w' v ns) : Inners w' vs rows := ⟨h.1, fun i v ns h1 h2 => hm v ns (h.2 i v ns h1 h2)⟩
theorem Inners.snoc {w : World} {vs : List Value} {rows : List (List Int)} (h : Inners w vs rows) {v : Value} {ns : List Int} (hv : Inner w v ns) : Inners w (vs ++ [v]) (rows ++ [ns]) := by
  refine ⟨by simp [h.1], fun i x r h1 h2 => ?_⟩
  by_cases hi : i < vs.length
  · rw [List.getElem?_append_left hi] at h1
    rw [List.getElem?_append_left (by rw [← h.1]; exact hi)] at h2
    exact h.2 i x r h1 h2
  · rw [List.getElem?_append_right (by omega)] at h1
    rw [List.getElem?_append_right (by rw [← h.1]; omega)] at h2
    rw [← h.1] at h2
    obtain ⟨hz, rfl⟩ : i - vs.length = 0 ∧ v = x := by
      cases hk : i - vs.length with
      | zero => rw [hk] at h1; exact ⟨rfl, by simpa using h1⟩
      | succ k => rw [hk] at h1; simp at h1
    rw [hz] at h2
    obtain rfl : ns = r := by simpa using h2
    exact hv
theorem Tryz.infoRow : (Tryz.prog.info? 44).map (fun i => (i.zero, i.size, i.bytes)) = some (some (.slice none 0 0), 1, 24) := by kernel_rfl

theorem parse_long {hw iw : List UInt8} {hm im : Nat} {l : List UInt8} (h : 1048576 < l.length) : parseS hw hm iw im l = ([], 3) := by rw [parseS, if_pos h]
theorem parse_short {hw iw : List UInt8} {hm im : Nat} {l : List UInt8} (h : ¬ 1048576 < l.length) (h2 : l.length < 23) : parseS hw hm iw im l = ([], 360) := by rw [parseS, if_neg h, if_pos h2]
theorem parse_form {hw iw : List UInt8} {hm im : Nat} {l : List UInt8} (h : ¬ 1048576 < l.length) (h2 : ¬ l.length < 23) (h3 : endForm (l.drop (l.length - 22)) = false ∨ l[l.length - 23]?.getD 0 ≠ 10) : parseS hw hm iw im l = ([], 360) := by rw [parseS, if_neg h, if_neg h2, if_pos h3]

theorem parse_rows {hw iw : List UInt8} {hm im c : Nat} {l : List UInt8} (hl : l.length = c + 23) (h : ¬ 1048576 < l.length) (hg : ¬ (endForm (l.drop (c + 1)) = false ∨ l[c]?.getD 0 ≠ 10)) :
    parseS hw hm iw im l = match allOf hw hm iw im (cutAt 10 ((l.drop 0).take (c - 0))) with
      | none => ([], 360)
      | some rows => if endB (l.take (c + 1)) = l.drop (c + 1) then (rows, 0) else ([], 361) := by
  have e1 : l.length - 22 = c + 1 := by omega
  have e2 : l.length - 23 = c := by omega
  rw [parseS, if_neg h, if_neg (by omega), e1, e2, if_neg hg]
  rfl
theorem ext_list {s : ByteArray} {l : List UInt8} (hl : s.data.toList = l) {a b : Nat} (hab : a ≤ b) (hb : b ≤ s.size) : (s.extract a b).toList = (l.drop a).take (b - a) := by
  rw [extract_str hl hab hb]; exact toList_of rfl
theorem form_h1 {l : List UInt8} (h : ((l.drop 4).take 8).all isHexd = false) : endForm l = false := by
  unfold endForm; rw [h]; simp
theorem form_sp {l : List UInt8} (h : ¬ l[12]?.getD 0 = 32) : endForm l = false := by
  unfold endForm; simp [h]
theorem form_h2 {l : List UInt8} (h : ((l.drop 13).take 8).all isHexd = false) : endForm l = false := by
  unfold endForm; rw [h]; simp
theorem form_nl {l : List UInt8} (h : ¬ l[21]?.getD 0 = 10) : endForm l = false := by
  unfold endForm; simp [h]
theorem cutAt_plen {c : UInt8} (l : List UInt8) : ∀ p ∈ cutAt c l, p.length ≤ l.length := by
  induction l with
  | nil => simp [cutAt]
  | cons b r ih =>
    rw [cutAt]
    split
    · intro p hp
      rcases List.mem_cons.1 hp with rfl | hp
      · simp
      · have := ih p hp; simp; omega
    · intro p hp
      rcases List.mem_cons.1 hp with rfl | hp
      · cases h : cutAt c r with
        | nil => simp
        | cons x y =>
          have := ih x (by rw [h]; simp)
          simp; omega
      · have := ih p (List.mem_of_mem_tail hp); simp; omega
theorem ext_data {s : ByteArray} {l : List UInt8} (hl : s.data.toList = l) {a b : Nat} (hab : a ≤ b) (hb : b ≤ s.size) : (s.extract a b).data.toList = (l.drop a).take (b - a) := by
  rw [extract_str hl hab hb]
theorem form_pre {l : List UInt8} (h : ¬ l.take 4 = [69, 78, 68, 32]) : endForm l = false := by
  unfold endForm; simp [h]

set_option maxRecDepth 100000 in
set_option maxHeartbeats 8000000 in
theorem rparse_any (s hw iw : ByteArray) (hm im : Nat) (w : World) (hm1 : 1 ≤ hm ∧ hm ≤ 100) (him : 1 ≤ im ∧ im ≤ 100) :
    Calls Tryz.prog 44 #[.string s, .string hw, .int .i64 hm, .string iw, .int .i64 im] w fun e w' => ∃ v vs, e = .returned (.tuple #[v, .int .i64 (parseS hw.data.toList hm iw.data.toList im s.data.toList).2]) ∧
      OwnV w.heap.size 44 w' v vs ∧ Inners w' vs (parseS hw.data.toList hm iw.data.toList im s.data.toList).1 ∧ Below w.heap.size w w' := by
  obtain ⟨l, hl⟩ : ∃ l, s.data.toList = l := ⟨_, rfl⟩
  obtain ⟨ps, hps⟩ : ∃ ps, parseS hw.data.toList hm iw.data.toList im l = ps := ⟨_, rfl⟩
  rw [hl, hps]
  have HPS := Lib.hid hps
  have HL := Lib.hid hl
  have HSZ := Lib.hid (size_of hl)
  clear hl hps
  go_enter Tryz.func44, Tryz.ntmps44
  by_cases hbig : 1048576 < s.size
  · have hz : ps = ([], 3) := by rw [← HPS.out]; exact parse_long (by rw [← HSZ.out]; exact hbig)
    have g1 : decide ((1048576 : Int) < (s.size : Int)) = true := decide_eq_true (by omega)
    clear hbig
    go_wp2_with fail
    go_ret2
    try rw [hz]
    exact ⟨_, _, rfl, OwnV.nil _ _ _, Inners.nil _, Below.refl _ _⟩
  have g1 : decide ((1048576 : Int) < (s.size : Int)) = false := decide_eq_false (by omega)
  have HBIG := Lib.hid hbig
  by_cases hsm : s.size < 23
  · have hz : ps = ([], 360) := by rw [← HPS.out]; exact parse_short (by rw [← HSZ.out]; exact hbig) (by rw [← HSZ.out]; exact hsm)
    have g2 : decide ((s.size : Int) - 22 < 1) = true := decide_eq_true (by omega)
    clear hbig
    go_wp2_with fail
    go_ret2
    try rw [hz]
    exact ⟨_, _, rfl, OwnV.nil _ _ _, Inners.nil _, Below.refl _ _⟩
  obtain ⟨c, hc⟩ : ∃ c, s.size = c + 23 := ⟨s.size - 23, by omega⟩
  have g2 : decide ((s.size : Int) - 22 < 1) = false := decide_eq_false (by omega)
  have gq : (s.size : Int) - 22 = (c : Int) + 1 := by omega
  have b1 : (0 : Int) ≤ (c : Int) := by omega
  have b2 : (c : Int) < (s.size : Int) := by omega
  have b3 : c ≤ 1048576 := by omega
  have b4 : (c : Int) + 1 ≤ (s.size : Int) := by omega
  have b5 : ((c : Int) + 1).toNat = c + 1 := by omega
  have b6 : ¬ (c : Int) + 1 < 1 := by omega
  have hcl : c < s.size := by omega
  have hll : l.length = c + 23 := by rw [← HSZ.out]; exact hc
  have HLL := Lib.hid hll
  have hch : s[c] = l[c]?.getD 0 := str_at HL.out hcl
  obtain ⟨b, hb⟩ : ∃ b, l[c]?.getD 0 = b := ⟨_, rfl⟩
  rw [hb] at hch
  have HCH := Lib.hid hch
  have HB := Lib.hid hb
  have HC := Lib.hid hc
  have HSM := Lib.hid hsm
  clear hch hb hll hbig hsm hc
  have badf : (endForm (l.drop (c + 1)) = false ∨ b ≠ 10) → ps = ([], 360) := fun h => by
    rw [← HPS.out]
    refine parse_form (by have := HLL.out; have := HBIG.out; omega) (by have := HLL.out; omega) ?_
    rw [HLL.out, show c + 23 - 22 = c + 1 by omega, show c + 23 - 23 = c by omega, HB.out]
    exact h
  have HBAD := Lib.hid badf
  clear badf
  by_cases h10 : b = 10
  case neg =>
    have hz := HBAD.out (.inr h10)
    have g3 : (((s[c]).toNat : Int) != 10) = true := by
      rw [HCH.out, bne_iff_ne]
      intro e
      exact h10 (UInt8.toNat_inj.1 (Int.ofNat_inj.1 e))
    clear h10
    go_wp2_with fail
    go_ret2
    try rw [hz]
    exact ⟨_, rfl, _, OwnV.nil _ _ _, Inners.nil _, Below.refl _ _⟩
  have g3 : (((s[c]).toNat : Int) != 10) = false := by rw [HCH.out, h10]; rfl
  have H10 := Lib.hid h10
  clear h10
  obtain ⟨la, hla⟩ : ∃ la, s.extract (c + 1) s.size = la := ⟨_, rfl⟩
  have hlad : la.data.toList = l.drop (c + 1) := by
    rw [← hla, extract_str HL.out (by omega) (Nat.le_refl _)]
    show (List.drop (c + 1) l).take (s.size - (c + 1)) = _
    rw [List.take_of_length_le (by rw [List.length_drop, HLL.out, HC.out]; omega)]
  obtain ⟨ll, hle⟩ : ∃ ll, l.drop (c + 1) = ll := ⟨_, rfl⟩
  rw [hle] at hlad
  have hl22 : ll.length = 22 := by rw [← hle, List.length_drop, HLL.out]; omega
  have hs22 : la.size = 22 := (size_of hlad).trans hl22
  have HLAD := Lib.hid hlad
  have HLE := Lib.hid hle
  have HL22 := Lib.hid hl22
  have HSZ22 := Lib.hid hs22
  clear hlad hle hl22
  by_cases hA : (la.extract 0 4).toList = [69, 78, 68, 32]
  case neg =>
    have hz := HBAD.out (.inl (by rw [HLE.out]; exact form_pre (by rw [ext_list HLAD.out (by omega) (by have := HSZ22.out; omega)] at hA; simpa using hA)))
    go_wp2_with fail
    go_ret2
    try rw [hz]
    first | exact ⟨_, rfl, _, OwnV.nil _ _ _, Inners.nil _, Below.refl _ _⟩ | exact ⟨_, _, rfl, OwnV.nil _ _ _, Inners.nil _, Below.refl _ _⟩
  have hd1 := digits_any (la.extract 4 12) w (by rw [ByteArray.size_extract]; omega)
  rw [ext_data HLAD.out (by omega) (by have := HSZ22.out; omega)] at hd1
  obtain ⟨x1, hx1⟩ : ∃ x1, ((ll.drop 4).take (12 - 4)).all isHexd = x1 := ⟨_, rfl⟩
  rw [hx1] at hd1
  have HX1 := Lib.hid hx1
  clear hx1
  go_wp2_with fail
  refine hd1.mono ?_
  rintro e w' ⟨rfl, rfl⟩
  clear hd1
  cases x1 with
  | false =>
    have hz := HBAD.out (.inl (by rw [HLE.out]; exact form_h1 HX1.out))
    go_wp2_with fail
    go_ret2
    try rw [hz]
    first | exact ⟨_, rfl, _, OwnV.nil _ _ _, Inners.nil _, Below.refl _ _⟩ | exact ⟨_, _, rfl, OwnV.nil _ _ _, Inners.nil _, Below.refl _ _⟩
  | true =>
  have hc12 : la[12] = ll[12]?.getD 0 := str_at HLAD.out (by have := HSZ22.out; omega)
  obtain ⟨b12, hb12⟩ : ∃ b, ll[12]?.getD 0 = b := ⟨_, rfl⟩
  rw [hb12] at hc12
  have HC12 := Lib.hid hc12
  have HB12 := Lib.hid hb12
  clear hc12 hb12
  by_cases hsp : b12 = 32
  case neg =>
    have hz := HBAD.out (.inl (by rw [HLE.out]; exact form_sp (by rw [HB12.out]; exact hsp)))
    have g5 : (((la[12]).toNat : Int) != 32) = true := by
      rw [HC12.out, bne_iff_ne]
      intro e
      exact hsp (UInt8.toNat_inj.1 (Int.ofNat_inj.1 e))
    clear hsp
    go_wp2_with fail
    go_ret2
    try rw [hz]
    first | exact ⟨_, rfl, _, OwnV.nil _ _ _, Inners.nil _, Below.refl _ _⟩ | exact ⟨_, _, rfl, OwnV.nil _ _ _, Inners.nil _, Below.refl _ _⟩
  have g5 : (((la[12]).toNat : Int) != 32) = false := by rw [HC12.out, hsp]; rfl
  have HSP := Lib.hid hsp
  clear hsp
  have hd2 := digits_any (la.extract 13 21) w (by rw [ByteArray.size_extract]; omega)
  rw [ext_data HLAD.out (by omega) (by have := HSZ22.out; omega)] at hd2
  obtain ⟨x2, hx2⟩ : ∃ x2, ((ll.drop 13).take (21 - 13)).all isHexd = x2 := ⟨_, rfl⟩
  rw [hx2] at hd2
  have HX2 := Lib.hid hx2
  clear hx2
  go_wp2_with fail
  refine hd2.mono ?_
  rintro e w' ⟨rfl, rfl⟩
  clear hd2
  cases x2 with
  | false =>
    have hz := HBAD.out (.inl (by rw [HLE.out]; exact form_h2 HX2.out))
    go_wp2_with fail
    go_ret2
    try rw [hz]
    first | exact ⟨_, rfl, _, OwnV.nil _ _ _, Inners.nil _, Below.refl _ _⟩ | exact ⟨_, _, rfl, OwnV.nil _ _ _, Inners.nil _, Below.refl _ _⟩
  | true =>
  have hc21 : la[21] = ll[21]?.getD 0 := str_at HLAD.out (by have := HSZ22.out; omega)
  obtain ⟨b21, hb21⟩ : ∃ b, ll[21]?.getD 0 = b := ⟨_, rfl⟩
  rw [hb21] at hc21
  have HC21 := Lib.hid hc21
  have HB21 := Lib.hid hb21
  clear hc21 hb21
  by_cases hnl : b21 = 10
  case neg =>
    have hz := HBAD.out (.inl (by rw [HLE.out]; exact form_nl (by rw [HB21.out]; exact hnl)))
    have g6 : (((la[21]).toNat : Int) != 10) = true := by
      rw [HC21.out, bne_iff_ne]
      intro e
      exact hnl (UInt8.toNat_inj.1 (Int.ofNat_inj.1 e))
    clear hnl
    go_wp2_with fail
    go_ret2
    try rw [hz]
    first | exact ⟨_, rfl, _, OwnV.nil _ _ _, Inners.nil _, Below.refl _ _⟩ | exact ⟨_, _, rfl, OwnV.nil _ _ _, Inners.nil _, Below.refl _ _⟩
  have g6 : (((la[21]).toNat : Int) != 10) = false := by rw [HC21.out, hnl]; rfl
  have HNL2 := Lib.hid hnl
  clear hnl
  have hgood : ¬ (endForm (l.drop (c + 1)) = false ∨ l[c]?.getD 0 ≠ 10) := by
    rw [HLE.out, HB.out]
    rintro (h | h)
    · have hA' : ll.take 4 = [69, 78, 68, 32] := by
        have := hA
        rw [ext_list HLAD.out (by omega) (by have := HSZ22.out; omega)] at this
        simpa using this
      have k1 : ((ll.drop 4).take 8).all isHexd = true := HX1.out
      have k2 : ((ll.drop 13).take 8).all isHexd = true := HX2.out
      have k3 : (ll[12]?.getD 0 == 32) = true := by rw [HB12.out, HSP.out]; rfl
      have k4 : (ll[21]?.getD 0 == 10) = true := by rw [HB21.out, HNL2.out]; rfl
      unfold endForm at h
      rw [HL22.out, hA', k1, k2, k3, k4] at h
      exact absurd h (by decide)
    · exact h H10.out
  have hrows := parse_rows (hw := hw.data.toList) (iw := iw.data.toList) (hm := hm) (im := im) HLL.out (by have := HBIG.out; rw [HSZ.out] at this; exact this) hgood
  rw [HPS.out] at hrows
  clear hgood
  have hpc := pieces_any (s.extract 0 c) 10 w (by rw [ByteArray.size_extract]; omega)
  rw [ext_data HL.out (Nat.zero_le _) (Nat.le_of_lt hcl)] at hpc
  obtain ⟨ws, hws⟩ : ∃ ws, cutAt 10 ((l.drop 0).take (c - 0)) = ws := ⟨_, rfl⟩
  rw [hws] at hpc hrows
  have HROWS := Lib.hid hrows
  clear hrows
  have HWS := Lib.hid hws
  clear hws
  go_wp2_with fail
  refine hpc.mono ?_
  rintro e w2 ⟨v, rfl, hO, hb2⟩
  clear hpc
  have hne : ws ≠ [] := by rw [← HWS.out]; exact cutAt_ne _ _
  have hwl : ws.length ≤ 1048577 := by
    have := cutAt_len 10 ((l.drop 0).take (c - 0))
    rw [HWS.out, List.length_take] at this
    omega
  obtain ⟨g, cap, hv, hbg, hg, hlc, hcm, _, hcs⟩ := hO.cases.resolve_left (by rintro ⟨_, h⟩; exact hne (List.map_eq_nil_iff.1 h))
  rw [List.length_map] at hv hlc
  subst hv
  unfold maxLen at hcm
  have HCS := Lib.hid hcs
  clear hO hcs g3 g5 g6 hA
  go_wp2_with fail
  go_loopw [15, 16] (fun o iv wr => ∃ (j : Nat) (dn : List (List Int)) (vs : List Value), j ≤ ws.length ∧ iv = .int .i64 j ∧ OwnV w2.heap.size 44 wr o vs ∧ Inners wr vs dn ∧ Below w2.heap.size w2 wr ∧ allOf hw.data.toList hm iw.data.toList im (ws.take j) = some dn ∧ dn.length = j) (fun _ iv _ => ws.length - (intOf iv).toNat)
  case atStart => exact ⟨0, [], [], Nat.zero_le _, rfl, OwnV.nil _ _ _, Inners.nil _, Below.refl _ _, rfl, rfl⟩
  case round =>
    obtain ⟨j, dn, vs, hj, rfl, hO, hI, hbr, hall, hdl⟩ := hrel
    obtain ⟨oa, oc, rfl⟩ := hO.form
    have hnl : vs.length ≤ 3000000 := by rw [hI.1]; omega
    have HNL := Lib.hid hnl
    have HALL := Lib.hid hall
    have HDL := Lib.hid hdl
    have HI := Lib.hid hI
    obtain ⟨P, hP⟩ : ∃ P, vs.length = P := ⟨_, rfl⟩
    have hPe := hP
    have HPP := Lib.hid hPe
    rw [hP] at hO ⊢
    have hbs := hbr.size
    clear hnl hall hdl hI hP hPe
    by_cases hlt : j < ws.length
    · obtain ⟨p, hp⟩ : ∃ p, ws[j]? = some p := ⟨ws[j], List.getElem?_eq_getElem hlt⟩
      have c1 : wr.cell? ⟨g, j, none⟩ = some (strV p) := (hbr.cell (p := ⟨g, j, none⟩) hg).trans (HCS.out j _ (by rw [List.getElem?_map, hp]; rfl))
      have hgl : g < wr.heap.size := Nat.lt_of_lt_of_le hg hbs
      unfold strV at c1
      obtain ⟨pb, hpb⟩ : ∃ b0 : ByteArray, (⟨p.toArray⟩ : ByteArray) = b0 := ⟨_, rfl⟩
      have hpd : pb.data.toList = p := by rw [← hpb]
      rw [hpb] at c1
      have hpz : pb.size ≤ 1048576 := by
        have h1 := cutAt_plen (c := 10) ((l.drop 0).take (c - 0)) p (by rw [HWS.out]; exact List.mem_of_getElem? hp)
        rw [List.length_take] at h1
        rw [size_of hpd]; omega
      have HP := Lib.hid hp
      have HPD := Lib.hid hpd
      clear hp hpb hpd
      by_cases hj0 : j = 0
      · have gz : ((j : Int) == 0) = true := by rw [hj0]; rfl
        have HJ0 := Lib.hid hj0
        clear hj0
        have hn := rnumbers_any pb hw hm wr hpz (by omega)
        rw [HPD.out] at hn
        obtain ⟨ro, hro⟩ : ∃ ro, rowOf hw.data.toList hm p = ro := ⟨_, rfl⟩
        rw [hro] at hn
        have HX : Hid ((if j = 0 then rowOf hw.data.toList hm p else rowOf iw.data.toList im p) = ro) := Lib.hid (by rw [if_pos HJ0.out, hro])
        have HRO := Lib.hid hro
        clear hro
        cases ro with
        | none =>
          have hz : ps = ([], 360) := by
            rw [HROWS.out, rall_none HP.out HX.out]
          go_wp2_with fail
          refine hn.mono ?_
          rintro e w3 ⟨nv, rfl, hnO, hb3⟩
          clear hn
          go_wp2_with fail
          go_ret2
          rw [hz]
          first | exact ⟨_, rfl, _, OwnV.nil _ _ _, Inners.nil _, hb2.trans ((hbr.trans (hb3.mono hbs)).mono hb2.size)⟩ | exact ⟨_, _, rfl, OwnV.nil _ _ _, Inners.nil _, hb2.trans ((hbr.trans (hb3.mono hbs)).mono hb2.size)⟩
        | some r =>
          go_wp2_with fail
          refine hn.mono ?_
          rintro e w3 ⟨nv, rfl, hnO, hb3⟩
          clear hn
          have hO3 := hO.old hb3
          have hbs3 : w2.heap.size ≤ w3.heap.size := Nat.le_trans hbs hb3.size
          have HRL : Hid (0 < r.length) := Lib.hid (by have := rrow_length HRO.out; omega)
          have hin : Inner w3 nv r := Inner.of hnO HRL.out
          have HIN := Lib.hid hin
          have HI3 := Lib.hid (HI.out.map fun v ns h => h.below hb3)
          obtain ⟨na, nc, hnv⟩ := hnO.form
          rw [show (List.map intV ((some r).getD [])).length = r.length from List.length_map _] at hnv
          subst hnv
          clear hin hnO
          go_wp2_with (at_builtin; refine wpList_append_V rfl (.tmp 93) (.tmp 95) 87 44 24 (.slice none 0 0) Tryz.underlying87 Tryz.infoRow rfl (by omega) rfl w3 _ rfl rfl rfl hO3 HNL.out hbs3 ?_; intro v' w4 hown hgr hbe)
          refine ⟨⟨j + 1, dn ++ [r], vs ++ [_], by omega, by go_num, hown, ?_, ?_, ?_, by rw [List.length_append, HDL.out]; rfl⟩, by simp [intOf]; omega⟩
          · exact (HI3.out.map fun v ns h => (h.below ((Below.refl _ _).alloc (Nat.le_refl _) _)).grown hgr (hO3.alloc _) (by decide)).snoc ((HIN.out.below ((Below.refl _ _).alloc (Nat.le_refl _) _)).grown hgr (hO3.alloc _) (by decide))
          · exact (hbr.trans (hb3.mono hbs)).trans hbe
          · have ht : ws.take (j + 1) = ws.take j ++ [p] := by rw [List.take_add_one, HP.out]; rfl
            rw [ht]
            exact rall_snoc HALL.out (by rw [List.length_take, Nat.min_eq_left hj]; exact HX.out)
      · have gz : ((j : Int) == 0) = false := by rw [beq_eq_false_iff_ne]; omega
        have HJ0 := Lib.hid hj0
        clear hj0
        have hn := rnumbers_any pb iw im wr hpz (by omega)
        rw [HPD.out] at hn
        obtain ⟨ro, hro⟩ : ∃ ro, rowOf iw.data.toList im p = ro := ⟨_, rfl⟩
        rw [hro] at hn
        have HX : Hid ((if j = 0 then rowOf hw.data.toList hm p else rowOf iw.data.toList im p) = ro) := Lib.hid (by rw [if_neg HJ0.out, hro])
        have HRO := Lib.hid hro
        clear hro
        cases ro with
        | none =>
          have hz : ps = ([], 360) := by
            rw [HROWS.out, rall_none HP.out HX.out]
          go_wp2_with fail
          refine hn.mono ?_
          rintro e w3 ⟨nv, rfl, hnO, hb3⟩
          clear hn
          go_wp2_with fail
          go_ret2
          rw [hz]
          first | exact ⟨_, rfl, _, OwnV.nil _ _ _, Inners.nil _, hb2.trans ((hbr.trans (hb3.mono hbs)).mono hb2.size)⟩ | exact ⟨_, _, rfl, OwnV.nil _ _ _, Inners.nil _, hb2.trans ((hbr.trans (hb3.mono hbs)).mono hb2.size)⟩
        | some r =>
          go_wp2_with fail
          refine hn.mono ?_
          rintro e w3 ⟨nv, rfl, hnO, hb3⟩
          clear hn
          have hO3 := hO.old hb3
          have hbs3 : w2.heap.size ≤ w3.heap.size := Nat.le_trans hbs hb3.size
          have HRL : Hid (0 < r.length) := Lib.hid (by have := rrow_length HRO.out; omega)
          have hin : Inner w3 nv r := Inner.of hnO HRL.out
          have HIN := Lib.hid hin
          have HI3 := Lib.hid (HI.out.map fun v ns h => h.below hb3)
          obtain ⟨na, nc, hnv⟩ := hnO.form
          rw [show (List.map intV ((some r).getD [])).length = r.length from List.length_map _] at hnv
          subst hnv
          clear hin hnO
          go_wp2_with (at_builtin; refine wpList_append_V rfl (.tmp 93) (.tmp 95) 87 44 24 (.slice none 0 0) Tryz.underlying87 Tryz.infoRow rfl (by omega) rfl w3 _ rfl rfl rfl hO3 HNL.out hbs3 ?_; intro v' w4 hown hgr hbe)
          refine ⟨⟨j + 1, dn ++ [r], vs ++ [_], by omega, by go_num, hown, ?_, ?_, ?_, by rw [List.length_append, HDL.out]; rfl⟩, by simp [intOf]; omega⟩
          · exact (HI3.out.map fun v ns h => (h.below ((Below.refl _ _).alloc (Nat.le_refl _) _)).grown hgr (hO3.alloc _) (by decide)).snoc ((HIN.out.below ((Below.refl _ _).alloc (Nat.le_refl _) _)).grown hgr (hO3.alloc _) (by decide))
          · exact (hbr.trans (hb3.mono hbs)).trans hbe
          · have ht : ws.take (j + 1) = ws.take j ++ [p] := by rw [List.take_add_one, HP.out]; rfl
            rw [ht]
            exact rall_snoc HALL.out (by rw [List.length_take, Nat.min_eq_left hj]; exact HX.out)
    · obtain rfl : j = ws.length := by omega
      have hen := rend_any (l.take (c + 1)) wr (by rw [List.length_take]; have := HLL.out; have := HSZ.out; have := HC.out; have := HBIG.out; omega)
      have hse : (⟨(l.take (c + 1)).toArray⟩ : ByteArray) = s.extract 0 (c + 1) := by
        apply ByteArray.ext
        apply Array.toList_inj.1
        rw [ext_data HL.out (Nat.zero_le _) (by have := HC.out; omega)]; rfl
      rw [hse] at hen
      obtain ⟨eb, heb⟩ : ∃ eb, endB (l.take (c + 1)) = eb := ⟨_, rfl⟩
      rw [heb] at hen
      obtain ⟨es, hes⟩ : ∃ es : ByteArray, (⟨eb.toArray⟩ : ByteArray) = es := ⟨_, rfl⟩
      have hed : es.data.toList = eb := by rw [← hes]
      rw [hes] at hen
      have HEB := Lib.hid heb
      have HED := Lib.hid (toList_of hed)
      clear hse heb hes hed
      have hall := HALL.out
      rw [List.take_length] at hall
      by_cases heq : eb = ll
      · have hz : ps = (dn, 0) := by rw [HROWS.out, hall]; dsimp only; rw [HEB.out, HLE.out, if_pos heq]
        have gb : (es.toList == la.toList) = true := by rw [HED.out, toList_of HLAD.out, heq]; simp
        clear heq hall
        go_wp2_with fail
        refine hen.mono ?_
        rintro e w3 ⟨rfl, rfl⟩
        go_wp2_with fail
        go_ret2
        rw [hz]
        first | exact ⟨_, rfl, _, OwnV.mono hO hb2.size, HI.out, hb2.trans (hbr.mono hb2.size)⟩ | exact ⟨_, _, rfl, OwnV.mono hO hb2.size, HI.out, hb2.trans (hbr.mono hb2.size)⟩
      · have hz : ps = ([], 361) := by rw [HROWS.out, hall]; dsimp only; rw [HEB.out, HLE.out, if_neg heq]
        have gb : (es.toList == la.toList) = false := by rw [HED.out, toList_of HLAD.out, beq_eq_false_iff_ne]; exact heq
        clear heq hall
        go_wp2_with fail
        refine hen.mono ?_
        rintro e w3 ⟨rfl, rfl⟩
        go_wp2_with fail
        go_ret2
        rw [hz]
        first | exact ⟨_, rfl, _, OwnV.nil _ _ _, Inners.nil _, hb2.trans (hbr.mono hb2.size)⟩ | exact ⟨_, _, rfl, OwnV.nil _ _ _, Inners.nil _, hb2.trans (hbr.mono hb2.size)⟩
end Go.Proofs.YtaccaebdmndkiaaGreatDoor
