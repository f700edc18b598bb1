/- Contracts and plain laws, several texts in one (DKey, DShelf2, DText, DOwn). No conditions beyond those stated. -/
import Derived.Lib.ItoaNum
import Derived.Shelf.Small.Bits
import Derived.Shelf.Small.Wraps
import Derived.Shelf.Strconv.Itoa0
import Derived.Shelf.Strconv.Itoa1
import Derived.Shelf.LaysM
import Derived.Shelf.Strconv.Itoa2
import Derived.Shelf.Strconv.AppendUint10
import Derived.Shelf.Strconv.AppendInt10
import Derived.Lib.ItoaLen
import Derived.Test.YtlidpghnlloinaaGreatDoorPk18
set_option maxRecDepth 100000
set_option maxHeartbeats 40000000
namespace Go.Proofs.YtlidpghnlloinaaGreatDoor
set_option linter.unusedVariables false
def dval (l : List UInt8) : Nat:=l.foldl (fun a b => a * 10 + (b.toNat - 48)) 0
theorem dval_snoc (l : List UInt8) (b : UInt8) : dval (l ++ [b]) = dval l * 10 + (b.toNat - 48):=by unfold dval; rw [List.foldl_append]; rfl
theorem dig_byte {i : Nat} (h : i < 10) : (UInt8.ofNat (48 + i)).toNat = 48 + i:=by rw [UInt8.toNat_ofNat']; omega
theorem dec_step (u : Nat) (h : ¬ u < 10) : Lib.decDigits u = Lib.decDigits (u / 10) ++ [UInt8.ofNat (48 + u % 10)]:=by
 rw [Lib.decDigits,dif_neg h]
theorem dec_val : ∀ (k u : Nat),u <= k -> dval (Lib.decDigits u) = u /\ ∀ b ∈ Lib.decDigits u,48 <= b.toNat
 | k,u,hk => by
  by_cases h : u < 10
  ·rw [Lib.decDigits_one h]
   refine ⟨?_,fun b hb => ?_⟩
   ·show 0 * 10 + ((UInt8.ofNat (48 + u)).toNat - 48) = u
    rw [dig_byte h]; omega
   ·rw [List.mem_singleton.1 hb,dig_byte h]; omega
  ·match k with
   | 0 => omega
   | k + 1 =>
    obtain ⟨h1,h2⟩:=dec_val k (u / 10) (by omega)
    rw [dec_step u h,dval_snoc,h1,dig_byte (Nat.mod_lt _ (by omega))]
    refine ⟨by omega,fun b hb => ?_⟩
    rcases List.mem_append.1 hb with hb | hb
    ·exact h2 b hb
    ·rw [List.mem_singleton.1 hb,dig_byte (Nat.mod_lt _ (by omega))]; omega
theorem itoa_inj {a b : Int} (h : Lib.itoa a = Lib.itoa b) : a = b:=by
 have hd : ∀ (u : Nat) (r : List UInt8),Lib.decDigits u ≠ 45 :: r:=fun u r e => by
  have := (dec_val u u (Nat.le_refl _)).2 45 (by rw [e]; exact List.mem_cons_self ..)
  revert this; decide
 unfold Lib.itoa at h
 by_cases ha : a < 0 <;> by_cases hb : b < 0
 ·rw [if_pos ha,if_pos hb] at h
  have e:=congrArg dval (List.cons.inj h).2
  rw [(dec_val _ _ (Nat.le_refl _)).1,(dec_val _ _ (Nat.le_refl _)).1] at e
  omega
 ·rw [if_pos ha,if_neg hb] at h
  exact absurd h.symm (hd _ _)
 ·rw [if_neg ha,if_pos hb] at h
  exact absurd h (hd _ _)
 ·rw [if_neg ha,if_neg hb] at h
  have e:=congrArg dval h
  rw [(dec_val _ _ (Nat.le_refl _)).1,(dec_val _ _ (Nat.le_refl _)).1] at e
  omega
theorem itoa_no_comma (n : Int) : (44 : UInt8) ∉ Lib.itoa n:=by
 intro h
 have hd : ∀ u : Nat,(44 : UInt8) ∉ Lib.decDigits u:=fun u h => by
  have := (dec_val u u (Nat.le_refl _)).2 44 h
  revert this; decide
 unfold Lib.itoa at h
 split at h
 ·rcases List.mem_cons.1 h with h | h
  ·revert h; decide
  ·exact hd _ h
 ·exact hd _ h
def keyL (l : List Int) : List UInt8:=l.flatMap fun n => Lib.itoa n ++ [44]
theorem keyL_cons (n : Int) (l : List Int) : keyL (n :: l) = Lib.itoa n ++ 44 :: keyL l:=by simp [keyL]
theorem keyL_snoc (l : List Int) (n : Int) : keyL (l ++ [n]) = keyL l ++ Lib.itoa n ++ [44]:=by simp [keyL]
theorem comma_split : ∀ {a b r s : List UInt8},(44 : UInt8) ∉ a -> (44 : UInt8) ∉ b -> a ++ 44 :: r = b ++ 44 :: s -> a = b /\ r = s
 | [],[],r,s,_,_,h => ⟨rfl,(List.cons.inj h).2⟩
 | [],y :: b,r,s,_,hb,h => by
  have := (List.cons.inj h).1
  exact absurd (by rw [this]; exact List.mem_cons_self ..) hb
 | x :: a,[],r,s,ha,_,h => by
  have := (List.cons.inj h).1
  exact absurd (by rw [<- this]; exact List.mem_cons_self ..) ha
 | x :: a,y :: b,r,s,ha,hb,h => by
  obtain ⟨h1,h2⟩:=List.cons.inj h
  obtain ⟨h3,h4⟩:=comma_split (fun h => ha (List.mem_cons_of_mem _ h)) (fun h => hb (List.mem_cons_of_mem _ h)) h2
  exact ⟨by rw [h1,h3],h4⟩
theorem keyL_inj : ∀ {a b : List Int},keyL a = keyL b -> a = b
 | [],[],_ => rfl
 | [],n :: b,h => by rw [keyL_cons] at h; have := congrArg List.length h; simp [keyL] at this
 | n :: a,[],h => by rw [keyL_cons] at h; have := congrArg List.length h; simp [keyL] at this
 | n :: a,m :: b,h => by
  rw [keyL_cons,keyL_cons] at h
  obtain ⟨h1,h2⟩:=comma_split (itoa_no_comma n) (itoa_no_comma m) h
  rw [itoa_inj h1,keyL_inj h2]
def keyD (x : Nat × List Int) : List UInt8:=keyL ((x.1 : Int) :: x.2)
def keyF (l : List Nat) : List UInt8:=keyL (l.map fun n : Nat => (n : Int))
theorem keyD_inj {x y : Nat × List Int} (h : keyD x = keyD y) : x = y:=by
 have := keyL_inj h
 obtain ⟨h1,h2⟩:=List.cons.inj this
 exact Prod.ext (by omega) h2
theorem map_cast_inj : ∀ {a b : List Nat},a.map (fun n : Nat => (n : Int)) = b.map (fun n : Nat => (n : Int)) -> a = b
 | [],[],_ => rfl
 | [],m :: b,h => by cases h
 | n :: a,[],h => by cases h
 | n :: a,m :: b,h => by
  obtain ⟨h1,h2⟩:=List.cons.inj h
  have h1 : (n : Int) = (m : Int):=h1
  rw [map_cast_inj h2]
  have : n = m:=by omega
  rw [this]
theorem keyF_inj {a b : List Nat} (h : keyF a = keyF b) : a = b:=map_cast_inj (keyL_inj h)
def atKey {α : Type} (key : α -> List UInt8) (l : List α) (s : List UInt8) : Option Nat:=if l.findIdx (fun x => key x == s) < l.length then some (l.findIdx fun x => key x == s) else none
theorem atKey_idx {α : Type} [BEq α] [LawfulBEq α] {key : α -> List UInt8} (hk : ∀ x y,key x = key y -> x = y) (l : List α) (a : α) : l.findIdx (fun x => key x == key a) = l.idxOf a:=by
 unfold List.idxOf
 congr 1
 funext x
 by_cases h : x = a
 ·subst h; simp
 ·have : key x ≠ key a:=fun e => h (hk x a e)
  rw [beq_eq_false_iff_ne.2 this,beq_eq_false_iff_ne.2 h]
theorem atKey_found {α : Type} [BEq α] [LawfulBEq α] {key : α -> List UInt8} (hk : ∀ x y,key x = key y -> x = y) (l : List α) (a : α) : atKey key l (key a) = if l.idxOf a < l.length then some (l.idxOf a) else none:=by
 unfold atKey; rw [atKey_idx hk]
theorem atKey_snoc {α : Type} [BEq α] [LawfulBEq α] {key : α -> List UInt8} (hk : ∀ x y,key x = key y -> x = y) (l : List α) (a : α) (hn : ¬ l.idxOf a < l.length) (s : List UInt8) : atKey key (l ++ [a]) s = if s = key a then some l.length else atKey key l s:=by
 have hnm : a ∉ l:=fun h => hn (List.idxOf_lt_length_of_mem h)
 unfold atKey
 by_cases hs : s = key a
 ·subst hs
  have e : (l ++ [a]).findIdx (fun x => key x == key a) = l.length:=by
   rw [atKey_idx hk,List.idxOf_append,if_neg hnm]; simp
  rw [e,if_pos rfl,if_pos (by simp)]
 ·rw [if_neg hs]
  have hfa : (key a == s) = false:=beq_eq_false_iff_ne.2 (fun e => hs e.symm)
  by_cases h : l.findIdx (fun x => key x == s) < l.length
  ·have e : (l ++ [a]).findIdx (fun x => key x == s) = l.findIdx fun x => key x == s:=by rw [List.findIdx_append,if_pos h]
   rw [e,if_pos h,if_pos (by simp; omega)]
  ·have e : (l ++ [a]).findIdx (fun x => key x == s) = l.length + 1:=by
    rw [List.findIdx_append,if_neg h]
    simp [List.findIdx_cons,hfa]
    omega
   rw [e,if_neg h,if_neg (by simp)]
end Go.Proofs.YtlidpghnlloinaaGreatDoor
namespace Go.Proofs
open Go.Shelf
def Tryz.laysM249_ren : Go.Shelf.Ren:=⟨fun | 249 => 181 | 288 => 206 | 283 => 233 | 284 => 234 | 285 => 235 | 286 => 236 | 129 => 231 | 317 => 250 | 318 => 251 | 319 => 252 | 320 => 253 | 337 => 263 | 338 => 264 | n => n,fun | 37 => 60 | 2 => 2 | 3 => 3 | 53 => 183 | 4 => 4 | 9 => 9 | 171 => 250 | 0 => 0 | 173 => 252 | 212 => 269 | 51 => 246 | 5 => 5 | 20 => 20 | 213 => 270 | 46 => 202 | 232 => 296 | 233 => 297 | n => n,fun | 17 => 0 | 18 => 1 | 19 => 2 | n => n⟩
theorem Tryz.laysM249 : Go.Proofs.LaysM.n249 Tryz.prog Tryz.laysM249_ren:={
 mixed:=by kernel_rfl
 f129:=Tryz.func231.trans (congrArg some (by kernel_rfl))
 f249:=Tryz.func181.trans (congrArg some (by kernel_rfl))
 f283:=Tryz.func233.trans (congrArg some (by kernel_rfl))
 f284:=Tryz.func234.trans (congrArg some (by kernel_rfl))
 f285:=Tryz.func235.trans (congrArg some (by kernel_rfl))
 f286:=Tryz.func236.trans (congrArg some (by kernel_rfl))
 f288:=Tryz.func206.trans (congrArg some (by kernel_rfl))
 f317:=Tryz.func250.trans (congrArg some (by kernel_rfl))
 f318:=Tryz.func251.trans (congrArg some (by kernel_rfl))
 f319:=Tryz.func252.trans (congrArg some (by kernel_rfl))
 f320:=Tryz.func253.trans (congrArg some (by kernel_rfl))
 f337:=Tryz.func263.trans (congrArg some (by kernel_rfl))
 f338:=Tryz.func264.trans (congrArg some (by kernel_rfl))
 t0:=Tryz.underlying0
 a0:=Tryz.isAgg0
 z0:=Tryz.sizeOf0
 v0:=Tryz.zeroValue0
 t2:=Tryz.underlying2
 a2:=Tryz.isAgg2
 z2:=Tryz.sizeOf2
 v2:=Tryz.zeroValue2
 t3:=Tryz.underlying3
 a3:=Tryz.isAgg3
 z3:=Tryz.sizeOf3
 v3:=Tryz.zeroValue3
 t4:=Tryz.underlying4
 a4:=Tryz.isAgg4
 z4:=Tryz.sizeOf4
 v4:=Tryz.zeroValue4
 t5:=Tryz.underlying5
 a5:=Tryz.isAgg5
 z5:=Tryz.sizeOf5
 v5:=Tryz.zeroValue5
 t9:=Tryz.underlying9
 a9:=Tryz.isAgg9
 z9:=Tryz.sizeOf9
 v9:=Tryz.zeroValue9
 t20:=Tryz.underlying20
 a20:=Tryz.isAgg20
 z20:=Tryz.sizeOf20
 v20:=Tryz.zeroValue20
 t37:=Tryz.underlying60
 a37:=Tryz.isAgg60
 z37:=Tryz.sizeOf60
 v37:=Tryz.zeroValue60
 t46:=Tryz.underlying202
 a46:=Tryz.isAgg202
 z46:=Tryz.sizeOf202
 v46:=Tryz.zeroValue202
 t51:=Tryz.underlying246
 a51:=Tryz.isAgg246
 z51:=Tryz.sizeOf246
 v51:=Tryz.zeroValue246
 t53:=Tryz.underlying183
 a53:=Tryz.isAgg183
 z53:=Tryz.sizeOf183
 v53:=Tryz.zeroValue183
 t171:=Tryz.underlying250
 a171:=Tryz.isAgg250
 z171:=Tryz.sizeOf250
 v171:=Tryz.zeroValue250
 t173:=Tryz.underlying252
 a173:=Tryz.isAgg252
 z173:=Tryz.sizeOf252
 v173:=Tryz.zeroValue252
 t212:=Tryz.underlying269
 a212:=Tryz.isAgg269
 z212:=Tryz.sizeOf269
 v212:=Tryz.zeroValue269
 t213:=Tryz.underlying270
 a213:=Tryz.isAgg270
 z213:=Tryz.sizeOf270
 t232:=Tryz.underlying296
 a232:=Tryz.isAgg296
 z232:=Tryz.sizeOf296
 v232:=Tryz.zeroValue296
 t233:=Tryz.underlying297
 a233:=Tryz.isAgg297
 z233:=Tryz.sizeOf297
 v233:=Tryz.zeroValue297
 g17:=by kernel_rfl
 g18:=by kernel_rfl
 g19:=by kernel_rfl
 i0:=by kernel_rfl
 i2:=by kernel_rfl
 i3:=by kernel_rfl
 i4:=by kernel_rfl
 i5:=by kernel_rfl
 i9:=by kernel_rfl
 i20:=by kernel_rfl
 i37:=by kernel_rfl
 i46:=by kernel_rfl
 i51:=by kernel_rfl
 i53:=by kernel_rfl
 i171:=by kernel_rfl
 i173:=by kernel_rfl
 i212:=by kernel_rfl
 i232:=by kernel_rfl
 i233:=by kernel_rfl
 m17:=by kernel_rfl
 m18:=by kernel_rfl
 m19:=by kernel_rfl }
open Go.RowKit Go.Sort Go.Lib in
theorem Tryz.internal_strconv_AppendInt_10 (B n : Nat) (i : Int) (h0 : -9223372036854775808 <= i) (h1 : i <= 9223372036854775807) (sv : Value) (xs : List Value) (w : World) (hown : w.ownsRow B 5 1 sv n xs) (hBw : B <= w.heap.size) (hlim : n + 21 <= 140737488355328) (htab : Lib.TabBelow Tryz.prog B w "internal/strconv.uint64pow10" .u64 Lib.pow10Tab) :
  Calls Tryz.prog 181 #[sv,.int .i64 i,.int .i64 10] w fun e w' => ∃ v',e = .returned v' /\ w'.ownsRow B 5 1 v' (n + (Lib.itoa i).length) (xs ++ Lib.byteCells (Lib.itoa i)) /\ Below B w w' /\ Lib.OthersKept 5 none w w':=Any.internal_strconv_AppendInt_10 Tryz.laysM249 B n i h0 h1 sv xs w hown hBw hlim htab
end Go.Proofs
namespace Go.Proofs.YtlidpghnlloinaaGreatDoor
open Go.RowKit
set_option linter.unusedVariables false
def PTab (K : Nat) (w : World) : Prop := Lib.TabBelow Tryz.prog K w "internal/strconv.uint64pow10" .u64 Lib.pow10Tab
theorem PTab.on {K : Nat} {w w' : World} (h : PTab K w) (hb : Below K w w') : PTab K w':=Lib.TabBelow.on h hb
theorem PTab.up {K B : Nat} {w : World} (h : PTab K w) (hK : K <= B) : Lib.TabBelow Tryz.prog B w "internal/strconv.uint64pow10" .u64 Lib.pow10Tab := fun w' hb => h w' (hb.mono hK)
def KeyO (base : Nat) (w : World) (v : Value) (l : List UInt8) : Prop:=w.ownsRow base 5 1 v l.length (Lib.byteCells l)
theorem KeyO.form {base : Nat} {w : World} {v : Value} {l : List UInt8} (h : KeyO base w v l) : ∃ a c,v = .slice a l.length c:=by
 obtain ⟨a,c,e,_⟩:=ownsRow_form h; exact ⟨a,c,e⟩
theorem sAppInt_any (B : Nat) (i : Int) (h0 : -9223372036854775808 <= i) (h1 : i <= 9223372036854775807) (a : Option Addr) (c : Nat) (l : List UInt8) (n : Nat) (hn : l.length = n) (w : World) (hown : KeyO B w (.slice a n c) l) (hBw : B <= w.heap.size) (hlim : n + 21 <= 2 ^ 46)
  (htab : Lib.TabBelow Tryz.prog B w "internal/strconv.uint64pow10" .u64 Lib.pow10Tab) :
  Calls Tryz.prog 154 #[.slice a n c,.int .i64 i,.int .i64 10] w fun e w' => ∃ v',e = .returned v' /\ KeyO B w' v' (l ++ Lib.itoa i) /\ Below B w w':=by
 subst hn
 have hc:=Tryz.internal_strconv_AppendInt_10 B l.length i h0 h1 (.slice a l.length c) (Lib.byteCells l) w hown hBw (by omega) htab
 have HC:=Lib.hid hc
 obtain ⟨n,hn⟩ : ∃ n,l.length = n:=⟨_,rfl⟩
 have HN:=Lib.hid hn
 rw [hn] at HC ⊢
 clear hc hn hown htab h0 h1 hlim
 go_enter Tryz.func154,Tryz.ntmps154
 go_wp2_with fail
 refine HC.out.mono ?_
 rintro e w2 ⟨v2,rfl,ho2,hb2,_⟩
 obtain ⟨a2,c2,rfl,_,_⟩:=id (ownsRow_form ho2)
 have HO2:=Lib.hid ho2
 obtain ⟨m,hm⟩ : ∃ m,n + (Lib.itoa i).length = m:=⟨_,rfl⟩
 have HM:=Lib.hid hm
 rw [hm] at HO2 ⊢
 clear ho2 hm
 go_wp2_with fail
 go_ret
 refine ⟨_,rfl,?_,hb2⟩
 unfold KeyO
 rw [List.length_append,HN.out,HM.out,Lib.byteCells,List.map_append]
 exact HO2.out
theorem infoByteD : (Tryz.prog.info? 5).map (fun i => (i.zero,i.size,i.bytes)) = some (some (.int .u8 0),1,1):=by kernel_rfl
theorem flat_one {α : Type} (f : α -> Value) : ∀ l : List α,(l.map fun b => [f b]).flatten = l.map f
 | [] => rfl
 | a :: l => by rw [List.map_cons,List.flatten_cons,flat_one f l]; rfl
theorem KeyO.rows {base : Nat} {w : World} {v : Value} {l : List UInt8} (h : KeyO base w v l) : OwnR 1 5 base w v (l.map fun b => [Value.int .u8 b.toNat]) :=
 ⟨by rw [flat_one,List.length_map]; exact h,fun r hr => by obtain ⟨b,_,rfl⟩:=List.mem_map.1 hr; exact ⟨rfl,fun u hu => by rw [List.mem_singleton.1 hu]; rfl⟩⟩
theorem KeyO.ofRows {base : Nat} {w : World} {v : Value} {l : List UInt8} {n : Nat} (h : OwnR 1 5 base w v (l.map fun b => [Value.int .u8 b.toNat])) : KeyO base w v l:=by
 have := h.1
 rw [flat_one,List.length_map] at this
 exact this
theorem KeyO.nil (base : Nat) (w : World) : KeyO base w (.slice none 0 0) []:=World.ownsRow_nil w base 5 1
theorem KeyO.str {base : Nat} {w : World} {v : Value} {l : List UInt8} (h : KeyO base w v l) : (convert 60 9 v).run Tryz.prog w = .ok (S l) w:=by
 rcases id h.2 with ⟨rfl,h0⟩ | ⟨g,cap,cur,rfl,hb,hg,hn,hm,hs,ht⟩
 ·have : l = []:=List.eq_nil_of_length_eq_zero h0
  subst this
  exact run_convert_bytes_nil w 60 5 Tryz.underlying60 Tryz.underlying5 _ _ 9 Tryz.underlying9
 ·refine run_convert_bytes_back w 60 9 5 ⟨g,0,none⟩ cap l Tryz.underlying60 Tryz.underlying5 Tryz.underlying9 fun j hj => ?_
  have := World.ownsRow.cells h (g:=g) rfl j (Value.int .u8 (l[j]).toNat) (by rw [Lib.byteCells,List.getElem?_map,List.getElem?_eq_getElem hj]; rfl)
  exact this
theorem keyL_len : ∀ (l : List Int),(∀ n ∈ l,-(2 ^ 62) < n /\ n < 2 ^ 62) -> (keyL l).length <= 22 * l.length
 | [],_ => by simp [keyL]
 | n :: l,h => by
  have h1:=Lib.itoa_length_le n (by have := h n (List.mem_cons_self ..); omega) (by have := h n (List.mem_cons_self ..); omega)
  have h2:=keyL_len l fun m hm => h m (List.mem_cons_of_mem _ hm)
  rw [keyL_cons,List.length_append,List.length_cons,List.length_cons]; omega
theorem take_snoc {α : Type} {l : List α} {i : Nat} {x : α} (h : l[i]? = some x) : l.take (i + 1) = l.take i ++ [x]:=by rw [List.take_add_one,h]; rfl
theorem dtext_any (K : Nat) (lv mv : Value) (l more : List Int) (w : World) (hl : IntsX K w lv l) (hm : IntsX K w mv more) (hb : ∀ n ∈ more ++ l,-(2 ^ 62) < n /\ n < 2 ^ 62) (hlen : more.length + l.length <= 2 ^ 38) (hK : K <= w.heap.size) (htab : PTab K w) :
  Calls Tryz.prog 110 #[lv,mv] w fun e w' => e = .returned (S (keyL (more ++ l))) /\ Below w.heap.size w w':=by
 obtain ⟨la,lc,rfl,hl0,hlm⟩:=RowsV.form hl
 obtain ⟨ma,mc,rfl,hm0,hmm⟩:=RowsV.form hm
 obtain ⟨n,hn⟩ : ∃ n,l.length = n:=⟨_,rfl⟩
 obtain ⟨m,hmn⟩ : ∃ m,more.length = m:=⟨_,rfl⟩
 have HN:=Lib.hid hn
 have HMN:=Lib.hid hmn
 rw [hn] at hl hlen hl0 ⊢
 rw [hmn] at hm hlen hm0 ⊢
 unfold maxLen at hlm hmm
 obtain ⟨B,hB⟩ : ∃ B,w.heap.size = B:=⟨_,rfl⟩
 have HB:=Lib.hid hB
 rw [hB] at hK ⊢
 have HL : Hid (∀ i,i < n -> ∃ b o,la = some ⟨b,o,none⟩ /\ b < K /\ ∀ i,i < n -> w.cell? ⟨b,o + i,none⟩ = some (.int .i64 (l[i]?.getD 0))):=Lib.hid fun i hi => by
  obtain ⟨b,o,cap,he,_,_,hbK,hc⟩:=RowsV.pos hl (by omega)
  simp only [Value.slice.injEq] at he
  exact ⟨b,o,he.1,hbK,fun i hi => by have := hc i (by rw [HN.out]; exact hi) 0 (by omega); simpa using this⟩
 have HM : Hid (∀ i,i < m -> ∃ b o,ma = some ⟨b,o,none⟩ /\ b < K /\ ∀ i,i < m -> w.cell? ⟨b,o + i,none⟩ = some (.int .i64 (more[i]?.getD 0))):=Lib.hid fun i hi => by
  obtain ⟨b,o,cap,he,_,_,hbK,hc⟩:=RowsV.pos hm (by omega)
  simp only [Value.slice.injEq] at he
  exact ⟨b,o,he.1,hbK,fun i hi => by have := hc i (by rw [HMN.out]; exact hi) 0 (by omega); simpa using this⟩
 have HBD:=Lib.hid hb
 have HT:=Lib.hid htab
 clear hl hm hb htab hB hn hmn
 go_enter Tryz.func110,Tryz.ntmps110
 go_wp2_with fail
 go_loopw [5,13] (fun ov iv wr => ∃ (k : Nat),k <= 2 /\ iv = .int .i64 k /\ KeyO B wr ov (keyL (([more,l].take k).flatten)) /\ Below B w wr) (fun _ iv _ => 2 - (intOf iv).toNat)
 case atStart => exact ⟨0,by omega,rfl,KeyO.nil _ _,Below.refl _ _⟩
 case round =>
  obtain ⟨k,hk,rfl,hko,hbw⟩:=hrel
  obtain ⟨wo,rfl⟩ : ∃ wo : World,wo = wr:=⟨_,rfl⟩
  have HBW:=Lib.hid hbw
  have hBo : B <= wo.heap.size:=by have := hbw.size; have := HB.out; omega
  clear hbw
  have hkc : k = 0 \/ k = 1 \/ k = 2:=by omega
  rcases hkc with hkc | hkc | hkc
  ·have hk2 : decide ((k : Int) < 2) = true:=decide_eq_true (by omega)
   have hkl2 : k < 2:=by omega
   have HKL2 : Hid (k + 1 <= 2 /\ 2 - (k + 1) < 2 - k):=Lib.hid (by omega)
   have hkw : IntKind.i64.wrap ((k : Int) + 1) = (k : Int) + 1:=IntWalk.i64_in _ (by omega)
   clear hkl2
   have e0 : (([more,l].take k).flatten) = []:=by rw [hkc]; simp
   have e1 : (([more,l].take (k + 1)).flatten) = [] ++ more:=by rw [hkc]; simp
   have E1:=Lib.hid e1
   rw [e0] at hko
   obtain ⟨oa,oc,hov⟩:=hko.form
   obtain ⟨q,hq⟩ : ∃ q,(keyL ([] : List Int)).length = q:=⟨_,rfl⟩
   rw [hq] at hov
   subst hov
   have HKO:=Lib.hid hko
   clear hko e0 e1 hq
   have hix : ∀ w,(Instr.index 194 (.agg #[.slice ma m mc,.slice la n lc]) (.int .i64 (k : Int))).run Tryz.prog w = .ok (.slice ma m mc) w:=fun _ => by rw [hkc]; kernel_rfl
   clear hkc hk
   go_wp2_with fail
   go_loopw [5,18] (fun ov iv wr => ∃ (j : Nat),j <= m /\ iv = .int .i64 j /\ KeyO B wr ov (keyL ([] ++ more.take j)) /\ Below B w wr) (fun _ iv _ => m - (intOf iv).toNat)
   case atStart => exact ⟨0,Nat.zero_le _,rfl,by rw [List.take_zero,List.append_nil]; exact HKO.out,HBW.out⟩
   case round =>
    obtain ⟨j,hj,rfl,hkj,hbj⟩:=hrel
    obtain ⟨wi,rfl⟩ : ∃ wi : World,wi = wr:=⟨_,rfl⟩
    obtain ⟨ja,jc,rfl⟩:=id hkj.form
    have HBJ:=Lib.hid hbj
    have hBi : B <= wi.heap.size:=by have := hbj.size; have := HB.out; omega
    clear hbj
    by_cases hlt : j < m
    ·obtain ⟨b,o,rfl,hbK,hc⟩:=HM.out j hlt
     have hjl : j < more.length:=by rw [HMN.out]; exact hlt
     obtain ⟨z,hz⟩ : ∃ z,more[j]?.getD 0 = z:=⟨_,rfl⟩
     have hgz : more[j]? = some z:=by rw [<- hz,List.getElem?_eq_getElem hjl]; rfl
     have c0 : wi.cell? ⟨b,o + j,none⟩ = some (.int .i64 z):=by rw [<- hz]; exact (HBJ.out.cell (p:=⟨b,o + j,none⟩) (Nat.lt_of_lt_of_le hbK hK)).trans (hc j hlt)
     have hzb:=HBD.out z (by have := List.mem_of_getElem? hgz; simp [this])
     have hts : Hid (keyL ([] ++ more.take (j + 1)) = keyL ([] ++ more.take j) ++ Lib.itoa z ++ [44]):=Lib.hid (by rw [take_snoc hgz,<- List.append_assoc,keyL_snoc])
     have hkl:=keyL_len ([] ++ more.take j) fun y hy => HBD.out y (by
      rcases List.mem_append.1 hy with hy | hy
      ·simp at hy ⊢; try exact .inl hy
      ·have := List.mem_of_mem_take hy; simp [this])
     have hpl : ([] ++ more.take j).length <= 2 ^ 38:=by rw [List.length_append,List.length_take]; have := HN.out; have := HMN.out; simp; omega
     obtain ⟨ky,hky⟩ : ∃ ky,keyL ([] ++ more.take j) = ky:=⟨_,rfl⟩
     rw [hky] at hkj hkl hts
     have hil:=Lib.itoa_length_le z (by omega) (by omega)
     have HIL:=Lib.hid hil
     obtain ⟨q,hq⟩ : ∃ q,ky.length = q:=⟨_,rfl⟩
     rw [hky,hq]
     have HQ2:=Lib.hid hq
     rw [hq] at hkj hkl
     have hq46 : q + 21 <= 2 ^ 46:=by omega
     have hca:=sAppInt_any B z (by omega) (by omega) ja jc ky q hq wi hkj hBi hq46 (Lib.TabBelow.on (PTab.up HT.out hK) HBJ.out)
     have HCA:=Lib.hid hca
     clear hca hkj hc hz hgz hzb hkl hpl hky hil hq
     go_wp2_with fail
     refine HCA.out.mono ?_
     clear HCA
     rintro e w3 ⟨v3,rfl,hk3,hb3⟩
     obtain ⟨ka,kc,rfl⟩:=id hk3.form
     obtain ⟨r,hr⟩ : ∃ r,(ky ++ Lib.itoa z).length = r:=⟨_,rfl⟩
     have hrl : r <= 2 ^ 46:=by rw [<- hr,List.length_append,HQ2.out]; have := HIL.out; omega
     have HR:=Lib.hid hr
     rw [hr]
     have hB3 : B <= w3.heap.size:=by have := hb3.size; omega
     have HB3:=Lib.hid (HBJ.out.trans hb3)
     have HK3 : Hid (OwnR 1 5 B (w3.alloc (.cells #[.int .u8 44] 5)) (.slice ka r kc) ((ky ++ Lib.itoa z).map fun b => [Value.int .u8 b.toNat])):=Lib.hid (by rw [<- hr]; exact (hk3.rows).old ((Below.refl _ _).alloc (Nat.le_refl _) _) (Nat.le_refl _))
     have HCL : Hid (∀ (i : Nat) (s : List Value) (j : Nat) (u : Value),([[Value.int .u8 44]] : List (List Value))[i]? = some s -> s[j]? = some u -> (w3.alloc (.cells #[.int .u8 44] 5)).cell? ⟨w3.heap.size,0 + (i * 1 + j),none⟩ = some u):=Lib.hid fun i s j u h1 h2 => by
      have hi0 : i = 0:=by have := (List.getElem?_eq_some_iff.1 h1).1; simp at this; omega
      subst hi0
      cases h1
      have hj0 : j = 0:=by have := (List.getElem?_eq_some_iff.1 h2).1; simp at this; omega
      subst hj0
      cases h2
      exact (Blk.new w3 #[.int .u8 44] 5).at rfl
     have HRO : Hid (RowsOk 1 [[Value.int .u8 44]]):=Lib.hid (RowsOk.one rfl fun u hu => by rw [List.mem_singleton.1 hu]; rfl)
     have HRL : Hid (((ky ++ Lib.itoa z).map fun b => [Value.int .u8 b.toNat]).length = r):=Lib.hid (by rw [List.length_map]; exact hr)
     obtain ⟨RS,hRS⟩ : ∃ RS,((ky ++ Lib.itoa z).map fun b => [Value.int .u8 b.toNat]) = RS:=⟨_,rfl⟩
     rw [hRS] at HK3 HRL
     have HRS:=Lib.hid hRS
     clear hr hk3 hb3 c0 hq46 hRS
     go_wp2_with (at_builtin; refine wpList_append_rows rfl (.tmp 25) (.tmp 26) 60 rfl Tryz.underlying60 infoByteD (by kernel_rfl) (by decide) rfl HK3.out (b:=w3.heap.size) (off:=0) (m:=1) (cap:=1) (ms:=[[.int .u8 44]]) rfl rfl HRO.out HCL.out (by decide) (by rw [HRL.out]; simp [maxLen]; omega) (by rw [HRL.out]; omega) (by simp; omega) ?_; intro g1 cap1 w5 hown5 hg5 hat5)
     have hk5 : KeyO B w5 (.slice (some ⟨g1,0,none⟩) (RS.length + 1) cap1) (keyL ([] ++ more.take (j + 1))):=by
      rw [hts.out]
      refine KeyO.ofRows (n:=0) ?_
      rw [List.map_append (l₁:=ky ++ Lib.itoa z),HRS.out]
      exact hown5
     have hb5 : Below B w w5:=((HB3.out).alloc (by have := HB.out; omega) _).grown hg5 (by simp; omega) (fun r hr => HK3.out.low hr)
     exact ⟨⟨j + 1,by omega,by go_num,hk5,hb5⟩,by simp [intOf]; omega⟩
    ·obtain rfl : j = m:=by omega
     have htk : more.take j = more:=List.take_of_length_le (by rw [HMN.out]; exact Nat.le_refl _)
     rw [htk] at hkj ⊢
     have HKJ:=Lib.hid hkj
     clear hkj htk
     go_wp2_with fail
     exact ⟨⟨k + 1,HKL2.out.1,rfl,by rw [E1.out]; exact HKJ.out,HBJ.out⟩,by have := HKL2.out.2; simp [intOf]; omega⟩
  ·have hk2 : decide ((k : Int) < 2) = true:=decide_eq_true (by omega)
   have hkl2 : k < 2:=by omega
   have HKL2 : Hid (k + 1 <= 2 /\ 2 - (k + 1) < 2 - k):=Lib.hid (by omega)
   have hkw : IntKind.i64.wrap ((k : Int) + 1) = (k : Int) + 1:=IntWalk.i64_in _ (by omega)
   clear hkl2
   have e0 : (([more,l].take k).flatten) = more:=by rw [hkc]; simp
   have e1 : (([more,l].take (k + 1)).flatten) = more ++ l:=by rw [hkc]; simp
   have E1:=Lib.hid e1
   rw [e0] at hko
   obtain ⟨oa,oc,hov⟩:=hko.form
   obtain ⟨q,hq⟩ : ∃ q,(keyL (more : List Int)).length = q:=⟨_,rfl⟩
   rw [hq] at hov
   subst hov
   have HKO:=Lib.hid hko
   clear hko e0 e1 hq
   have hix : ∀ w,(Instr.index 194 (.agg #[.slice ma m mc,.slice la n lc]) (.int .i64 (k : Int))).run Tryz.prog w = .ok (.slice la n lc) w:=fun _ => by rw [hkc]; kernel_rfl
   clear hkc hk
   go_wp2_with fail
   go_loopw [5,18] (fun ov iv wr => ∃ (j : Nat),j <= n /\ iv = .int .i64 j /\ KeyO B wr ov (keyL (more ++ l.take j)) /\ Below B w wr) (fun _ iv _ => n - (intOf iv).toNat)
   case atStart => exact ⟨0,Nat.zero_le _,rfl,by rw [List.take_zero,List.append_nil]; exact HKO.out,HBW.out⟩
   case round =>
    obtain ⟨j,hj,rfl,hkj,hbj⟩:=hrel
    obtain ⟨wi,rfl⟩ : ∃ wi : World,wi = wr:=⟨_,rfl⟩
    obtain ⟨ja,jc,rfl⟩:=id hkj.form
    have HBJ:=Lib.hid hbj
    have hBi : B <= wi.heap.size:=by have := hbj.size; have := HB.out; omega
    clear hbj
    by_cases hlt : j < n
    ·obtain ⟨b,o,rfl,hbK,hc⟩:=HL.out j hlt
     have hjl : j < l.length:=by rw [HN.out]; exact hlt
     obtain ⟨z,hz⟩ : ∃ z,l[j]?.getD 0 = z:=⟨_,rfl⟩
     have hgz : l[j]? = some z:=by rw [<- hz,List.getElem?_eq_getElem hjl]; rfl
     have c0 : wi.cell? ⟨b,o + j,none⟩ = some (.int .i64 z):=by rw [<- hz]; exact (HBJ.out.cell (p:=⟨b,o + j,none⟩) (Nat.lt_of_lt_of_le hbK hK)).trans (hc j hlt)
     have hzb:=HBD.out z (by have := List.mem_of_getElem? hgz; simp [this])
     have hts : Hid (keyL (more ++ l.take (j + 1)) = keyL (more ++ l.take j) ++ Lib.itoa z ++ [44]):=Lib.hid (by rw [take_snoc hgz,<- List.append_assoc,keyL_snoc])
     have hkl:=keyL_len (more ++ l.take j) fun y hy => HBD.out y (by
      rcases List.mem_append.1 hy with hy | hy
      ·simp at hy ⊢; try exact .inl hy
      ·have := List.mem_of_mem_take hy; simp [this])
     have hpl : (more ++ l.take j).length <= 2 ^ 38:=by rw [List.length_append,List.length_take]; have := HN.out; have := HMN.out; simp; omega
     obtain ⟨ky,hky⟩ : ∃ ky,keyL (more ++ l.take j) = ky:=⟨_,rfl⟩
     rw [hky] at hkj hkl hts
     have hil:=Lib.itoa_length_le z (by omega) (by omega)
     have HIL:=Lib.hid hil
     obtain ⟨q,hq⟩ : ∃ q,ky.length = q:=⟨_,rfl⟩
     rw [hky,hq]
     have HQ2:=Lib.hid hq
     rw [hq] at hkj hkl
     have hq46 : q + 21 <= 2 ^ 46:=by omega
     have hca:=sAppInt_any B z (by omega) (by omega) ja jc ky q hq wi hkj hBi hq46 (Lib.TabBelow.on (PTab.up HT.out hK) HBJ.out)
     have HCA:=Lib.hid hca
     clear hca hkj hc hz hgz hzb hkl hpl hky hil hq
     go_wp2_with fail
     refine HCA.out.mono ?_
     clear HCA
     rintro e w3 ⟨v3,rfl,hk3,hb3⟩
     obtain ⟨ka,kc,rfl⟩:=id hk3.form
     obtain ⟨r,hr⟩ : ∃ r,(ky ++ Lib.itoa z).length = r:=⟨_,rfl⟩
     have hrl : r <= 2 ^ 46:=by rw [<- hr,List.length_append,HQ2.out]; have := HIL.out; omega
     have HR:=Lib.hid hr
     rw [hr]
     have hB3 : B <= w3.heap.size:=by have := hb3.size; omega
     have HB3:=Lib.hid (HBJ.out.trans hb3)
     have HK3 : Hid (OwnR 1 5 B (w3.alloc (.cells #[.int .u8 44] 5)) (.slice ka r kc) ((ky ++ Lib.itoa z).map fun b => [Value.int .u8 b.toNat])):=Lib.hid (by rw [<- hr]; exact (hk3.rows).old ((Below.refl _ _).alloc (Nat.le_refl _) _) (Nat.le_refl _))
     have HCL : Hid (∀ (i : Nat) (s : List Value) (j : Nat) (u : Value),([[Value.int .u8 44]] : List (List Value))[i]? = some s -> s[j]? = some u -> (w3.alloc (.cells #[.int .u8 44] 5)).cell? ⟨w3.heap.size,0 + (i * 1 + j),none⟩ = some u):=Lib.hid fun i s j u h1 h2 => by
      have hi0 : i = 0:=by have := (List.getElem?_eq_some_iff.1 h1).1; simp at this; omega
      subst hi0
      cases h1
      have hj0 : j = 0:=by have := (List.getElem?_eq_some_iff.1 h2).1; simp at this; omega
      subst hj0
      cases h2
      exact (Blk.new w3 #[.int .u8 44] 5).at rfl
     have HRO : Hid (RowsOk 1 [[Value.int .u8 44]]):=Lib.hid (RowsOk.one rfl fun u hu => by rw [List.mem_singleton.1 hu]; rfl)
     have HRL : Hid (((ky ++ Lib.itoa z).map fun b => [Value.int .u8 b.toNat]).length = r):=Lib.hid (by rw [List.length_map]; exact hr)
     obtain ⟨RS,hRS⟩ : ∃ RS,((ky ++ Lib.itoa z).map fun b => [Value.int .u8 b.toNat]) = RS:=⟨_,rfl⟩
     rw [hRS] at HK3 HRL
     have HRS:=Lib.hid hRS
     clear hr hk3 hb3 c0 hq46 hRS
     go_wp2_with (at_builtin; refine wpList_append_rows rfl (.tmp 25) (.tmp 26) 60 rfl Tryz.underlying60 infoByteD (by kernel_rfl) (by decide) rfl HK3.out (b:=w3.heap.size) (off:=0) (m:=1) (cap:=1) (ms:=[[.int .u8 44]]) rfl rfl HRO.out HCL.out (by decide) (by rw [HRL.out]; simp [maxLen]; omega) (by rw [HRL.out]; omega) (by simp; omega) ?_; intro g1 cap1 w5 hown5 hg5 hat5)
     have hk5 : KeyO B w5 (.slice (some ⟨g1,0,none⟩) (RS.length + 1) cap1) (keyL (more ++ l.take (j + 1))):=by
      rw [hts.out]
      refine KeyO.ofRows (n:=0) ?_
      rw [List.map_append (l₁:=ky ++ Lib.itoa z),HRS.out]
      exact hown5
     have hb5 : Below B w w5:=((HB3.out).alloc (by have := HB.out; omega) _).grown hg5 (by simp; omega) (fun r hr => HK3.out.low hr)
     exact ⟨⟨j + 1,by omega,by go_num,hk5,hb5⟩,by simp [intOf]; omega⟩
    ·obtain rfl : j = n:=by omega
     have htk : l.take j = l:=List.take_of_length_le (by rw [HN.out]; exact Nat.le_refl _)
     rw [htk] at hkj ⊢
     have HKJ:=Lib.hid hkj
     clear hkj htk
     go_wp2_with fail
     exact ⟨⟨k + 1,HKL2.out.1,rfl,by rw [E1.out]; exact HKJ.out,HBJ.out⟩,by have := HKL2.out.2; simp [intOf]; omega⟩
  ·have hk2 : decide ((k : Int) < 2) = false:=decide_eq_false (by omega)
   have e0 : (([more,l].take k).flatten) = more ++ l:=by rw [hkc]; simp
   rw [e0] at hko
   have HKO:=hko.str
   obtain ⟨oa,oc,hov⟩:=hko.form
   obtain ⟨q,hq⟩ : ∃ q,(keyL (more ++ l)).length = q:=⟨_,rfl⟩
   rw [hq] at hov
   subst hov
   clear hko e0 hq hkc hk
   go_wp2_with fail
   go_ret
   exact ⟨rfl,HBW.out⟩
theorem infoIntD : (Tryz.prog.info? 3).map (fun i => (i.zero,i.size,i.bytes)) = some (some (.int .i64 0),1,8):=by kernel_rfl
def OwnI (base : Nat) (w : World) (v : Value) (zs : List Int) : Prop:=w.ownsRow base 3 1 v zs.length (zs.map (Value.int .i64))
theorem OwnI.form {base : Nat} {w : World} {v : Value} {zs : List Int} (h : OwnI base w v zs) : ∃ a c,v = .slice a zs.length c /\ zs.length <= c /\ c <= maxLen:=by
 rcases h.2 with ⟨rfl,h0⟩ | ⟨g,cap,cur,rfl,_,_,h1,h2,_⟩
 ·exact ⟨none,0,by rw [h0],by omega,by simp [maxLen]⟩
 ·exact ⟨_,cap,rfl,h1,h2⟩
theorem OwnI.alloc {base : Nat} {w : World} {v : Value} {zs : List Int} (h : OwnI base w v zs) (o : Obj) : OwnI base (w.alloc o) v zs:=World.ownsRow.alloc h o
theorem OwnI.below {B base : Nat} {w w' : World} {v : Value} {zs : List Int} (h : OwnI base w v zs) (hb : Below B w w') (hB : w.heap.size <= B) : OwnI base w' v zs:=by
 refine ⟨h.1,?_⟩
 rcases h.2 with hn | ⟨g,cap,cur,rfl,hb1,hg,rest⟩
 ·exact .inl hn
 ·have := (Array.getElem?_eq_some_iff.1 hg).1
  exact .inr ⟨g,cap,cur,rfl,hb1,(hb.block g (by omega)).trans hg,rest⟩
theorem OwnI.kept {base : Nat} {w w' : World} {v : Value} {zs : List Int} {row : Option Nat} (h : OwnI base w v zs) (hg : w.grownBy w' row) (hne : v.ownBlock = none \/ v.ownBlock ≠ row) : OwnI base w' v zs:=World.ownsRow.kept h hg hne
theorem OwnI.lt {base : Nat} {W : World} {v : Value} {zs : List Int} (h : OwnI base W v zs) {r : Nat} (hr : v.ownBlock = some r) : r < W.heap.size:=by
 obtain ⟨o,ho,_⟩:=(ownsRow_cells h hr).2
 exact (Array.getElem?_eq_some_iff.1 ho).1
theorem OwnI.one {base : Nat} (w : World) (z : Int) (hb : base <= w.heap.size) : OwnI base (w.alloc (.cells #[.int .i64 z] 3)) (.slice (some ⟨w.heap.size,0,none⟩) 1 1) [z] :=
 ⟨rfl,.inr ⟨w.heap.size,1,#[.int .i64 z],rfl,hb,World.alloc_heap_new w _,Nat.le_refl _,by simp [maxLen],rfl,rfl⟩⟩
theorem OwnI.at {base : Nat} {w : World} {zs : List Int} {g n cap : Nat} (h : OwnI base w (.slice (some ⟨g,0,none⟩) n cap) zs) (i : Nat) (hi : i < zs.length) : w.cell? ⟨g,i,none⟩ = some (.int .i64 (zs[i]?.getD 0)):=by
 have := World.ownsRow.cells h (g:=g) rfl i (.int .i64 (zs[i]?.getD 0)) (by simp [hi])
 rw [Addr.add] at this
 by_cases h0 : i = 0
 ·subst h0; simpa using this
 ·simpa [h0] using this
theorem wpList_append_I {w : World} {ops : Array Oper} {rest : List Oper} {o : Oper} {a : Act} {Q : Exit -> Act -> World -> Prop} (hgd : o.guard = none) (s x : Operand)
  (ho : o.op = .call { callee:=.builtin .append,args:=#[s,x],argTypes:=#[56,56] })
  {base : Nat} {v : Value} {zs : List Int} {B c : Nat} {z : Int} (hs : a.eval s = v) (hx : a.eval x = .slice (some ⟨B,0,none⟩) 1 c) (hown : OwnI base w v zs) (hb : w.cell? ⟨B,0,none⟩ = some (.int .i64 z))
  (h63 : zs.length + 1 <= 2 ^ 40) (hbase : base <= w.heap.size)
  (h : ∀ g cap w',OwnI base w' (.slice (some ⟨g,0,none⟩) (zs.length + 1) cap) (zs ++ [z]) -> w.grownBy w' v.ownBlock -> (v.ownBlock = some g \/ g = w.heap.size) -> wpList Tryz.prog ops Q rest (a.put o.dst (.slice (some ⟨g,0,none⟩) (zs.length + 1) cap)) w') : wpList Tryz.prog ops Q (o :: rest) a w:=by
 obtain ⟨i0,hi,hz0,hz1,hz2⟩:=info_parts infoIntD
 refine wpList_append_lies w hgd s x 56 ho base 3 i0 _ 1 8 Tryz.underlying56 hi hz0 hz1 hz2 rfl (by decide) v zs.length (zs.map (Value.int .i64)) hs hown ⟨B,0,none⟩ 1 c [.int .i64 z] hx rfl
  (fun j u hj => by
   match j,hj with
   | 0,hj =>
    simp only [List.getElem?_cons_zero,Option.some.injEq] at hj
    subst hj
    simpa [Addr.add] using hb)
  (by simp [Value.oneCell']) (by decide) (by simp [maxLen]; omega) (by omega) hbase _ rfl fun g cap w' h1 h2 h3 h4 => h g cap w' ?_ h2 h3
 unfold OwnI
 rw [List.length_append,List.map_append]
 exact h1
theorem rowsT_ne {w : World} {b b' e e' z z' n n' : Nat} {v v' : Value} {xs xs' : List Value} (h : w.ownsRow b e z v n xs) (h' : w.ownsRow b' e' z' v' n' xs') (hne : e ≠ e') : v.ownBlock = none \/ v.ownBlock ≠ v'.ownBlock:=by
 rcases h.2 with ⟨rfl,_⟩ | ⟨g,cap,cur,rfl,_,hg,_⟩
 ·exact .inl rfl
 ·rcases h'.2 with ⟨rfl,_⟩ | ⟨g',cap',cur',rfl,_,hg',_⟩
  ·exact .inr (by simp [Value.ownBlock])
  ·refine .inr fun he => ?_
   simp [Value.ownBlock] at he
   subst he
   rw [hg] at hg'; cases hg'; exact hne rfl
end Go.Proofs.YtlidpghnlloinaaGreatDoor
