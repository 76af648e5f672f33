/- Part 3 of the proof of asmCommentsDoNotMatter_holds: texts Ec, W2, Ed, Nu, FlM, FlN, FlP, Ln, W3, W4, As, W5. -/
import Derived.Test.YteomcjpigoaioaaGreatDoorQ6x2
import Derived.Lib.ItoaMem
import Derived.Lib.ParseIntBCases
import Derived.Lib.AppendStr
import Derived.Laws.IdiomStrings
import Derived.WideLaws
set_option linter.unusedVariables false
set_option linter.unusedSimpArgs false
set_option linter.unnecessarySimpa false
namespace Go.Proofs.YteomcjpigoaioaaGreatDoor
open Go Go.FL Go.RowKit
theorem index_one (l : List UInt8) (c : UInt8) : Lib.index l [c] = Lib.indexByte l c := by
  induction l with
  | nil => rfl
  | cons b l ih =>
    simp only [Lib.index, Lib.indexByte, ih, List.isPrefixOf]
    by_cases h : b = c
    · simp [h]
    · have h' : ¬ c = b := fun e => h e.symm
      simp [h, h']
theorem index_fnd (l : List UInt8) (c : UInt8) : Lib.index l [c] = fndI (fnd c l) := by rw [index_one, indexByte_fnd]
theorem bytes_ext (l : List UInt8) (a b : Nat) : (⟨l.toArray⟩ : ByteArray).extract a b = ⟨((l.drop a).take (b - a)).toArray⟩ := by
  apply ByteArray.ext
  simp [ByteArray.data_extract]
theorem splitB_lib (c : UInt8) (k : Nat) (l : List UInt8) (h : l.count c = k) : Lib.splitB ⟨#[c]⟩ 0 k ⟨l.toArray⟩ = (splitB (c.toNat : Int) l).map fun x => ⟨x.toArray⟩ := by
  induction k generalizing l with
  | zero =>
    rw [splitB_fnd]
    have := count_fnd c l
    cases hf : fnd c l with
    | none => simp [Lib.splitB]
    | some i => rw [hf] at this; simp only at this; omega
  | succ k ih =>
    have hc := count_fnd c l
    rw [splitB_fnd]
    cases hf : fnd c l with
    | none => rw [hf] at hc; simp only at hc; omega
    | some i =>
      rw [hf] at hc
      simp only at hc
      have hi : Lib.indexB ⟨l.toArray⟩ ⟨#[c]⟩ = (i : Int) := by
        show Lib.index l [c] = _
        rw [index_fnd, hf]; rfl
      have h1 : ¬ (i : Int) = -1 := by omega
      simp only [Lib.splitB, hi, beq_iff_eq, h1, if_false, List.map_cons]
      have e1 : (⟨l.toArray⟩ : ByteArray).extract 0 ((i : Int).toNat + 0) = ⟨(l.take i).toArray⟩ := by rw [bytes_ext]; simp
      have e2 : (⟨l.toArray⟩ : ByteArray).extract ((i : Int).toNat + (⟨#[c]⟩ : ByteArray).size) (⟨l.toArray⟩ : ByteArray).size = ⟨(l.drop (i + 1)).toArray⟩ := by
        rw [bytes_ext]
        have : (⟨#[c]⟩ : ByteArray).size = 1 := rfl
        rw [this]
        have h2 : (⟨l.toArray⟩ : ByteArray).size = l.length := by simp [Lib.size_eq]
        rw [h2, List.take_of_length_le (by simp)]
        simp
      rw [e1, e2, ih _ (by omega)]
theorem split_count (c : UInt8) (l : List UInt8) : (splitB (c.toNat : Int) l).length = l.count c + 1 := by
  generalize hn : l.length = n
  induction n using Nat.strongRecOn generalizing l with
  | ind n ih =>
    rw [splitB_fnd, count_fnd]
    cases hf : fnd c l with
    | none => rfl
    | some i =>
      simp only [List.length_cons]
      rw [ih (l.drop (i + 1)).length (by have := fnd_lt hf; simp; omega) _ rfl]
section
variable (D : Nat) (L : Hl) (s : World)
theorem cells_strs {s' : World} {A : Nat} {l : List (List UInt8)} {ty : TypeId} {fz : Nat × Nat} (h : s'.heap[A]? = some (.cells ((l.map fun x => (⟨x.toArray⟩ : ByteArray)).map Value.string).toArray ty fz)) (hu : ∀ x ∈ l, x.length ≤ 9223372036854775807) (hn : l.length ≤ 9223372036854775807) : Strs s' (some ⟨A, 0, none⟩) l.length l.length l := by
  refine ⟨rfl, Nat.le_refl _, hn, fun i x hi => ⟨A, 0, [St x], rfl, ?_, rfl, rfl, hu x (List.mem_of_getElem? hi)⟩⟩
  refine CellsAt.one ?_
  simp [World.cell?, h, hi]
theorem genSplit_ac (l : List UInt8) (c : UInt8) (hl : l.length ≤ 4000000) : AC Tryz.prog D 99 [St l, St [c], .int .i64 0, .int .i64 (-1)] L s fun v L' s' => L = L' ∧ ∃ A n c', v = .slice A n c' ∧ Strs s' A n c' (splitB (c.toNat : Int) l) :=
  AC.of_calls fnok_split fun ho => by
    have hsz : (⟨l.toArray⟩ : ByteArray).size = l.length := by simp [Lib.size_eq]
    have h1 : (⟨#[c]⟩ : ByteArray).size = 1 := rfl
    have hcnt : Lib.countB ⟨l.toArray⟩ ⟨#[c]⟩ = l.count c := Lib.count_one c l
    have hcl : l.count c ≤ l.length := List.count_le_length
    refine (Any.strings_genSplit_core Tryz.lays221 (by kernel_rfl) ⟨l.toArray⟩ ⟨#[c]⟩ 0 (-1) (l.count c + 1) (fill L s) (by omega) (by omega) (by omega)
      (fun x cs hx => ?_) ?_ (by decide) (by decide) (by rw [if_pos (by decide), hcnt, hsz]; omega)).mono ?_
    · refine (Any.strings_Index_one { Tryz.lays221 with } x c _).mono fun e w' ⟨he, hw⟩ => ⟨?_, hw⟩
      rw [he]
      show _ = Ending.returned (.int .i64 (Lib.index x.data.toList [c]))
      rw [index_one]
    · refine (Any.strings_Count_one { Tryz.lays221 with } ⟨l.toArray⟩ c _).mono fun e w' ⟨he, hw⟩ => ⟨?_, hw⟩
      rw [he, hcnt]
      rfl
    · rintro e w' ⟨he, hw⟩
      rw [Nat.add_sub_cancel, splitB_lib c _ l rfl] at he hw
      have hlen := split_count c l
      refine ⟨_, he, by rw [hw]; exact (Below.refl _ _).alloc (Nat.le_refl _) _, fun s' _ _ hnew => ⟨rfl, _, _, _, rfl, ?_⟩⟩
      have hs' := hnew (fill L s).heap.size (by rw [fill_size]; exact Nat.le_refl _)
      rw [hw, heap_alloc_new] at hs'
      have e2 : Lib.cellsOf ((splitB (c.toNat : Int) l).map fun x => (⟨x.toArray⟩ : ByteArray)) (l.count c + 1) = (((splitB (c.toNat : Int) l).map fun x => (⟨x.toArray⟩ : ByteArray)).map Value.string).toArray := by
        have := Lib.cellsOf_full ((splitB (c.toNat : Int) l).map fun x => (⟨x.toArray⟩ : ByteArray))
        rw [List.length_map, hlen] at this
        exact this
      rw [e2] at hs'
      rw [← hlen, List.length_map]
      exact cells_strs hs' (fun x hx => by have := splitF_short (c.toNat : Int) [] l x hx; simp at this; omega) (by omega)
def badC (c : UInt8) : Bool := !(letB c || digB c)
def badR (x : Nat) : Bool := decide (((x : Int) < 97 ∨ 122 < (x : Int)) ∧ ((x : Int) < 48 ∨ 57 < (x : Int)))
theorem badR_badC (c : UInt8) : badR c.toNat = badC c := by
  simp only [badR, badC, letB, digB]
  rw [Bool.eq_iff_iff]
  simp only [decide_eq_true_eq, Bool.not_eq_true', Bool.or_eq_false_iff, Bool.and_eq_false_iff, decide_eq_false_iff_not]
  omega
theorem ba_get {l : List UInt8} {pos : Nat} (h : pos < (⟨l.toArray⟩ : ByteArray).size) : ∃ c, l[pos]? = some c ∧ (⟨l.toArray⟩ : ByteArray)[pos]'h = c := by
  have h' : pos < l.length := by simpa [Lib.size_eq] using h
  exact ⟨l[pos], List.getElem?_eq_getElem h', by simp [ByteArray.getElem_eq_getElem_data]⟩
theorem idx_any (l : List UInt8) (f pos : Nat) (h : l.length ≤ pos + f) : decide (0 ≤ Lib.idxFuncFrom badR true ⟨l.toArray⟩ f pos) = (l.drop pos).any badC := by
  have hsz : (⟨l.toArray⟩ : ByteArray).size = l.length := by simp [Lib.size_eq]
  induction f generalizing pos with
  | zero => rw [List.drop_of_length_le (by omega)]; rfl
  | succ f ih =>
    by_cases hp : pos < (⟨l.toArray⟩ : ByteArray).size
    · obtain ⟨c, hc, hg⟩ := ba_get hp
      have hd : l.drop pos = c :: l.drop (pos + 1) := by
        obtain ⟨h1, h2⟩ := List.getElem?_eq_some_iff.1 hc
        rw [List.drop_eq_getElem_cons h1, h2]
      rw [hd, List.any_cons]
      by_cases ha : c.toNat < 128
      · have e := decode_ascii ⟨l.toArray⟩ pos hp (by rw [hg]; exact ha)
        simp only [Lib.idxFuncFrom, hp, if_true, e, hg, badR_badC]
        cases hb : badC c with
        | true => simp
        | false => simpa using ih (pos + 1) (by omega)
      · have e := (decode_high ⟨l.toArray⟩ pos hp (by rw [hg]; omega)).1
        have hb : badC c = true := by rw [← badR_badC]; simp only [badR, decide_eq_true_eq]; omega
        have hr : badR (Utf8.decode ⟨l.toArray⟩ pos).1 = true := by simp only [badR, decide_eq_true_eq]; omega
        simp only [Lib.idxFuncFrom, hp, if_true, hr, hb]
        simp
    · rw [Lib.idxFuncFrom_end _ _ _ _ _ hp, List.drop_of_length_le (by omega)]; rfl
theorem enters_name : ∀ args w, (callFunc 90 args).run Tryz.prog w = .ok (.enter 90 args) w := enters_of Tryz.func90 (by kernel_rfl) rfl
theorem enters_blank : ∀ args w, (callFunc 119 args).run Tryz.prog w = .ok (.enter 119 args) w := enters_of Tryz.func119 (by kernel_rfl) rfl
theorem contains_ac (l : List UInt8) : AC Tryz.prog D 89 [St l, .func (.func 90) #[] #[]] L s fun v L' _ => v = .bool (l.any badC) ∧ L = L' :=
  AC.of_calls fnok_contains fun _ => by
    refine (Any.strings_ContainsFunc_grows Tryz.laysGw17 90 #[] enters_name badR ⟨l.toArray⟩ (fill L s) (fun W x _ _ => ?_)).mono ?_
    · exact calls_of_AC (args := [.int .i32 (x : Int)]) fun D => isName1_ac D [] W x
    · rintro e w' ⟨he, hb⟩
      refine ⟨_, he, hb, fun s' _ _ _ => ⟨?_, rfl⟩⟩
      have := idx_any l (⟨l.toArray⟩ : ByteArray).size 0 (by simp [Lib.size_eq])
      rw [List.drop_zero] at this
      rw [← this]; rfl
def fldF : List UInt8 → List UInt8 → List (List UInt8)
  | cur, [] => if cur = [] then [] else [cur]
  | cur, x :: r => if x = 32 then (if cur = [] then fldF [] r else cur :: fldF [] r) else fldF (cur ++ [x]) r
def fldB (l : List UInt8) : List (List UInt8) := (splitB 32 l).filter fun x => decide (x ≠ [])
theorem fld_filter (cur l : List UInt8) : (splitF 32 cur l).filter (fun x => decide (x ≠ [])) = fldF cur l := by
  induction l generalizing cur with
  | nil => by_cases h : cur = [] <;> simp [splitF, fldF, h]
  | cons x l ih =>
    have hx : ((x.toNat : Int) = 32) ↔ x = 32 := (u8_eq (c := 32)).symm
    by_cases h : x = 32
    · by_cases hc : cur = [] <;> simp [splitF, fldF, h, hc, ← ih]
    · have h' : ¬ (x.toNat : Int) = 32 := fun e => h (hx.1 e)
      simp only [splitF, fldF, h, h', if_false, ih]
theorem fldF_run (cur m r : List UInt8) (h : ∀ x ∈ m, x ≠ 32) : fldF cur (m ++ r) = fldF (cur ++ m) r := by
  induction m generalizing cur with
  | nil => simp
  | cons x m ih =>
    have hx : x ≠ 32 := h x (List.mem_cons_self ..)
    simp only [List.cons_append, fldF, hx, if_false]
    rw [ih _ (fun y hy => h y (List.mem_cons_of_mem _ hy))]
    simp
theorem high_run (l : List UInt8) (pos : Nat) (hp : pos < l.length) (c : UInt8) (hc : l[pos]? = some c) (ha : ¬ c.toNat < 128) :
    ∃ K, (Utf8.decode ⟨l.toArray⟩ pos).2 = K ∧ 1 ≤ K ∧ pos + K ≤ l.length ∧ ∀ x ∈ (l.drop pos).take K, x ≠ 32 := by
  have hsz : (⟨l.toArray⟩ : ByteArray).size = l.length := by simp [Lib.size_eq]
  have g : ∀ i, (⟨l.toArray⟩ : ByteArray).get! i = l.getD i 0 := by
    intro i
    show (l.toArray)[i]! = _
    simp [List.getD_eq_getElem?_getD]
    rfl
  have hd := Lib.decode_at ⟨l.toArray⟩ pos
  rw [hsz, g, g, g, g] at hd
  have h0 : l.getD pos 0 = c := by simp [List.getD_eq_getElem?_getD, hc]
  rw [h0] at hd
  have key : ∀ (K : Nat), 1 ≤ K → K ≤ 4 → pos + K ≤ l.length → (∀ j, 1 ≤ j → j < K → 128 ≤ (l.getD (pos + j) 0).toNat) → ∀ x ∈ (l.drop pos).take K, x ≠ 32 := by
    intro K h1 h4 hK hall x hx e
    obtain ⟨j, hj, hxj⟩ := List.mem_iff_getElem.1 hx
    have hjK : j < K := by simp at hj; omega
    have hv : l.getD (pos + j) 0 = x := by
      rw [← hxj]; simp [List.getD_eq_getElem?_getD]
      rw [List.getElem?_eq_getElem (by omega)]; rfl
    by_cases hj0 : j = 0
    · subst hj0; simp only [Nat.add_zero] at hv; rw [h0] at hv; subst e; subst hv; exact ha (by decide)
    · have := hall j (by omega) hjK
      rw [hv, e] at this
      exact absurd this (by decide)
  refine ⟨_, rfl, ?_⟩
  rw [hd]
  unfold Lib.decodeN
  rw [if_neg ha]
  split
  · rename_i h2
    split
    · refine ⟨by simp only; omega, by simp only; omega, key 2 (by omega) (by omega) (by omega) (fun j h1 hj => ?_)⟩
      obtain rfl : j = 1 := by omega
      omega
    · exact ⟨by simp only; omega, by simp only; omega, key 1 (by omega) (by omega) (by omega) (fun j h1 hj => by omega)⟩
  · split
    · rename_i h2 h3
      split
      · refine ⟨by simp only; omega, by simp only; omega, key 3 (by omega) (by omega) (by omega) (fun j h1 hj => ?_)⟩
        rcases (by omega : j = 1 ∨ j = 2) with rfl | rfl <;> omega
      · exact ⟨by simp only; omega, by simp only; omega, key 1 (by omega) (by omega) (by omega) (fun j h1 hj => by omega)⟩
    · split
      · rename_i h2 h3 h4
        split
        · refine ⟨by simp only; omega, by simp only; omega, key 4 (by omega) (by omega) (by omega) (fun j h1 hj => ?_)⟩
          rcases (by omega : j = 1 ∨ j = 2 ∨ j = 3) with rfl | rfl | rfl <;> omega
        · exact ⟨by simp only; omega, by simp only; omega, key 1 (by omega) (by omega) (by omega) (fun j h1 hj => by omega)⟩
      · exact ⟨by simp only; omega, by simp only; omega, key 1 (by omega) (by omega) (by omega) (fun j h1 hj => by omega)⟩
def blkR (x : Nat) : Bool := decide ((x : Int) = 32)
def pieceL (l : List UInt8) (x : Nat × Nat) : List UInt8 := (l.drop x.1).take (x.2 - x.1)
def curL (l : List UInt8) (pos : Nat) : Option Nat → List UInt8
  | none => []
  | some a => (l.drop a).take (pos - a)
theorem take_more (l : List UInt8) {a pos K : Nat} (h : a ≤ pos) : (l.drop a).take (pos + K - a) = (l.drop a).take (pos - a) ++ (l.drop pos).take K := by
  have : pos + K - a = (pos - a) + K := by omega
  rw [this, List.take_add, List.drop_drop]
  have e : a + (pos - a) = pos := by omega
  rw [e]
theorem spans_end (l : List UInt8) (pos : Nat) (st : Option Nat) (acc : List (Nat × Nat)) (h : l.length ≤ pos) (hst : ∀ a, st = some a → a < pos ∧ pos ≤ l.length) :
    (Lib.closeSpans ⟨l.toArray⟩ (acc, st)).map (pieceL l) = acc.map (pieceL l) ++ fldF (curL l pos st) (l.drop pos) := by
  have hsz : (⟨l.toArray⟩ : ByteArray).size = l.length := by simp [Lib.size_eq]
  rw [List.drop_of_length_le h]
  cases st with
  | none => simp [Lib.closeSpans, curL, fldF]
  | some a =>
    obtain ⟨h1, h2⟩ := hst a rfl
    have hp : pos = l.length := by omega
    subst hp
    have hne : (l.drop a).take (l.length - a) ≠ [] := by
      intro e
      have := congrArg List.length e
      simp at this; omega
    simp [Lib.closeSpans, curL, fldF, hne, pieceL, hsz]
theorem spans_fld (l : List UInt8) (f pos : Nat) (st : Option Nat) (acc : List (Nat × Nat)) (h : l.length ≤ pos + f) (hst : ∀ a, st = some a → a < pos ∧ pos ≤ l.length) :
    (Lib.closeSpans ⟨l.toArray⟩ (Lib.spansFromP blkR ⟨l.toArray⟩ f pos st acc)).map (pieceL l) = acc.map (pieceL l) ++ fldF (curL l pos st) (l.drop pos) := by
  have hsz : (⟨l.toArray⟩ : ByteArray).size = l.length := by simp [Lib.size_eq]
  induction f generalizing pos st acc with
  | zero => exact spans_end l pos st acc (by omega) hst
  | succ f ih =>
    by_cases hp : pos < (⟨l.toArray⟩ : ByteArray).size
    · obtain ⟨c, hc, hg⟩ := ba_get hp
      have hpl : pos < l.length := by omega
      have hd : l.drop pos = c :: l.drop (pos + 1) := by
        obtain ⟨h1, h2⟩ := List.getElem?_eq_some_iff.1 hc
        rw [List.drop_eq_getElem_cons h1, h2]
      -- a piece without blanks goes on
      have go : ∀ K, (Utf8.decode ⟨l.toArray⟩ pos).2 = K → blkR (Utf8.decode ⟨l.toArray⟩ pos).1 = false → 1 ≤ K → pos + K ≤ l.length → (∀ x ∈ (l.drop pos).take K, x ≠ 32) →
          (Lib.closeSpans ⟨l.toArray⟩ (Lib.spansFromP blkR ⟨l.toArray⟩ (f + 1) pos st acc)).map (pieceL l) = acc.map (pieceL l) ++ fldF (curL l pos st) (l.drop pos) := by
        intro K hK hb h1 h2 hall
        have hrun : fldF (curL l pos st) (l.drop pos) = fldF (curL l pos st ++ (l.drop pos).take K) (l.drop (pos + K)) := by
          conv => lhs; rw [← List.take_append_drop K (l.drop pos), List.drop_drop]
          exact fldF_run _ _ _ hall
        rw [hrun]
        simp only [Lib.spansFromP, hp, if_true, hb, hK, Bool.false_eq_true, if_false]
        cases st with
        | none =>
          simp only
          rw [ih (pos + K) (some pos) acc (by omega) (fun a ha => by injection ha with ha; omega)]
          simp only [curL, List.nil_append]
          congr 3
          omega
        | some a =>
          obtain ⟨ha1, ha2⟩ := hst a rfl
          simp only
          rw [ih (pos + K) (some a) acc (by omega) (fun a' ha => by injection ha with ha; omega)]
          simp only [curL]
          rw [take_more l (by omega)]
      by_cases ha : c.toNat < 128
      · have e := decode_ascii ⟨l.toArray⟩ pos hp (by rw [hg]; exact ha)
        rw [hg] at e
        by_cases h32 : c = 32
        · have hb : blkR (Utf8.decode ⟨l.toArray⟩ pos).1 = true := by rw [e, h32]; rfl
          rw [hd]
          simp only [Lib.spansFromP, hp, if_true, hb]
          cases st with
          | none =>
            simp only [e]
            rw [ih (pos + 1) none acc (by omega) (fun a ha => by cases ha)]
            simp [curL, fldF, h32]
          | some a =>
            obtain ⟨ha1, ha2⟩ := hst a rfl
            have hne : (l.drop a).take (pos - a) ≠ [] := by
              intro e
              have := congrArg List.length e
              simp at this; omega
            simp only [e]
            rw [ih (pos + 1) none _ (by omega) (fun a ha => by cases ha)]
            simp [curL, fldF, h32, hne, pieceL]
        · refine go 1 (by rw [e]) ?_ (by omega) (by omega) ?_
          · rw [e]
            simp only [blkR, decide_eq_false_iff_not]
            exact fun h => h32 ((u8_eq (c := 32)).2 h)
          · rw [hd]; simpa using h32
      · obtain ⟨K, hK, h1, h2, h3⟩ := high_run l pos hpl c hc ha
        refine go K hK ?_ h1 h2 h3
        have := (decode_high ⟨l.toArray⟩ pos hp (by rw [hg]; omega)).1
        simp only [blkR, decide_eq_false_iff_not]
        omega
    · rw [Lib.spansFromP_end _ _ _ _ _ _ hp]
      exact spans_end l pos st acc (by omega) hst
theorem goFields (l : List UInt8) : Lib.goFieldsP blkR ⟨l.toArray⟩ = (fldB l).map fun x => ⟨x.toArray⟩ := by
  have hsz : (⟨l.toArray⟩ : ByteArray).size = l.length := by simp [Lib.size_eq]
  have h := spans_fld l (⟨l.toArray⟩ : ByteArray).size 0 none [] (by omega) (fun a ha => by cases ha)
  simp only [List.map_nil, List.nil_append, curL, List.drop_zero] at h
  rw [← fld_filter] at h
  show (Lib.closeSpans ⟨l.toArray⟩ (Lib.spansFromP blkR ⟨l.toArray⟩ (⟨l.toArray⟩ : ByteArray).size 0 none [])).map (fun x => (⟨l.toArray⟩ : ByteArray).extract x.1 x.2) = _
  rw [fldB, splitB, ← h, List.map_map]
  congr 1
  funext x
  simp only [Function.comp, bytes_ext, pieceL]
theorem fld_mem {l x : List UInt8} (h : x ∈ fldB l) : x ≠ [] ∧ x.length ≤ l.length := by
  obtain ⟨h1, h2⟩ := List.mem_filter.1 h
  have := splitF_short 32 [] l x h1
  exact ⟨by simpa using h2, by simpa using this⟩
theorem fld_len (l : List UInt8) : (fldB l).length ≤ l.length + 1 := Nat.le_trans (List.length_filter_le _ _) (splitF_len 32 [] l)
theorem fields_ac (l : List UInt8) (hl : l.length ≤ 4000000) : AC Tryz.prog D 118 [St l, .func (.func 119) #[] #[]] L s fun v L' s' => L = L' ∧ ∃ A n c', v = .slice A n c' ∧ Strs s' A n c' (fldB l) :=
  AC.of_calls fnok_fields fun _ => by
    have hsz : (⟨l.toArray⟩ : ByteArray).size = l.length := by simp [Lib.size_eq]
    refine (Any.strings_FieldsFunc_grows Tryz.lays229 119 #[] enters_blank blkR ⟨l.toArray⟩ (fill L s) (by omega) (fun W x _ _ => ?_) (by kernel_rfl) (by kernel_rfl)).mono ?_
    · exact calls_of_AC (args := [.int .i32 (x : Int)]) fun D => readLine1_ac D [] W x
    · rintro e w' ⟨A, he, hA, hown, hb⟩
      refine ⟨_, he, hb, fun s' _ _ hnew => ⟨rfl, _, _, _, rfl, ?_⟩⟩
      rw [goFields, List.length_map] at hown ⊢
      rcases hown.2 with ⟨h0, _⟩ | ⟨g, cap, cur, h1, h2, h3, h4, h5, h6, h7⟩
      · cases h0
      · injection h1 with h1 _ hcap
        injection h1 with h1
        injection h1 with h1
        subst h1; subst hcap
        rw [← hnew A (by rw [fill_size] at hA; exact hA)] at h3
        have hcur : cur = (((fldB l).map fun x => (⟨x.toArray⟩ : ByteArray)).map Value.string).toArray := by
          have e1 : cur.toList = ((fldB l).map fun x => (⟨x.toArray⟩ : ByteArray)).map Value.string := by
            rw [← h7, List.take_of_length_le (by rw [Array.length_toList, h6]; exact Nat.le_refl _)]
          rw [← e1, Array.toArray_toList]
        rw [hcur] at h3
        exact cells_strs h3 (fun x hx => by have := (fld_mem hx).2; omega) (by have := fld_len l; omega)
end
end Go.Proofs.YteomcjpigoaioaaGreatDoor
namespace Go.Proofs.YteomcjpigoaioaaGreatDoor
open Go.FL
attribute [local irreducible] JC JO JA JB thenQ blockQ retQ AC fill CellsAt QE Ev Mid
theorem chars_any {l : List UInt8} {i : Nat} (hi : i ≠ 0) : charsFrom i l = !l.any badC := by
  induction l generalizing i with
  | nil => rfl
  | cons c l ih =>
    simp only [charsFrom, List.any_cons, ih (by omega : i + 1 ≠ 0), chOK, badC, hi, ne_eq, not_false_eq_true, decide_true, Bool.and_true, Bool.not_or]
    cases letB c <;> cases digB c <;> rfl
theorem name_label {l : List UInt8} {c : UInt8} (h : l[0]? = some c) (h6 : l.length ≤ 6) (hc : ¬ ((c.toNat : Int) < 97) ∧ ¬ (122 < (c.toNat : Int))) : labelB l = !l.any badC := by
  obtain ⟨r, rfl⟩ := head_tail h
  have hl : letB c = true := by simp only [letB, Bool.and_eq_true, decide_eq_true_eq]; omega
  have h7 : decide ((c :: r).length ≤ 6) = true := decide_eq_true h6
  have hb : badC c = false := by simp [badC, hl]
  simp only [labelB, charsFrom, chOK, hl, h7, Bool.true_or, Bool.true_and, List.any_cons, hb, Bool.false_or, chars_any (l := r) (i := 0 + 1) (by omega)]
  simp
theorem name_not {l : List UInt8} {c : UInt8} (h : l[0]? = some c) (hc : (c.toNat : Int) < 97 ∨ 122 < (c.toNat : Int)) : labelB l = false := by
  obtain ⟨r, rfl⟩ := head_tail h
  have hl : letB c = false := by rw [Bool.eq_false_iff]; simp only [letB, ne_eq, Bool.and_eq_true, decide_eq_true_eq]; omega
  simp [labelB, charsFrom, chOK, hl]
set_option maxHeartbeats 1000000 in
set_option maxRecDepth 100000 in
theorem aName_ac (D : Nat) (L : Hl) (s : World) (l : List UInt8) : AC Tryz.prog D 59 [St l] L s fun v L' _ => v = .bool (labelB l) ∧ L = L' := by
 refine AC_enter (TT := TT) (fn := Tryz.f59) TT_ok Tryz.func59 (by kernel_rfl) rfl Tryz.ntmps59 rfl (rs := [.tmp 2]) rfl [(0, _)] rfl ?_
 refine JC_seq ?_
 refine JC_region ?_
 refine JO_q (QE_as rfl) rfl ?_
 refine JO_nil ?_
 refine thenQ_n ?_
 refine JC_seq ?_
 refine JC_seq ?_
 refine JC_region ?_
 refine JO_q (QE_mv rfl) rfl ?_
 refine JO_q (QE_seq rfl rfl) rfl ?_
 refine JO_q (QE_mv rfl) rfl ?_
 refine JO_caseD (t := 5) rfl (fun c1 => ?_) (fun c1 => ?_)
 ·
  refine JO_gF rfl rfl rfl rfl ?_
  refine JO_gF rfl rfl rfl rfl ?_
  refine JO_gF rfl rfl rfl rfl ?_
  refine JO_q (QE_pickT rfl rfl) rfl ?_
  refine JO_q (QE_mv rfl) rfl ?_
  refine JO_gF rfl rfl rfl rfl ?_
  refine JO_gF rfl rfl rfl rfl ?_
  refine JO_gF rfl rfl rfl rfl ?_
  refine JO_q (QE_pickT rfl rfl) rfl ?_
  refine JO_q (QE_mv rfl) rfl ?_
  refine JO_gF rfl rfl rfl rfl ?_
  refine JO_gF rfl rfl rfl rfl ?_
  refine JO_gF rfl rfl rfl rfl ?_
  refine JO_q (QE_pickT rfl rfl) rfl ?_
  refine JO_nil ?_
  refine thenQ_n ?_
  refine JC_ifT rfl ?_
  refine JC_seq ?_
  refine JC_region ?_
  refine JO_q (QE_as rfl) rfl ?_
  refine JO_nil ?_
  refine thenQ_n ?_
  refine JC_ret ?_
  refine thenQ_r ?_
  refine retQ_mk [] L (.inr rfl) (.tmp rfl (.nil)) rfl (Le.refl (D := D) _) (fun sR hS2 => ?_)
  refine ⟨?_, rfl⟩
  first
    | (simp [resV, labelB, *]; done)
    | (rw [show labelB l = false from name_not hch (by omega)]; rfl)
    | (have h6 : ¬ l.length ≤ 6 := by omega
       simp [resV, labelB, h6]; done)
    | (rw [name_label hch (by omega) (by omega)]; rfl)
 ·
  refine JO_gT rfl rfl ?_
  refine JO_q (QE_mv rfl) rfl ?_
  refine JO_gT rfl rfl ?_
  refine JO_q (QE_lenT rfl rfl rfl) rfl ?_
  refine JO_gT rfl rfl ?_
  refine JO_q (QE_gt rfl rfl) rfl ?_
  refine JO_q (QE_pickF rfl rfl) rfl ?_
  refine JO_q (QE_mv rfl) rfl ?_
  refine JO_caseD (t := 10) rfl (fun c2 => ?_) (fun c2 => ?_)
  ·
   refine JO_gF rfl rfl rfl rfl ?_
   refine JO_gF rfl rfl rfl rfl ?_
   refine JO_gF rfl rfl rfl rfl ?_
   refine JO_q (QE_pickT rfl rfl) rfl ?_
   refine JO_q (QE_mv rfl) rfl ?_
   refine JO_gF rfl rfl rfl rfl ?_
   refine JO_gF rfl rfl rfl rfl ?_
   refine JO_gF rfl rfl rfl rfl ?_
   refine JO_q (QE_pickT rfl rfl) rfl ?_
   refine JO_nil ?_
   refine thenQ_n ?_
   refine JC_ifT rfl ?_
   refine JC_seq ?_
   refine JC_region ?_
   refine JO_q (QE_as rfl) rfl ?_
   refine JO_nil ?_
   refine thenQ_n ?_
   refine JC_ret ?_
   refine thenQ_r ?_
   refine retQ_mk [] L (.inr rfl) (.tmp rfl (.nil)) rfl (Le.refl (D := D) _) (fun sR hS2 => ?_)
   refine ⟨?_, rfl⟩
   first
     | (simp [resV, labelB, *]; done)
     | (rw [show labelB l = false from name_not hch (by omega)]; rfl)
     | (have h6 : ¬ l.length ≤ 6 := by omega
        simp [resV, labelB, h6]; done)
     | (rw [name_label hch (by omega) (by omega)]; rfl)
  ·
   refine JO_gT rfl rfl ?_
   refine JO_q (QE_mv rfl) rfl ?_
   refine JO_gT rfl rfl ?_
   obtain ⟨ch, hch⟩ : ∃ ch, l[0]? = some ch := ⟨_, List.getElem?_eq_getElem (List.length_pos_iff.2 (by assumption))⟩
   refine JO_q (QE_ix rfl rfl rfl rfl hch) rfl ?_
   refine JO_gT rfl rfl ?_
   refine JO_q (QE_lt rfl rfl) rfl ?_
   refine JO_q (QE_pickF rfl rfl) rfl ?_
   refine JO_q (QE_mv rfl) rfl ?_
   refine JO_caseD (t := 15) rfl (fun c3 => ?_) (fun c3 => ?_)
   ·
    refine JO_gF rfl rfl rfl rfl ?_
    refine JO_gF rfl rfl rfl rfl ?_
    refine JO_gF rfl rfl rfl rfl ?_
    refine JO_q (QE_pickT rfl rfl) rfl ?_
    refine JO_nil ?_
    refine thenQ_n ?_
    refine JC_ifT rfl ?_
    refine JC_seq ?_
    refine JC_region ?_
    refine JO_q (QE_as rfl) rfl ?_
    refine JO_nil ?_
    refine thenQ_n ?_
    refine JC_ret ?_
    refine thenQ_r ?_
    refine retQ_mk [] L (.inr rfl) (.tmp rfl (.nil)) rfl (Le.refl (D := D) _) (fun sR hS2 => ?_)
    refine ⟨?_, rfl⟩
    first
      | (simp [resV, labelB, *]; done)
      | (rw [show labelB l = false from name_not hch (by omega)]; rfl)
      | (have h6 : ¬ l.length ≤ 6 := by omega
         simp [resV, labelB, h6]; done)
      | (rw [name_label hch (by omega) (by omega)]; rfl)
   ·
    refine JO_gT rfl rfl ?_
    refine JO_q (QE_mv rfl) rfl ?_
    refine JO_gT rfl rfl ?_
    refine JO_q (QE_ix rfl rfl rfl rfl hch) rfl ?_
    refine JO_gT rfl rfl ?_
    refine JO_q (QE_gt rfl rfl) rfl ?_
    refine JO_q (QE_pickF rfl rfl) rfl ?_
    refine JO_nil ?_
    refine thenQ_n ?_
    refine JC_ifD rfl (fun c4 => ?_) (fun c4 => ?_)
    ·
     refine JC_seq ?_
     refine JC_region ?_
     refine JO_q (QE_as rfl) rfl ?_
     refine JO_nil ?_
     refine thenQ_n ?_
     refine JC_ret ?_
     refine thenQ_r ?_
     refine retQ_mk [] L (.inr rfl) (.tmp rfl (.nil)) rfl (Le.refl (D := D) _) (fun sR hS2 => ?_)
     refine ⟨?_, rfl⟩
     first
       | (simp [resV, labelB, *]; done)
       | (rw [show labelB l = false from name_not hch (by omega)]; rfl)
       | (have h6 : ¬ l.length ≤ 6 := by omega
          simp [resV, labelB, h6]; done)
       | (rw [name_label hch (by omega) (by omega)]; rfl)
    ·
     refine JC_skip ?_
     refine thenQ_n ?_
     refine JC_seq ?_
     refine JC_region ?_
     refine JO_q (QE_mv rfl) rfl ?_
     refine JO_call (first := []) (captured := []) rfl rfl rfl (contains_ac D _ _ _) ?_
     rintro _ _ s5 h5 ⟨rfl, rfl⟩
     refine JO_q (QE_not rfl) rfl ?_
     refine JO_q (QE_as rfl) rfl ?_
     refine JO_nil ?_
     refine thenQ_n ?_
     refine JC_ret ?_
     refine retQ_mk [] L (.inr rfl) (.tmp rfl (.nil)) rfl h5 (fun sR hS2 => ?_)
     refine ⟨?_, rfl⟩
     first
       | (simp [resV, labelB, *]; done)
       | (rw [show labelB l = false from name_not hch (by omega)]; rfl)
       | (have h6 : ¬ l.length ≤ 6 := by omega
          simp [resV, labelB, h6]; done)
       | (rw [name_label hch (by omega) (by omega)]; rfl)
theorem fnd_cut (c : UInt8) (l : List UInt8) : (fndI (fnd c l) < 0 ∧ cutB c l = (l, [], false)) ∨ ∃ i : Nat, fndI (fnd c l) = (i : Int) ∧ i + 1 ≤ l.length ∧ cutB c l = (l.take i, l.drop (i + 1), true) := by
  cases h : fnd c l with
  | none => exact .inl ⟨by simp [fndI], by simp [cutB, h]⟩
  | some i => exact .inr ⟨i, rfl, fnd_lt h, by simp [cutB, h]⟩
set_option maxHeartbeats 1000000 in
set_option maxRecDepth 100000 in
theorem cut0_ac (D : Nat) (L : Hl) (s : World) (l : List UInt8) (c : UInt8) (hl : l.length ≤ 9223372036854775806) : AC Tryz.prog D 140 [St l, St [c]] L s fun v L' _ => v = .tuple #[St (cutB c l).1, St (cutB c l).2.1, .bool (cutB c l).2.2] ∧ L = L' := by
 refine AC_enter (TT := TT) (fn := Tryz.f140) TT_ok Tryz.func140 (by kernel_rfl) rfl Tryz.ntmps140 rfl (rs := [.tmp 4, .tmp 5, .tmp 6]) rfl [(0, _), (1, _)] rfl ?_
 refine JC_seq ?_
 refine JC_region ?_
 refine JO_q (QE_as rfl) rfl ?_
 refine JO_q (QE_as rfl) rfl ?_
 refine JO_q (QE_as rfl) rfl ?_
 refine JO_nil ?_
 refine thenQ_n ?_
 refine JC_seq ?_
 refine JC_seq ?_
 refine JC_region ?_
 refine JO_q (QE_mv rfl) rfl ?_
 refine JO_q (QE_mv rfl) rfl ?_
 refine JO_call (first := []) (captured := []) rfl rfl rfl (index_ac D _ _ _ _) ?_
 rintro _ _ s1 h1 ⟨rfl, rfl⟩
 refine JO_q (QE_as rfl) rfl ?_
 refine JO_nil ?_
 refine thenQ_n ?_
 refine JC_seq ?_
 refine JC_region ?_
 refine JO_q (QE_mv rfl) rfl ?_
 refine JO_q (QE_ge rfl rfl) rfl ?_
 refine JO_nil ?_
 refine thenQ_n ?_
 refine JC_ifD rfl (fun c2 => ?_) (fun c2 => ?_)
 ·
  obtain ⟨hneg, _⟩ | ⟨i, hi, hil, hcut⟩ := fnd_cut c l
  · exact absurd c2 (by omega)
  rw [hi]
  refine JC_seq ?_
  refine JC_draw drawsMixed 12 rfl _ (fun _ h => h) ?_
  intro s3 h3
  refine JA_q 0 rfl (by kernel_rfl) (by kernel_rfl) (by kernel_rfl) trivial (QE_mv rfl) rfl ?_
  refine JA_q 1 rfl (by kernel_rfl) (by kernel_rfl) (by kernel_rfl) trivial (QE_mv rfl) rfl ?_
  refine JA_q 2 rfl (by kernel_rfl) (by kernel_rfl) (by kernel_rfl) trivial (QE_stH rfl rfl rfl rfl (by omega)) rfl ?_
  refine JA_q 3 rfl (by kernel_rfl) (by kernel_rfl) (by kernel_rfl) trivial (QE_mv rfl) rfl ?_
  refine JA_q 4 rfl (by kernel_rfl) (by kernel_rfl) (by kernel_rfl) trivial (QE_mv rfl) rfl ?_
  refine JA_q 5 rfl (by kernel_rfl) (by kernel_rfl) (by kernel_rfl) trivial (QE_mv rfl) rfl ?_
  refine JA_q 6 rfl (by kernel_rfl) (by kernel_rfl) (by kernel_rfl) trivial (QE_lenT rfl rfl rfl) rfl ?_
  refine JA_q 7 rfl (by kernel_rfl) (by kernel_rfl) (by kernel_rfl) trivial (QE_add' (c := ((i + 1 : Nat) : Int)) rfl rfl (by rw [w64 (by simp; omega) (by simp; omega)]; simp)) rfl ?_
  refine JA_q 8 rfl (by kernel_rfl) (by kernel_rfl) (by kernel_rfl) trivial (QE_stL rfl rfl rfl rfl (by omega)) rfl ?_
  refine JA_q 9 rfl (by kernel_rfl) (by kernel_rfl) (by kernel_rfl) trivial (QE_as rfl) rfl ?_
  refine JA_q 10 rfl (by kernel_rfl) (by kernel_rfl) (by kernel_rfl) trivial (QE_as rfl) rfl ?_
  refine JA_q 11 rfl (by kernel_rfl) (by kernel_rfl) (by kernel_rfl) trivial (QE_as rfl) rfl ?_
  refine JA_done (by kernel_rfl) ?_
  refine thenQ_n ?_
  refine JC_ret ?_
  refine thenQ_r ?_
  refine retQ_mk [] L (.inr rfl) (.tmp rfl (.tmp rfl (.tmp rfl (.nil)))) rfl (Le.trans h1 h3) (fun sR hS2 => ?_)
  refine ⟨?_, rfl⟩
  rw [hcut]
  rfl
 ·
  obtain ⟨hneg, hcut⟩ | ⟨i, hi, _, _⟩ := fnd_cut c l
  rotate_left
  · exact absurd c2 (by omega)
  refine JC_skip ?_
  refine thenQ_n ?_
  refine JC_seq ?_
  refine JC_region ?_
  refine JO_q (QE_mv rfl) rfl ?_
  refine JO_q (QE_as rfl) rfl ?_
  refine JO_q (QE_as rfl) rfl ?_
  refine JO_q (QE_as rfl) rfl ?_
  refine JO_nil ?_
  refine thenQ_n ?_
  refine JC_ret ?_
  refine retQ_mk [] L (.inr rfl) (.tmp rfl (.tmp rfl (.tmp rfl (.nil)))) rfl h1 (fun sR hS2 => ?_)
  refine ⟨?_, rfl⟩
  rw [hcut]
  rfl
set_option maxHeartbeats 1000000 in
set_option maxRecDepth 100000 in
theorem cut_ac (D : Nat) (L : Hl) (s : World) (l : List UInt8) (c : UInt8) (hl : l.length ≤ 9223372036854775806) : AC Tryz.prog D 117 [St l, St [c]] L s fun v L' _ => v = .tuple #[St (cutB c l).1, St (cutB c l).2.1, .bool (cutB c l).2.2] ∧ L = L' := by
 refine AC_enter (TT := TT) (fn := Tryz.f117) TT_ok Tryz.func117 (by kernel_rfl) rfl Tryz.ntmps117 rfl (rs := [.tmp 4, .tmp 5, .tmp 6]) rfl [(0, _), (1, _)] rfl ?_
 refine JC_seq ?_
 refine JC_region ?_
 refine JO_q (QE_as rfl) rfl ?_
 refine JO_q (QE_as rfl) rfl ?_
 refine JO_q (QE_as rfl) rfl ?_
 refine JO_nil ?_
 refine thenQ_n ?_
 refine JC_seq ?_
 refine JC_region ?_
 refine JO_q (QE_mv rfl) rfl ?_
 refine JO_q (QE_mv rfl) rfl ?_
 refine JO_call (first := []) (captured := []) rfl rfl rfl (cut0_ac D _ _ _ _ hl) ?_
 rintro _ _ s1 h1 ⟨rfl, rfl⟩
 refine JO_q (QE_ext rfl rfl) rfl ?_
 refine JO_q (QE_ext rfl rfl) rfl ?_
 refine JO_q (QE_ext rfl rfl) rfl ?_
 refine JO_q (QE_as rfl) rfl ?_
 refine JO_q (QE_as rfl) rfl ?_
 refine JO_q (QE_as rfl) rfl ?_
 refine JO_nil ?_
 refine thenQ_n ?_
 refine JC_ret ?_
 refine retQ_mk [] L (.inr rfl) (.tmp rfl (.tmp rfl (.tmp rfl (.nil)))) rfl h1 (fun sR hS2 => ?_)
 exact ⟨rfl, rfl⟩
set_option maxHeartbeats 1000000 in
set_option maxRecDepth 100000 in
theorem asplit_ac (D : Nat) (L : Hl) (s : World) (l : List UInt8) (c : UInt8) (hl : l.length ≤ 4000000) : AC Tryz.prog D 72 [St l, St [c]] L s fun v L' s' => L = L' ∧ ∃ A n c', v = .slice A n c' ∧ Strs s' A n c' (splitB (c.toNat : Int) l) := by
 refine AC_enter (TT := TT) (fn := Tryz.f72) TT_ok Tryz.func72 (by kernel_rfl) rfl Tryz.ntmps72 rfl (rs := [.tmp 4]) rfl [(0, _), (1, _)] rfl ?_
 refine JC_seq ?_
 refine JC_region ?_
 refine JO_q (QE_as rfl) rfl ?_
 refine JO_nil ?_
 refine thenQ_n ?_
 refine JC_seq ?_
 refine JC_region ?_
 refine JO_q (QE_mv rfl) rfl ?_
 refine JO_q (QE_mv rfl) rfl ?_
 refine JO_call (first := []) (captured := []) rfl rfl rfl (genSplit_ac D _ _ _ _ hl) ?_
 rintro _ _ s1 h1 ⟨rfl, Ar, nr, cr, rfl, hr⟩
 refine JO_q (QE_as rfl) rfl ?_
 refine JO_nil ?_
 refine thenQ_n ?_
 refine JC_ret ?_
 refine retQ_mk [] L (.inr rfl) (.tmp rfl (.nil)) rfl h1 (fun sR hS2 => ?_)
 exact ⟨rfl, _, _, _, rfl, hr.le (Le.trans (Le.refl (D := D) _) hS2)⟩
end Go.Proofs.YteomcjpigoaioaaGreatDoor
namespace Go.FL
open Go Go.RowKit
theorem QE_slA {P : Program} {TT : TyTab} {D : Nat} {fr : Fr} {ty : Nat} {K : Hl} {s0 : World} {t e b m : Nat} {x y : Operand} {ti te : TI} {ik : IntKind} {j : Nat} (hx : lk fr x = some (.pointer (some ⟨b, 0, none⟩))) (hy : lk fr y = some (.int ik (j : Int))) (ht : tlook TT t = some ti) (hk : ti.kind = .ar m e) (he : tlook TT e = some te) (hj : j ≤ m) :
    QE P TT D fr (.slice t x none (some y) none) ty K s0 (.slice (some ⟨b, 0, none⟩) j m) :=
  QE.pure fun hT dst pos af g ρ hρ w => by
    have hb : (Instr.sliceBounds false m m none (some (.int ik (j : Int))) none).run P w = .ok (0, j, m) w := by simp [Instr.sliceBounds, bound_ok hj]
    have hu : P.underlying t = some (.array m e) := by
      obtain ⟨h1, h2, _⟩ := hT.at_ ht
      rw [hk] at h2
      rw [h1]
      exact congrArg some h2
    have hr : (Instr.sliceAt t (.pointer (some ⟨b, 0, none⟩)) none (some (.int ik (j : Int))) none).run P w = .ok (.slice (some ⟨b, 0, none⟩) j m) w := by
      simp [Instr.sliceAt, Instr.sureAddr, run_underlying hu, hb, run_sizeOf' (hT.at_ he), Addr.add]
    simp only [execOp, hρ x _ hx, Option.map_none, Option.map_some, hρ y _ hy, Sem.run_bind, hr, Result.andThen_ok, Sem.run_pure]
theorem fill_drewN (L : Hl) (s : World) (n : Nat) : (fill L s).drewN n = fill L (s.drewN n) := by
  induction L with
  | nil => rfl
  | cons x L ih => show setBlk ((fill L s).drewN n) x.1 x.2 = setBlk (fill L (s.drewN n)) x.1 x.2; rw [ih]
theorem Le.drewN {D : Nat} (s : World) (n : Nat) : Le D s (s.drewN n) := ⟨rfl, rfl, rfl, Nat.le_refl _, fun _ _ => .inr rfl⟩
theorem mapBlock_set (w : World) (b ty : Nat) (zs : List Value) (f : Array Value → Array Value) : Sort.mapBlock (setBlk w b (cb zs ty)) b f = setBlk w b (cb (f zs.toArray).toList ty) := by
  refine world_eq (heap_ext fun k => ?_) rfl rfl rfl rfl
  show ((w.heap.setIfInBounds b _).modify b _)[k]? = (w.heap.setIfInBounds b _)[k]?
  rw [Array.getElem?_modify]
  by_cases hk : b = k
  · subst hk
    rw [if_pos rfl, Array.getElem?_setIfInBounds_self, Array.getElem?_setIfInBounds_self]
    split
    · simp [Sort.onCells, cb]
    · rfl
  · rw [if_neg hk, Array.getElem?_setIfInBounds_ne hk, Array.getElem?_setIfInBounds_ne hk]
end Go.FL
namespace Go.Proofs.YteomcjpigoaioaaGreatDoor
open Go Go.FL Go.RowKit
section
variable (D : Nat) (L : Hl) (s : World)
theorem fnok_small : FnOK Tryz.prog 125 := ⟨_, Tryz.func125, by kernel_rfl, by kernel_rfl⟩
theorem fnok_nd : FnOK Tryz.prog 126 := ⟨_, Tryz.func126, by kernel_rfl, by kernel_rfl⟩
theorem fnok_fmt : FnOK Tryz.prog 127 := ⟨_, Tryz.func127, by kernel_rfl, by kernel_rfl⟩
theorem small_ac (u : Nat) (h : u < 100) : AC Tryz.prog D 125 [.int .i64 (u : Int)] L s fun v L' _ => v = St (Lib.decDigits u) ∧ L = L' :=
  AC.of_calls fnok_small fun _ => (Any.internal_strconv_small Tryz.lays283 u h (fill L s)).mono fun e w' ⟨he, hw⟩ => ⟨_, he, by rw [hw]; exact below_refl _, fun s' _ _ _ => ⟨rfl, rfl⟩⟩
theorem nd_ac (hG : GW s) (u : Nat) (h1 : 1 ≤ u) (h2 : u < 4294967296) : AC Tryz.prog D 126 [.int .u64 (u : Int)] L s fun v L' _ => v = .int .i64 (Lib.nDigits u : Int) ∧ L = L' :=
  AC.of_calls fnok_nd fun ho => (Any.internal_strconv_numDigits Tryz.laysM284 u h1 (by omega) (fill L s) (tab_of Tryz.laysM284.m17 (hG.le (fill_le ho)))).mono fun e w' ⟨he, hw⟩ => ⟨_, he, by rw [hw]; exact below_refl _, fun s' _ _ _ => ⟨rfl, rfl⟩⟩
theorem nd_le {u : Nat} (h : u < 4294967296) : Lib.nDigits u ≤ 20 := by
  by_cases h1 : 1 ≤ u
  · have := Lib.numDigits_eq u h1 (by omega); split at this <;> omega
  · obtain rfl : u = 0 := by omega
    rw [Lib.nDigits]; simp
def z24 : List Value := List.replicate 24 (.int .u8 0)
theorem format_ac (u : Nat) (h2 : u < 4294967296) (b ty : Nat) : AC Tryz.prog D 127 [.slice (some ⟨b, 0, none⟩) (Lib.nDigits u) 24, .int .u64 (u : Int)] ((b, cb z24 ty) :: L) s
    fun v L' _ => v = .tuple #[] ∧ ∃ ys, L' = (b, cb (bv (Lib.decDigits u) ++ ys) ty) :: L ∧ (Lib.decDigits u).length + ys.length = 24 := by
  refine ⟨fnok_fmt, fun ho => ?_⟩
  have hnd := nd_le h2
  have hblk : (fill ((b, cb z24 ty) :: L) s).heap[b]? = some (cb z24 ty) := fill_mem ho (List.mem_cons_self ..)
  have hH : Sort.Holds (fun (x : UInt8) => Value.int .u8 (x.toNat : Int)) (fill ((b, cb z24 ty) :: L) s) b 0 (Array.replicate (Lib.nDigits u) (0 : UInt8)) := by
    intro j hj
    have hj' : j < Lib.nDigits u := by simpa using hj
    refine ⟨?_, by unfold World.frozen?; rw [hblk]; simp [cb]⟩
    rw [Nat.zero_add, mem_cell ho (List.mem_cons_self ..), getElem!_pos _ j hj, z24, List.getElem?_replicate, if_pos (by omega)]
    simp
  have h := Any.internal_strconv_formatBase10 Tryz.lays285 b 0 24 u (Array.replicate (Lib.nDigits u) 0) _ hH (by rw [Array.size_replicate]; exact Lib.lt_pow_nDigits u) (by omega) (by rw [Array.size_replicate]; omega)
  rw [Array.size_replicate] at h
  refine h.mono ?_
  rintro e w' ⟨he, n, v', dk, hw, hF⟩
  have hsz : dk.size = Lib.nDigits u := hF.size
  have hlen : (Lib.decDigits u).length = Lib.nDigits u := Lib.decDigits_length u
  have hcells : (Sort.putCells (fun (x : UInt8) => Value.int .u8 (x.toNat : Int)) 0 dk z24.toArray).toList = bv (Lib.decDigits u) ++ List.replicate (24 - Lib.nDigits u) (.int .u8 0) := by
    apply List.ext_getElem?
    intro k
    simp only [Sort.putCells, Array.toList_mapIdx, List.getElem?_mapIdx, Nat.zero_le, true_and, Nat.zero_add, Nat.sub_zero]
    by_cases hk : k < Lib.nDigits u
    · rw [List.getElem?_append_left (by simp [bv]; omega)]
      have h24 : z24[k]? = some (.int .u8 0) := by rw [z24, List.getElem?_replicate, if_pos (by omega)]
      rw [h24]
      simp only [Option.map_some, hsz, hk, if_true, bv, List.getElem?_map]
      rw [List.getElem?_eq_getElem (by omega), ← Lib.row_is_numeral hF k (by omega)]
      rfl
    · rw [List.getElem?_append_right (by simp [bv]; omega)]
      have hk' : ¬ k < dk.size := by omega
      have hbl : (bv (Lib.decDigits u)).length = Lib.nDigits u := by simp [bv, hlen]
      rw [hbl]
      by_cases h24 : k < 24
      · have e1 : z24[k]? = some (.int .u8 0) := by rw [z24, List.getElem?_replicate, if_pos (by omega)]
        rw [e1]
        simp [hk', List.getElem?_replicate]
        omega
      · have e1 : z24[k]? = none := by simp [z24]; omega
        rw [e1]
        simp [List.getElem?_replicate]
        omega
  have hworld : w' = fill ((b, cb (bv (Lib.decDigits u) ++ List.replicate (24 - Lib.nDigits u) (.int .u8 0)) ty) :: L) (s.drewN n) := by
    rw [hw, Sort.putRow]
    show (Sort.mapBlock (setBlk (fill L s) b (cb z24 ty)) b _).drewN n = _
    rw [mapBlock_set, hcells]
    exact fill_drewN ((b, cb (bv (Lib.decDigits u) ++ List.replicate (24 - Lib.nDigits u) (.int .u8 0)) ty) :: L) s n
  exact ⟨_, _, _, he, hworld, ⟨ho.nd, fun x hx => by
    rcases List.mem_cons.1 hx with rfl | hx
    · exact ho.dm (b, cb z24 ty) (List.mem_cons_self ..)
    · exact ho.dm x (List.mem_cons_of_mem _ hx)⟩, Le.drewN s n, rfl, _, rfl, by simp; omega⟩
end
end Go.Proofs.YteomcjpigoaioaaGreatDoor
namespace Go.Proofs.YteomcjpigoaioaaGreatDoor
open Go Go.FL
def valD (acc : Nat) (l : List UInt8) : Nat := l.foldl (fun a c => a * 10 + (c.toNat - 48)) acc
def canonB (l : List UInt8) : Bool := decide (l ≠ []) && l.all digB && (decide (l.length ≤ 1) || decide (l.head? ≠ some 48))
def numL (l : List UInt8) : Option Nat := if canonB l = true ∧ valD 0 l < 4294967296 then some (valD 0 l) else none
theorem valD_nil (acc : Nat) : valD acc [] = acc := rfl
theorem valD_cons (acc : Nat) (c : UInt8) (r : List UInt8) : valD acc (c :: r) = valD (acc * 10 + (c.toNat - 48)) r := by unfold valD; rw [List.foldl_cons]
theorem valD_one (c : UInt8) : valD 0 [c] = c.toNat - 48 := by rw [valD_cons, valD_nil, Nat.zero_mul, Nat.zero_add]
attribute [local irreducible] valD
theorem valD_snoc (l : List UInt8) (c : UInt8) (acc : Nat) : valD acc (l ++ [c]) = valD acc l * 10 + (c.toNat - 48) := by
  induction l generalizing acc with
  | nil => rw [List.nil_append, valD_cons, valD_nil, valD_nil]
  | cons x l ih => rw [List.cons_append, valD_cons, valD_cons]; exact ih _
theorem valD_ge (l : List UInt8) (acc : Nat) : acc ≤ valD acc l := by
  induction l generalizing acc with
  | nil => rw [valD_nil]; exact Nat.le_refl _
  | cons x l ih => have := ih (acc * 10 + (x.toNat - 48)); rw [valD_cons]; omega
theorem parseM_of {M acc : Nat} {l : List UInt8} (hM : M < 1844674407370955162) (h : l.all digB = true) (hv : valD acc l ≤ M) : Lib.parseUintM M acc l = .ok (valD acc l) := by
  induction l generalizing acc with
  | nil => rw [valD_nil]; rfl
  | cons c l ih =>
    simp only [List.all_cons, Bool.and_eq_true, digB, decide_eq_true_eq] at h
    rw [valD_cons] at hv ⊢
    have h1 := valD_ge l (acc * 10 + (c.toNat - 48))
    simp only [Lib.parseUintM]
    rw [if_pos h.1, if_neg (by omega), if_neg (by omega)]
    exact ih (by simpa [digB] using h.2) hv
theorem dig_of {u : Nat} (h : u < 10) : (UInt8.ofNat (48 + u)).toNat = 48 + u := by simp; omega
theorem dec_val (u : Nat) : valD 0 (Lib.decDigits u) = u := by
  induction u using Nat.strongRecOn with
  | _ u ih =>
    by_cases h : u < 10
    · rw [Lib.decDigits, dif_pos h]; rw [valD_one, dig_of h]; omega
    · rw [Lib.decDigits, dif_neg h, valD_snoc, ih (u / 10) (by omega), dig_of (by omega)]; omega
theorem dec_ne (u : Nat) : Lib.decDigits u ≠ [] := by
  by_cases h : u < 10
  · rw [Lib.decDigits, dif_pos h]; simp
  · rw [Lib.decDigits, dif_neg h]; simp
theorem dec_dig (u : Nat) : (Lib.decDigits u).all digB = true := by
  induction u using Nat.strongRecOn with
  | _ u ih =>
    by_cases h : u < 10
    · rw [Lib.decDigits, dif_pos h]; simp only [List.all_cons, List.all_nil, Bool.and_true, digB, dig_of h, Bool.and_eq_true, decide_eq_true_eq]; omega
    · rw [Lib.decDigits, dif_neg h, List.all_append, ih (u / 10) (by omega)]
      simp only [List.all_cons, List.all_nil, Bool.and_true, digB, dig_of (show u % 10 < 10 by omega), Bool.and_eq_true, decide_eq_true_eq, Bool.true_and]; omega
theorem dec_head (u : Nat) (h : 1 ≤ u) : (Lib.decDigits u).head? ≠ some 48 := by
  induction u using Nat.strongRecOn with
  | _ u ih =>
    by_cases h1 : u < 10
    · rw [Lib.decDigits, dif_pos h1]; intro e
      simp only [List.head?_cons, Option.some.injEq] at e
      have := congrArg UInt8.toNat e; rw [dig_of h1] at this; simp at this; omega
    · rw [Lib.decDigits, dif_neg h1]
      have hne := dec_ne (u / 10)
      have := ih (u / 10) (by omega) (by omega)
      cases hd : Lib.decDigits (u / 10) with
      | nil => exact absurd hd hne
      | cons x r => rw [hd] at this; simpa using this
theorem dec_canon (u : Nat) : canonB (Lib.decDigits u) = true := by
  simp only [canonB, dec_dig, dec_ne, ne_eq, not_false_eq_true, decide_true, Bool.true_and, Bool.or_eq_true, decide_eq_true_eq]
  by_cases h : u < 10
  · left; rw [Lib.decDigits, dif_pos h]; simp
  · right; exact dec_head u (by omega)
theorem valD_pos {l : List UInt8} {c : UInt8} {r : List UInt8} (he : l = c :: r) (hd : digB c = true) (h : c ≠ 48) : 1 ≤ valD 0 l := by
  subst he
  have h1 := valD_ge r (0 * 10 + (c.toNat - 48))
  simp only [digB, Bool.and_eq_true, decide_eq_true_eq] at hd
  have : c.toNat ≠ 48 := fun e => h (UInt8.toNat_inj.1 e)
  rw [valD_cons]; omega
theorem canon_dec {l : List UInt8} (h : canonB l = true) : Lib.decDigits (valD 0 l) = l := by
  induction hn : l.length using Nat.strongRecOn generalizing l with
  | _ n ih =>
    simp only [canonB, Bool.and_eq_true, decide_eq_true_eq, Bool.or_eq_true] at h
    obtain ⟨⟨h0, h1⟩, h2⟩ := h
    obtain ⟨m, c, rfl⟩ : ∃ m c, l = m ++ [c] := ⟨l.dropLast, l.getLast h0, (List.dropLast_concat_getLast h0).symm⟩
    rw [List.all_append, Bool.and_eq_true] at h1
    have hc : 48 ≤ c.toNat ∧ c.toNat ≤ 57 := by simpa [digB] using h1.2
    have hcc : UInt8.ofNat (48 + (c.toNat - 48)) = c := by apply UInt8.toNat_inj.1; simp; omega
    rw [valD_snoc]
    cases hm : m with
    | nil => rw [valD_nil, Lib.decDigits, dif_pos (by omega)]; simp [hcc]
    | cons x r =>
      have hx : (m ++ [c]).head? = some x := by rw [hm]; rfl
      have hx48 : x ≠ 48 := by
        rcases h2 with h2 | h2
        · rw [hm] at h2; simp at h2
        · intro e; exact h2 (by rw [hx, e])
      have hdx : digB x = true := by have := h1.1; rw [hm, List.all_cons, Bool.and_eq_true] at this; exact this.1
      have hp := valD_pos hm hdx hx48
      have hcm : canonB m = true := by
        simp only [canonB, Bool.and_eq_true, decide_eq_true_eq, Bool.or_eq_true]
        refine ⟨⟨by rw [hm]; simp, h1.1⟩, .inr ?_⟩
        rw [hm]; simpa using hx48
      have hd := ih m.length (by rw [← hn]; simp) hcm rfl
      rw [← hm]
      rw [Lib.decDigits, dif_neg (by omega)]
      rw [show (valD 0 m * 10 + (c.toNat - 48)) / 10 = valD 0 m by omega, hd, show (valD 0 m * 10 + (c.toNat - 48)) % 10 = c.toNat - 48 by omega, hcc]
theorem numL_dec {u : Nat} (h : u < 4294967296) : numL (Lib.decDigits u) = some u := by rw [numL, if_pos ⟨dec_canon u, by rw [dec_val]; exact h⟩, dec_val]
theorem numL_some {l : List UInt8} {u : Nat} (h : numL l = some u) : l = Lib.decDigits u ∧ u < 4294967296 := by
  unfold numL at h
  split at h
  · rename_i hh; injection h with h; subst h; exact ⟨(canon_dec hh.1).symm, hh.2⟩
  · cases h
theorem parse_num (l : List UInt8) (u : Nat) : (Lib.parseUintB 32 l = .ok u ∧ Lib.decDigits u = l) ↔ numL l = some u := by
  constructor
  · rintro ⟨h, rfl⟩
    exact numL_dec (by have := Lib.parseUintB_le h; omega)
  · intro h
    obtain ⟨rfl, hu⟩ := numL_some h
    refine ⟨?_, rfl⟩
    rw [Lib.parseUintB, if_neg (dec_ne u)]
    have := parseM_of (M := 2 ^ 32 - 1) (acc := 0) (by decide) (dec_dig u) (by rw [dec_val]; omega)
    rw [dec_val] at this; exact this
theorem nDig_le (k u : Nat) (h : u < 10 ^ (k + 1)) : Lib.nDigits u ≤ k + 1 := by
  induction k generalizing u with
  | zero => rw [Lib.nDigits_small (by simpa using h)]; exact Nat.le_refl _
  | succ k ih =>
    by_cases h1 : u < 10
    · rw [Lib.nDigits_small h1]; omega
    · rw [Lib.nDigits_big h1]; have := ih (u / 10) (by rw [Nat.pow_succ] at h; omega); omega
theorem dec_len {u : Nat} (h : u < 4294967296) : 1 ≤ (Lib.decDigits u).length ∧ (Lib.decDigits u).length ≤ 10 := by
  rw [Lib.decDigits_length]
  exact ⟨Lib.nDigits_pos u, nDig_le 9 u (by omega)⟩
end Go.Proofs.YteomcjpigoaioaaGreatDoor
namespace Go.FL
open Go Go.RowKit
section
variable {P : Program} {TT : TyTab} {D n : Nat} {Q : APost} {fr : Fr} {L : Hl} {s : World}
def MidF {γ : Type} (D : Nat) (s : World) (fr : Fr) (X : Hl) (H : γ → Hl) (I : γ → World → Prop) : Fr → Hl → World → Prop := fun fr' L' s' => ∃ g A, Le D s s' ∧ L'.Perm (A ++ (X ++ H g)) ∧ I g s' ∧ Keeps fr' fr
theorem MidF.mk {γ : Type} {X : Hl} {H : γ → Hl} {I : γ → World → Prop} {fr' : Fr} {L' : Hl} {s' : World} (g : γ) (A : Hl) (hl : Le D s s') (hK : Keeps fr' fr) (hp : L'.Perm (A ++ (X ++ H g))) (hI : I g s') : MidF D s fr X H I fr' L' s' := ⟨g, A, hl, hp, hI, hK⟩
theorem JC_cutF {γ : Type} {x y : Code} (X : Hl) {Y : Hl} (_hX : L = X ++ Y) (H : γ → Hl) (I : γ → World → Prop) (mono : ∀ g s s', I g s → Le D s s' → I g s') (h1 : JC P TT D n (thenQ (MidF D s fr X H I) Q) x fr L s)
    (h2 : ∀ g s', Le D s s' → I g s' → JC P TT D n Q y fr (X ++ H g) s') : JC P TT D n Q (.seq x y) fr L s := fun ht a hr ho =>
  wp_seq (wp_mono (h1 ht a hr ho) fun e a w ⟨fr', L', s', k1, k2, k3, k4⟩ => by
    cases e with
    | normal =>
      subst k3
      obtain ⟨g, A, j0, j2, j3, j1⟩ := k4
      rw [fill_perm j2 _ k2]
      obtain ⟨e, d1, d2⟩ := drop_own (k2.perm j2)
      rw [e]
      exact h2 g _ (j0.trans d2) (mono _ _ _ j3 d2) ht a (k1.sub j1) d1
    | _ => exact ⟨fr', L', s', k1, k2, k3, k4⟩)
end
end Go.FL
namespace Go.Proofs.YteomcjpigoaioaaGreatDoor
open Go Go.FL
theorem flat_at {css : List (List Value)} {sz : Nat} (hl : ∀ cs ∈ css, cs.length = sz) {j : Nat} {u : Value} (h : css.flatten[j]? = some u) : ∃ i cs r, css[i]? = some cs ∧ cs[r]? = some u ∧ j = i * sz + r := by
  induction css generalizing j with
  | nil => cases h
  | cons c m ih =>
    have hc := hl c (List.mem_cons_self ..)
    rw [List.flatten_cons] at h
    by_cases hj : j < c.length
    · rw [List.getElem?_append_left hj] at h
      exact ⟨0, c, j, rfl, h, by omega⟩
    · rw [List.getElem?_append_right (by omega)] at h
      obtain ⟨i, cs, r, h1, h2, h3⟩ := ih (fun x hx => hl x (List.mem_cons_of_mem _ hx)) h
      exact ⟨i + 1, cs, r, by simpa using h1, h2, by rw [Nat.succ_mul]; omega⟩
def acv (l : List Ac) : List Value := (l.map Ac.cs).flatten
theorem acv_app (l m : List Ac) : acv (l ++ m) = acv l ++ acv m := by simp [acv]
theorem acv_len (l : List Ac) : (acv l).length = l.length * 6 := by
  induction l with
  | nil => rfl
  | cons a r ih => simp only [acv, List.map_cons, List.flatten_cons, List.length_append, List.length_cons] at ih ⊢; rw [ih]; simp only [Ac.cs, List.length_cons, List.length_nil]; omega
theorem Acs.row {s : World} {A : Option Addr} {n c : Nat} {l : List Ac} (h : Acs s A n c l) : Row s A n 6 (acv l) := by
  refine ⟨by rw [acv_len, h.1], fun u hu => ?_, fun j u hj => ?_⟩
  · obtain ⟨cs, h1, h2⟩ := List.mem_flatten.1 hu
    obtain ⟨a, _, rfl⟩ := List.mem_map.1 h1
    simp only [Ac.cs, List.mem_cons, List.not_mem_nil, or_false] at h2
    rcases h2 with rfl | rfl | rfl | rfl | rfl | rfl <;> rfl
  · obtain ⟨i, cs, r, h1, h2, h3⟩ := flat_at (sz := 6) (fun cs hcs => by obtain ⟨a, _, rfl⟩ := List.mem_map.1 hcs; rfl) hj
    rw [List.getElem?_map] at h1
    cases ha : l[i]? with
    | none => simp [ha] at h1
    | some a =>
      simp [ha] at h1
      subst h1
      obtain ⟨b, off, cs, k1, k2, _, k3, _⟩ := h.2.2.2 i a ha
      subst k3
      refine ⟨b, off, k1, ?_⟩
      have := k2 r u h2
      rwa [Nat.add_assoc, ← h3] at this
theorem Own.acs {e : Nat} {A : Hl} {Ad : Option Addr} {n c : Nat} {l : List Ac} {s : World} (h : Own e 6 A (.slice Ad n c) n (acv l)) (hu : ∀ a ∈ l, U32 a.x.val ∧ U32 a.y.val) (hp : Pub A s) (hn : n = l.length) : Acs s Ad n c l := by
  refine Own.rows (css := l.map Ac.cs) h hp ?_ hn
  clear h hn
  induction l with
  | nil => exact .nil
  | cons a r ih => exact .cons ⟨rfl, rfl, hu a (List.mem_cons_self ..)⟩ (ih fun b hb => hu b (List.mem_cons_of_mem _ hb))
theorem Acs.u {s : World} {A : Option Addr} {n c : Nat} {l : List Ac} (h : Acs s A n c l) : ∀ a ∈ l, U32 a.x.val ∧ U32 a.y.val := fun a ha => by
  obtain ⟨i, hi⟩ := List.getElem?_of_mem ha
  obtain ⟨_, _, _, _, _, _, _, h5⟩ := h.2.2.2 i a hi
  exact h5
def Tms (s : World) (A : Option Addr) (n c : Nat) (l : List Tm) : Prop := Sl 2 (fun _ x cs => cs = [.int .i64 x.kind, .int .u32 x.val] ∧ U32 x.val) s A n c l
theorem Tms.le {D : Nat} {s s' : World} {A : Option Addr} {n c : Nat} {l : List Tm} (h : Tms s A n c l) (hl : Le D s s') : Tms s' A n c l := Sl.le (fun _ _ h => h) h hl
theorem Tms.at_ {s : World} {A : Option Addr} {n c k : Nat} {l : List Tm} (h : Tms s A n c l) (hk : k < n) : ∃ b off x, A = some ⟨b, off, none⟩ ∧ l[k]? = some x ∧ CellsAt s b (off + k * 2) [.int .i64 x.kind, .int .u32 x.val] ∧ U32 x.val := by
  have hl : k < l.length := by rw [← h.1]; exact hk
  obtain ⟨b, off, cs, h1, h2, _, rfl, h4⟩ := h.2.2.2 k l[k] (List.getElem?_eq_getElem hl)
  exact ⟨b, off, l[k], h1, List.getElem?_eq_getElem hl, h2, h4⟩
theorem tms1 {s : World} {b : Nat} {a c : Int} (h : CellsAt s b 0 [.int .i64 a, .int .u32 c]) (hc : U32 c) : Tms s (some ⟨b, 0, none⟩) 1 1 [⟨a, c⟩] := Sl.lit [[_, _]] h rfl (.cons ⟨rfl, rfl, hc⟩ .nil) 1 rfl (by omega)
theorem tms2 {s : World} {b : Nat} {a c d e : Int} (h : CellsAt s b 0 [.int .i64 a, .int .u32 c, .int .i64 d, .int .u32 e]) (hc : U32 c) (he : U32 e) : Tms s (some ⟨b, 0, none⟩) 2 2 [⟨a, c⟩, ⟨d, e⟩] := Sl.lit [[_, _], [_, _]] h rfl (.cons ⟨rfl, rfl, hc⟩ (.cons ⟨rfl, rfl, he⟩ .nil)) 2 rfl (by omega)
theorem acs1 {s : World} {b : Nat} {k0 t0 a0 b0 c0 d0 : Int} (h : CellsAt s b 0 [.int .i64 k0, .int .i64 t0, .int .i64 a0, .int .u32 b0, .int .i64 c0, .int .u32 d0]) (hu : (U32 b0 ∧ U32 d0)) : Acs s (some ⟨b, 0, none⟩) 1 1 [⟨k0, t0, ⟨a0, b0⟩, ⟨c0, d0⟩⟩] := Sl.lit [[_, _, _, _, _, _]] h rfl (.cons ⟨rfl, rfl, hu⟩ (.nil)) 1 rfl (by omega)
theorem acs2 {s : World} {b : Nat} {k0 t0 a0 b0 c0 d0 k1 t1 a1 b1 c1 d1 : Int} (h : CellsAt s b 0 [.int .i64 k0, .int .i64 t0, .int .i64 a0, .int .u32 b0, .int .i64 c0, .int .u32 d0, .int .i64 k1, .int .i64 t1, .int .i64 a1, .int .u32 b1, .int .i64 c1, .int .u32 d1]) (hu : (U32 b0 ∧ U32 d0) ∧ (U32 b1 ∧ U32 d1)) : Acs s (some ⟨b, 0, none⟩) 2 2 [⟨k0, t0, ⟨a0, b0⟩, ⟨c0, d0⟩⟩, ⟨k1, t1, ⟨a1, b1⟩, ⟨c1, d1⟩⟩] := Sl.lit [[_, _, _, _, _, _], [_, _, _, _, _, _]] h rfl (.cons ⟨rfl, rfl, hu.1⟩ (.cons ⟨rfl, rfl, hu.2⟩ (.nil))) 2 rfl (by omega)
theorem acs3 {s : World} {b : Nat} {k0 t0 a0 b0 c0 d0 k1 t1 a1 b1 c1 d1 k2 t2 a2 b2 c2 d2 : Int} (h : CellsAt s b 0 [.int .i64 k0, .int .i64 t0, .int .i64 a0, .int .u32 b0, .int .i64 c0, .int .u32 d0, .int .i64 k1, .int .i64 t1, .int .i64 a1, .int .u32 b1, .int .i64 c1, .int .u32 d1, .int .i64 k2, .int .i64 t2, .int .i64 a2, .int .u32 b2, .int .i64 c2, .int .u32 d2]) (hu : (U32 b0 ∧ U32 d0) ∧ (U32 b1 ∧ U32 d1) ∧ (U32 b2 ∧ U32 d2)) : Acs s (some ⟨b, 0, none⟩) 3 3 [⟨k0, t0, ⟨a0, b0⟩, ⟨c0, d0⟩⟩, ⟨k1, t1, ⟨a1, b1⟩, ⟨c1, d1⟩⟩, ⟨k2, t2, ⟨a2, b2⟩, ⟨c2, d2⟩⟩] := Sl.lit [[_, _, _, _, _, _], [_, _, _, _, _, _], [_, _, _, _, _, _]] h rfl (.cons ⟨rfl, rfl, hu.1⟩ (.cons ⟨rfl, rfl, hu.2.1⟩ (.cons ⟨rfl, rfl, hu.2.2⟩ (.nil)))) 3 rfl (by omega)
theorem acs6 {s : World} {b : Nat} {k0 t0 a0 b0 c0 d0 k1 t1 a1 b1 c1 d1 k2 t2 a2 b2 c2 d2 k3 t3 a3 b3 c3 d3 k4 t4 a4 b4 c4 d4 k5 t5 a5 b5 c5 d5 : Int} (h : CellsAt s b 0 [.int .i64 k0, .int .i64 t0, .int .i64 a0, .int .u32 b0, .int .i64 c0, .int .u32 d0, .int .i64 k1, .int .i64 t1, .int .i64 a1, .int .u32 b1, .int .i64 c1, .int .u32 d1, .int .i64 k2, .int .i64 t2, .int .i64 a2, .int .u32 b2, .int .i64 c2, .int .u32 d2, .int .i64 k3, .int .i64 t3, .int .i64 a3, .int .u32 b3, .int .i64 c3, .int .u32 d3, .int .i64 k4, .int .i64 t4, .int .i64 a4, .int .u32 b4, .int .i64 c4, .int .u32 d4, .int .i64 k5, .int .i64 t5, .int .i64 a5, .int .u32 b5, .int .i64 c5, .int .u32 d5]) (hu : (U32 b0 ∧ U32 d0) ∧ (U32 b1 ∧ U32 d1) ∧ (U32 b2 ∧ U32 d2) ∧ (U32 b3 ∧ U32 d3) ∧ (U32 b4 ∧ U32 d4) ∧ (U32 b5 ∧ U32 d5)) : Acs s (some ⟨b, 0, none⟩) 6 6 [⟨k0, t0, ⟨a0, b0⟩, ⟨c0, d0⟩⟩, ⟨k1, t1, ⟨a1, b1⟩, ⟨c1, d1⟩⟩, ⟨k2, t2, ⟨a2, b2⟩, ⟨c2, d2⟩⟩, ⟨k3, t3, ⟨a3, b3⟩, ⟨c3, d3⟩⟩, ⟨k4, t4, ⟨a4, b4⟩, ⟨c4, d4⟩⟩, ⟨k5, t5, ⟨a5, b5⟩, ⟨c5, d5⟩⟩] := Sl.lit [[_, _, _, _, _, _], [_, _, _, _, _, _], [_, _, _, _, _, _], [_, _, _, _, _, _], [_, _, _, _, _, _], [_, _, _, _, _, _]] h rfl (.cons ⟨rfl, rfl, hu.1⟩ (.cons ⟨rfl, rfl, hu.2.1⟩ (.cons ⟨rfl, rfl, hu.2.2.1⟩ (.cons ⟨rfl, rfl, hu.2.2.2.1⟩ (.cons ⟨rfl, rfl, hu.2.2.2.2.1⟩ (.cons ⟨rfl, rfl, hu.2.2.2.2.2⟩ (.nil))))))) 6 rfl (by omega)
theorem tms0 (s : World) : Tms s none 0 0 [] := ⟨rfl, Nat.le_refl _, by omega, fun i x h => by cases h⟩
end Go.Proofs.YteomcjpigoaioaaGreatDoor
namespace Go.FL
open Go Go.RowKit
def JE (P : Program) (TT : TyTab) (D n : Nat) (ops : Array Oper) (Q : Exit → Act → World → Prop) (i d : Nat) (fr : Fr) (L : Hl) (s : World) (R : Value → World → Prop) : Prop :=
  TabOK P TT → ∀ a, FrRel n a fr → OKL D L s → wpOp P ops Q i (fun a' w' => ∃ v s', a' = a.put (some d) v ∧ w' = fill L s' ∧ OKL D L s' ∧ Le D s s' ∧ R v s') a (fill L s)
section
variable {P : Program} {TT : TyTab} {D n : Nat} {ops : Array Oper} {Q' : Exit → Act → World → Prop} {fr : Fr} {L : Hl} {s s' : World} {d ty : Nat} {op : Op} {pos : String} {af : Array Edge} {v : Value} {i : Nat} {R : Value → World → Prop}
theorem JE_ev (hi : ops[i]? = some ⟨some d, op, ty, pos, af, none⟩) (h : Ev P TT D fr op ty L s (.value v) L s') (hle : Le D s s') (hR : R v s') : JE P TT D n ops Q' i d fr L s R := fun ht a hf ho => by
  obtain ⟨h1, h2⟩ := h ht ho (some d) pos af none a.eval (fun x v hx => hf.ev hx)
  simp only [wpOp, hi, Region.wanted, if_true]
  refine .inl ?_
  simp only [Oper.wp, h1, Oper.upon]
  exact ⟨v, s', rfl, rfl, h2, hle, hR⟩
theorem JE_q (hi : ops[i]? = some ⟨some d, op, ty, pos, af, none⟩) (h : QE P TT D fr op ty L s v) (hR : R v s) : JE P TT D n ops Q' i d fr L s R :=
  JE_ev hi (fun ht ho dst pos af g ρ hρ => ⟨h ht dst pos af g ρ hρ L s ho (Le.refl _) (fun _ hx => hx), ho⟩) (Le.refl _) hR
theorem JE_call {f : FuncId} {x : Operand} {xs : List Operand} {first captured vs : List Value} {ts : Array TypeId} {R0 : Value → Hl → World → Prop} (hi : ops[i]? = some ⟨some d, .call { callee := .value x, args := xs.toArray, argTypes := ts }, ty, pos, af, none⟩)
    (hx : lk fr x = some (.func (.func f) first.toArray captured.toArray)) (hv : lks fr xs = some vs) (h : AC P D f (first ++ vs ++ captured) L s R0)
    (k : ∀ v L' s', Le D s s' → R0 v L' s' → L' = L ∧ R v s') : JE P TT D n ops Q' i d fr L s R := fun hT a hf ho => by
  obtain ⟨⟨fn, h1, h2, h3⟩, hc⟩ := h
  have hρ : ∀ x v, lk fr x = some v → a.eval x = v := fun x v hx => hf.ev hx
  simp only [wpOp, hi, Region.wanted, if_true]
  refine .inl ?_
  have hrun : (execOp a.eval ⟨some d, .call { callee := .value x, args := xs.toArray, argTypes := ts }, ty, pos, af, none⟩).run P (fill L s) = .ok (.enter f (first ++ vs ++ captured).toArray) (fill L s) := by
    have h2' : ¬ fn.name = "runtime.NumGoroutine" := by simpa using h2
    have h3' : ¬ fn.body = none := by intro e; simp [e] at h3
    simp [execOp, resolve, Deferred.ofValue, invoke, callFunc, hρ x _ hx, lks_map hρ hv, h1, h2', h3']
  simp only [Oper.wp, hrun, Oper.upon]
  refine (hc ho).mono ?_
  rintro e w' ⟨v, L', s', rfl, rfl, h4, h5, h6⟩
  obtain ⟨rfl, k2⟩ := k v L' s' h5 h6
  exact ⟨v, s', rfl, rfl, h4, h5, k2⟩
theorem JE_bs {t e len : Nat} {ti te : TI} {ps : List (Nat × Operand)} (hi : ops[i]? = some ⟨some d, .buildSlice t len ps.toArray, ty, pos, af, none⟩) (vals : List (Nat × Value)) (vs : List Value) (ht : tlook TT t = some ti) (hk : ti.kind = .sl e) (he : tlook TT e = some te) (hv : lkp fr ps = some vals) (hsz : Nat.ble (len * te.size) 16777216 = true) (hpos : Nat.blt 0 len = true) (hp : vals.all (fun x => Nat.blt x.1 len) = true)
    (hb : bld (rowPl te.size 0 len) (List.replicate len te.zeros).flatten vals = some vs) (k : ∀ β s', Le D s s' → CellsAt s' β 0 vs → R (.slice (some ⟨β, 0, none⟩) len len) s') : JE P TT D n ops Q' i d fr L s R := fun hT a hr ho => by
  obtain ⟨h1, h2, h3⟩ := alloc_fill ho (cb vs e)
  obtain ⟨d1, d2, d3⟩ := drop_own (A := [(s.heap.size, cb vs e)]) (B := L) h2
  refine JE_ev (s' := fill [(s.heap.size, cb vs e)] (s.alloc (dum D))) hi (fun hT _ dst pos af g ρ hρ => ⟨?_, d2⟩) (h3.trans d3) (k _ _ (h3.trans d3) (cells_drop h2)) hT a hr ho
  rw [← d1]
  exact (Ev_bs vals vs ht hk he hv hsz hpos hp hb ho hT ho dst pos af g ρ hρ).1
end
def edgeB (l : List Oper) (i j : Nat) : Bool := match l[i]? with
  | some o => o.after.any fun e => Region.binds .any e && e.on == j
  | none => false
def dstB (l : List Oper) (ds : List Nat) (m : Nat) : Bool := (List.range m).all fun i => (match l[i]? with | some o => o.dst == ds[i]? && o.guard.isNone | none => false)
def topoB (l : List Oper) : Bool := (List.range l.length).all fun i => (match l[i]? with | some o => o.after.all fun e => !Region.binds .any e || decide (e.on < i) | none => true)
def coverB (l : List Oper) (m : Nat) : Bool := (List.range m).all fun j => (List.range (m + 1)).any fun i => decide (j < i) && edgeB l i j
def depB (l : List Oper) (dp : List (List Nat)) (m : Nat) : Bool := (List.range m).all fun i => (dp.getD i []).all fun j => decide (j < m) && edgeB l i j
def freshB (fr : Fr) (ds : List Nat) (n : Nat) : Bool := ds.all fun d => (flook fr d).isNone && Nat.blt d n
def Obl (Φ : Nat → Value → World → Prop) (ds : List Nat) (s : World) (K : Fr → Prop) : List Nat → Fr → Prop
  | [], fr => K fr
  | j :: r, fr => ∀ u, Φ j u s → Obl Φ ds s K r ((ds.getD j 0, u) :: fr)
inductive Fct where
  | eq (v : Value)
  | row (len : Nat) (vs : List Value)
def Fct.holds : Fct → Value → World → Prop
  | .eq u, v, _ => v = u
  | .row len vs, v, s => ∃ b, v = .slice (some ⟨b, 0, none⟩) len len ∧ CellsAt s b 0 vs
theorem Fct.le {D : Nat} (fs : List Fct) (i : Nat) (v : Value) (s s' : World) (h : (fs.getD i (.eq undef)).holds v s) (hl : Le D s s') : (fs.getD i (.eq undef)).holds v s' := by
  generalize fs.getD i (.eq undef) = f at h ⊢
  cases f with
  | eq u => exact h
  | row len vs => obtain ⟨b, h1, h2⟩ := h; exact ⟨b, h1, h2.le hl⟩
def AllLt (p : Nat → Prop) : Nat → Prop
  | 0 => True
  | m + 1 => AllLt p m ∧ p m
theorem AllLt.get {p : Nat → Prop} {m : Nat} (h : AllLt p m) : ∀ i, i < m → p i := by
  induction m with
  | zero => intro i hi; omega
  | succ m ih =>
    intro i hi
    rcases Nat.lt_succ_iff_lt_or_eq.1 hi with h1 | rfl
    · exact ih h.1 i h1
    · exact h.2
section
variable {P : Program} {TT : TyTab} {D n : Nat} {Q : APost} {fr : Fr} {L : Hl} {s : World}
theorem FrRel.more {a : Act} (hr : FrRel n a fr) {d : Nat} {u : Value} (h1 : d < n) (h2 : a.tmps[d]? = some u) : FrRel n a ((d, u) :: fr) := by
  refine ⟨hr.size, hr.defers, fun t ht v hv => ?_, fun t v hv => ?_⟩
  · rw [flook_cons] at hv
    split at hv
    · rename_i he; subst he; simp at hv; subst hv; exact h2
    · exact hr.slot t ht v hv
  · rw [flook_cons] at hv
    split at hv
    · rename_i he; subst he; exact h1
    · exact hr.top t v hv
theorem Obl.apply {Φ : Nat → Value → World → Prop} {ds : List Nat} {K : Fr → Prop} {a : Act} {js : List Nat} (hr : FrRel n a fr) (h : Obl Φ ds s K js fr) (hj : ∀ j ∈ js, ds.getD j 0 < n ∧ ∃ v, a.tmps[ds.getD j 0]? = some v ∧ Φ j v s) : ∃ fr', FrRel n a fr' ∧ K fr' := by
  induction js generalizing fr with
  | nil => exact ⟨fr, hr, h⟩
  | cons j r ih =>
    obtain ⟨h1, v, h2, h3⟩ := hj j (List.mem_cons_self ..)
    exact ih (hr.more h1 h2) (h v h3) fun x hx => hj x (List.mem_cons_of_mem _ hx)
theorem edge_spec {l : List Oper} {i j : Nat} (h : edgeB l i j = true) : ∃ o, l[i]? = some o ∧ ∃ e ∈ o.after, Region.binds .any e = true ∧ e.on = j := by
  unfold edgeB at h
  split at h
  · rename_i o ho
    rw [Array.any_eq_true] at h
    obtain ⟨k, hk, h1⟩ := h
    simp only [Bool.and_eq_true, beq_iff_eq] at h1
    exact ⟨o, ho, o.after[k], Array.getElem_mem hk, h1.1, h1.2⟩
  · cases h
theorem JC_flow {id : Nat} {l : List Oper} (hm : P.follows .mixedOrders = true) (m : Nat) (hN : l.length = m + 1) (ds : List Nat) (dp : List (List Nat)) (h1 : dstB l ds m = true) (h2 : topoB l = true) (h3 : coverB l m = true) (h4 : depB l dp m = true) (h5 : freshB fr ds n = true) (h6 : ds.Nodup) (h7 : ds.length = m)
    (Φ : Nat → Value → World → Prop) (mono : ∀ i v s s', Φ i v s → Le D s s' → Φ i v s')
    (obl0 : AllLt (fun i => ∀ s', Le D s s' → Obl Φ ds s' (fun fr' => JE P TT D n l.toArray (noPan (conc D n Q)) i (ds.getD i 0) fr' L s' (Φ i)) (dp.getD i []) fr) m)
    (lastd : List Nat) (h8 : lastd.all (fun j => decide (j < m)) = true) (last : ∀ s', Le D s s' → Obl Φ ds s' (fun fr' => JA P TT D n l.toArray Q [] s' 1 ((Array.replicate m true).push false) fr' L s') lastd fr) :
    JC P TT D n Q (.region id l.toArray true) fr L s := fun ht a0 hr0 ho0 => by
  have obl := obl0.get
  have key : ∀ (N : Nat) (todo : List Nat) (listed : Array Bool) (a : Act) (s' : World), todo.length = N → todo.Nodup → (∀ i, i ∈ todo ↔ i < m ∧ listed.getD i true = false) → listed.size = m + 1 → listed.getD m true = false →
      (∀ i o, l[i]? = some o → i < m → listed.getD i true = true → ∀ e ∈ o.after, Region.binds .any e = true → listed.getD e.on false = true) →
      FrRel n a fr → OKL D L s' → Le D s s' → (∀ i, i < m → listed.getD i true = true → ∃ v, a.tmps[ds.getD i 0]? = some v ∧ Φ i v s') → wpAny P .any l.toArray (noPan (conc D n Q)) (N + 1) listed a (fill L s') := by
    have hdlt : ∀ i, i < m → ds.getD i 0 < n ∧ flook fr (ds.getD i 0) = none := fun i hi => by
      have hmem : ds.getD i 0 ∈ ds := by simp [List.getD, show i < ds.length by omega]
      have := List.all_eq_true.1 h5 _ hmem
      simp only [Bool.and_eq_true, Option.isNone_iff_eq_none] at this
      exact ⟨Nat.le_of_ble_eq_true this.2, this.1⟩
    intro N
    induction N with
    | zero =>
      intro todo listed a s' hlen _ hmem hsz hlast hcl hfr ho hle hfact
      have hnil : todo = [] := List.eq_nil_of_length_eq_zero hlen
      subst hnil
      have hall : ∀ i, i < m → listed.getD i true = true := fun i hi => by
        cases hb : listed.getD i true with
        | true => rfl
        | false => exact absurd ((hmem i).2 ⟨hi, hb⟩) (by simp)
      have hl : listed = (Array.replicate m true).push false := by
        apply Array.ext
        · simp [hsz]
        · intro i hi hi'
          rw [Array.getElem_push]
          have hg : listed.getD i true = listed[i] := by simp [hi]
          split
          · rename_i hlt
            simp at hlt
            rw [Array.getElem_replicate, ← hg, hall i hlt]
          · rename_i hge
            simp at hge
            have : i = m := by omega
            subst this
            rw [← hg, hlast]
      subst hl
      obtain ⟨fr', hf', hJ⟩ := (last s' hle).apply hfr (a := a) (fun j hj => by
        have hj' : j < m := by simpa using List.all_eq_true.1 h8 j hj
        exact ⟨(hdlt j hj').1, hfact j hj' (hall j hj')⟩)
      exact wpAny_of_held _ _ _ _ (hJ ht a hf' ho (Le.refl _) (fun x hx => by cases hx))
    | succ N ih =>
      intro todo listed a s' hlen hnd hmem hsz hlast hcl hfr ho hle hfact
      refine ⟨fun hready => ?_, fun i hi => ?_⟩
      · -- the least one that is not listed is ready
        exfalso
        have hex : ∃ i, i < m ∧ listed.getD i true = false := by
          cases todo with
          | nil => simp at hlen
          | cons x r => exact ⟨x, (hmem x).1 (List.mem_cons_self ..)⟩
        have hleast : ∃ i, (i < m ∧ listed.getD i true = false) ∧ ∀ j, j < i → ¬ (j < m ∧ listed.getD j true = false) := by
          obtain ⟨i, hi⟩ := hex
          induction i using Nat.strongRecOn with
          | ind i ihi =>
            by_cases hx : ∃ j, j < i ∧ (j < m ∧ listed.getD j true = false)
            · obtain ⟨j, hj1, hj2⟩ := hx
              exact ihi j hj1 hj2
            · exact ⟨i, hi, fun j hj hj2 => hx ⟨j, hj, hj2⟩⟩
        obtain ⟨i, ⟨hi1, hi2⟩, hi3⟩ := hleast
        have hlt : i < l.length := by omega
        have hin : i ∈ Region.ready .any l.toArray listed := by
          rw [mem_ready]
          refine ⟨hi2, l[i], by simp [hlt], fun e he hb => ?_⟩
          have ht2 := List.all_eq_true.1 h2 i (List.mem_range.2 hlt)
          simp only [List.getElem?_eq_getElem hlt] at ht2
          rw [Array.all_eq_true_iff_forall_mem] at ht2
          have := ht2 e he
          simp only [hb, Bool.not_true, Bool.false_or, decide_eq_true_eq] at this
          have hn := hi3 e.on this
          have hm1 : e.on < m := by omega
          have h8 : listed.getD e.on true = true := by
            cases hc : listed.getD e.on true with
            | true => rfl
            | false => exact absurd ⟨hm1, hc⟩ hn
          have h9 : e.on < listed.size := by omega
          simp only [Array.getD, h9, dif_pos] at h8 ⊢
          exact h8
        rw [hready] at hin
        cases hin
      · have hi' := hi
        rw [mem_ready] at hi
        obtain ⟨hu, o, ho1, hall⟩ := hi
        have hol : l[i]? = some o := by simpa using ho1
        have hilen : i < l.length := (List.getElem?_eq_some_iff.1 hol).1
        have him : i ≠ m := by
          intro e
          subst e
          -- the greatest one that is not listed is ready's own forerunner
          have hmax : ∀ k, ∀ j, j < i → i - j ≤ k → listed.getD j true = true := by
            intro k
            induction k with
            | zero => intro j hj hk; omega
            | succ k ihk =>
              intro j hj hk
              have hcv := List.all_eq_true.1 h3 j (List.mem_range.2 hj)
              rw [List.any_eq_true] at hcv
              obtain ⟨i2, hi2, hc⟩ := hcv
              simp only [Bool.and_eq_true, decide_eq_true_eq] at hc
              obtain ⟨o2, ho2, e, he, hb, hon⟩ := edge_spec hc.2
              have hi2' := List.mem_range.1 hi2
              have hgot : listed.getD e.on false = true := by
                by_cases hlastone : i2 = i
                · subst hlastone
                  rw [hol] at ho2; injection ho2 with ho2; subst ho2
                  exact hall e he hb
                · exact hcl i2 o2 ho2 (by omega) (ihk i2 (by omega) (by omega)) e he hb
              rw [hon] at hgot
              have h9 : j < listed.size := by omega
              simp only [Array.getD, h9, dif_pos] at hgot ⊢
              exact hgot
          cases todo with
          | nil => simp at hlen
          | cons x r =>
            have hx := (hmem x).1 (List.mem_cons_self ..)
            have := hmax i x hx.1 (by omega)
            rw [hx.2] at this; cases this
        have hilt : i < m := by omega
        have hdeps : ∀ j ∈ dp.getD i [], j < m ∧ listed.getD j true = true := fun j hj => by
          have hd := List.all_eq_true.1 h4 i (List.mem_range.2 hilt)
          have hd2 := List.all_eq_true.1 hd j hj
          simp only [Bool.and_eq_true, decide_eq_true_eq] at hd2
          obtain ⟨o2, ho2, e, he, hb, hon⟩ := edge_spec hd2.2
          rw [hol] at ho2; injection ho2 with ho2; subst ho2
          have hgot := hall e he hb
          rw [hon] at hgot
          have h9 : j < listed.size := by omega
          simp only [Array.getD, h9, dif_pos] at hgot ⊢
          exact ⟨hd2.1, hgot⟩
        obtain ⟨fr', hf', hJ⟩ := (obl i hilt s' hle).apply hfr (a := a) (fun j hj => ⟨(hdlt j (hdeps j hj).1).1, hfact j (hdeps j hj).1 (hdeps j hj).2⟩)
        refine wpOp_mono ?_ (hJ ht a hf' ho)
        rintro a' w' ⟨v, s2, rfl, rfl, ho2, hle2, hΦ⟩
        have hdi := hdlt i hilt
        have hsz2 : a.tmps.size = n := hfr.size
        refine ih (todo.erase i) _ _ s2 (by rw [List.length_erase_of_mem ((hmem i).2 ⟨hilt, hu⟩)]; omega) (hnd.erase i) (fun j => ?_) (by simpa using hsz) ?_ ?_ ?_ ho2 (hle.trans hle2) ?_
        · rw [hnd.mem_erase_iff, hmem j]
          by_cases hj : j = i
          · subst hj; simp [show j < listed.size by omega]
          · rw [getD_set_ne true (fun e => hj e.symm)]; simp [hj]
        · rw [getD_set_ne true him]; exact hlast
        · intro j oj hoj hjm hlj e he hb
          by_cases hj : j = i
          · subst hj
            rw [hol] at hoj; injection hoj with hoj; subst hoj
            exact getD_set_true (hall e he hb)
          · rw [getD_set_ne true (fun e => hj e.symm)] at hlj
            exact getD_set_true (hcl j oj hoj hjm hlj e he hb)
        · refine ⟨by simp [Act.put, hsz2], by simp [Act.put, hfr.defers], fun t ht2 u hu2 => ?_, hfr.top⟩
          have hne : ds.getD i 0 ≠ t := by
            intro e; rw [e] at hdi; rw [hdi.2] at hu2; cases hu2
          simp only [Act.put, Array.getElem?_setIfInBounds_ne hne]
          exact hfr.slot t ht2 u hu2
        · intro j hjm hlj
          by_cases hj : j = i
          · subst hj
            refine ⟨v, ?_, hΦ⟩
            have hd1 := hdi.1
            generalize ds.getD j 0 = dd at hd1 ⊢
            simp [Act.put, hsz2, hd1]
          · rw [getD_set_ne true (fun e => hj e.symm)] at hlj
            obtain ⟨u, k1, k2⟩ := hfact j hjm hlj
            have hne : ds.getD i 0 ≠ ds.getD j 0 := by
              intro e
              simp only [List.getD, List.getElem?_eq_getElem (show i < ds.length by omega), List.getElem?_eq_getElem (show j < ds.length by omega), Option.getD_some] at e
              exact hj ((List.getElem_inj h6).1 e).symm
            exact ⟨u, by simp only [Act.put, Array.getElem?_setIfInBounds_ne hne]; exact k1, mono _ _ _ _ k2 hle2⟩
  have hstart := key m (List.range m) (Array.replicate (m + 1) false) a0 s.drew (by simp) List.nodup_range (fun i => ⟨fun h => ⟨List.mem_range.1 h, by have := List.mem_range.1 h; simp [show i < m + 1 by omega]⟩, fun h => List.mem_range.2 h.1⟩) (by simp) (by simp) (fun i o _ him hli => by simp [show i < m + 1 by omega] at hli) hr0 ho0.drew (Le.drew s) (fun i him hli => by simp [show i < m + 1 by omega] at hli)
  refine wp_mono (wp_region_any (Q := noPan (conc D n Q)) hm ?_) (fun e a w hq => by cases e <;> first | exact hq | exact hq.elim)
  rw [← drew_fill] at hstart
  simpa [hN] using hstart
end
end Go.FL
namespace Go.FL
open Go Go.RowKit
structure Apps (P : Program) (w : World) (t u ty e : Nat) (i : TypeInfo) (z : Value) (y : Value) (m : Nat) (news : List Value) : Prop where
  none : m = 0 → (Builtin.append_ #[t, u] ty #[.slice none 0 0, y]).run P w = .ok (.slice none 0 0) w
  nil : 0 < m → m ≤ 9223372036854775807 → m * i.bytes ≤ 140737488355328 → (Builtin.append_ #[t, u] ty #[.slice .none 0 0, y]).run P w = .ok (.slice (some ⟨w.heap.size, 0, .none⟩) m (grownCap w m 0 e)) (w.drew.alloc (.cells (news.toArray ++ Builtin.zeroCells z.cells (grownCap w m 0 e - m)) e))
  room : ∀ g sLen sCap (cur : Array Value), w.heap[g]? = some (.cells cur e (0, 0)) → sLen + m ≤ sCap → sLen * i.size + news.length ≤ cur.size → (Builtin.append_ #[t, u] ty #[.slice (some ⟨g, 0, .none⟩) sLen sCap, y]).run P w = .ok (.slice (some ⟨g, 0, .none⟩) (sLen + m) sCap) (w.setRow g (cur.toList.take (sLen * i.size) ++ news ++ cur.toList.drop (sLen * i.size + news.length)).toArray)
  grow : ∀ g n cap (xs : List Value), xs.length = n * i.size → (∀ j v, xs[j]? = some v → w.cell? ((⟨g, 0, .none⟩ : Addr).add j) = some v) → cap < n + m → n + m ≤ 9223372036854775807 → (n + m) * i.bytes ≤ 140737488355328 →
    (Builtin.append_ #[t, u] ty #[.slice (some ⟨g, 0, .none⟩) n cap, y]).run P w = .ok (.slice (some ⟨w.heap.size, 0, .none⟩) (n + m) (grownCap w (n + m) cap e)) (w.drew.alloc (.cells (xs.toArray ++ news.toArray ++ Builtin.zeroCells z.cells (grownCap w (n + m) cap e - (n + m))) e))
theorem run_appG {P : Program} {w : World} {t u ty e : Nat} {i : TypeInfo} {z y : Value} {m size bytes : Nat} {news : List Value} (hS : Apps P w t u ty e i z y m news) (hsize : i.size = size) (hby : i.bytes = bytes) (hzs : z.cells.size = size)
    (v : Value) (n : Nat) (xs : List Value) (hown : w.ownsRow 0 e size v n xs) (hl : news.length = m * size) (h63 : n + m ≤ maxLen) (hbytes : (n + m) * bytes ≤ 140737488355328) :
    ∃ v' w', (Builtin.append_ #[t, u] ty #[v, y]).run P w = .ok v' w' ∧ w'.ownsRow 0 e size v' (n + m) (xs ++ news) ∧ w.grownBy w' v.ownBlock ∧ (v'.ownBlock = v.ownBlock ∨ v'.ownBlock = some w.heap.size) ∧ (v = .slice none 0 0 → m = 0 → v' = .slice none 0 0) := by
  subst hsize
  subst hby
  have hsmall : n + m ≤ 9223372036854775807 := by simp only [maxLen] at h63; omega
  have hlen : (xs ++ news).length = (n + m) * i.size := by rw [List.length_append, hown.1, hl, Nat.add_mul]
  have grown : ∀ (old : Nat), old < n + m → ∀ (row : Option Nat),
      (w.drew.alloc (.cells (xs.toArray ++ news.toArray ++ Builtin.zeroCells z.cells (grownCap w (n + m) old e - (n + m))) e)).ownsRow 0 e i.size
        (.slice (some ⟨w.heap.size, 0, none⟩) (n + m) (grownCap w (n + m) old e)) (n + m) (xs ++ news) ∧
      w.grownBy (w.drew.alloc (.cells (xs.toArray ++ news.toArray ++ Builtin.zeroCells z.cells (grownCap w (n + m) old e - (n + m))) e)) row := by
    intro old ho row
    have hge := grownCap_ge w (n + m) old e
    have hcm : grownCap w (n + m) old e ≤ maxLen := grownCap_le_maxLen w (n + m) old e h63
    refine ⟨⟨hlen, .inr ⟨w.heap.size, _, _, rfl, Nat.zero_le _, heap_alloc_new w.drew _, hge, hcm, ?_, ?_⟩⟩, ⟨rfl, rfl, rfl, by simp, fun k hk _ => by show (w.heap.push _)[k]? = w.heap[k]?; rw [Array.getElem?_push, if_neg (Nat.ne_of_lt hk)]⟩⟩
    · simp only [Array.size_append, List.size_toArray, size_zeroCells, hzs, hown.1, hl, ← Nat.add_mul]
      congr 1
      omega
    · simp only [Array.toList_append, List.append_assoc]
      rw [← List.append_assoc, ← hlen]
      exact List.take_left
  rcases hown.2 with ⟨rfl, rfl⟩ | ⟨g, cap, cur, rfl, hbg, hg, hnc, hcm, hcs, htake⟩
  · have hx : xs = [] := List.eq_nil_of_length_eq_zero (by simpa using hown.1)
    subst hx
    by_cases hm : m = 0
    · have hn : news = [] := List.eq_nil_of_length_eq_zero (by rw [hl, hm]; simp)
      refine ⟨.slice none 0 0, w, hS.none hm, ?_, ⟨rfl, rfl, rfl, Nat.le_refl _, fun _ _ _ => rfl⟩, Or.inl rfl, fun _ _ => rfl⟩
      rw [hn, hm]; exact World.ownsRow_nil w 0 e i.size
    · have hr := hS.nil (by omega) (by omega) (by have hb := hbytes; simp only [Nat.zero_add] at hb; exact hb)
      have hgr := grown 0 (by omega) (Value.ownBlock (.slice none 0 0))
      simp only [Nat.zero_add, List.nil_append, Array.empty_append] at hgr ⊢
      exact ⟨_, _, hr, hgr.1, hgr.2, Or.inr rfl, fun _ h => absurd h hm⟩
  · by_cases hroom : n + m ≤ cap
    · have hfit : n * i.size + news.length ≤ cur.size := by rw [hl, hcs, ← Nat.add_mul]; exact Nat.mul_le_mul_right _ hroom
      have hr := hS.room g n cap cur hg hroom hfit
      refine ⟨_, _, hr, ⟨hlen, .inr ⟨g, cap, _, rfl, hbg, setRow_heap w g cur _ e _ hg, hroom, hcm, ?_, ?_⟩⟩, ⟨rfl, rfl, rfl, by simp, fun k _ hk => setRow_other w g k _ (fun e => hk (by simp [Value.ownBlock, e]))⟩, Or.inl rfl, fun h => by cases h⟩
      · simp only [List.size_toArray, List.length_append, List.length_take, List.length_drop, Array.length_toList]
        omega
      · rw [htake, ← hlen]
        exact List.take_left
    · have holds : ∀ j u, xs[j]? = some u → w.cell? ((⟨g, 0, none⟩ : Addr).add j) = some u := hown.cells (g := g) rfl
      have hr := hS.grow g n cap xs hown.1 holds (by omega) hsmall hbytes
      have hgr := grown cap (by omega) (Value.ownBlock (.slice (some ⟨g, 0, none⟩) n cap))
      exact ⟨_, _, hr, hgr.1, hgr.2, Or.inr rfl, fun h => by cases h⟩
section
variable {P : Program} {TT : TyTab} {D n : Nat} {Q : APost} {fr : Fr} {L L' K : Hl} {s s' s0 : World} {ops : Array Oper} {rest : List Oper} {d ty : Nat} {op : Op} {pos : String} {af : Array Edge} {v : Value}
theorem Ev_appG {t u e m k sz : Nat} {x y : Operand} {yv : Value} {ti te : TI} {news xs : List Value} (B A L0 : Hl) (hT : TabOK P TT) (hx : lk fr x = some v) (hy : lk fr y = some yv) (ht : tlook TT t = some ti) (hk : ti.kind = .sl e) (he : tlook TT e = some te) (hsz : te.size = sz)
    (hO : Own e sz A v k xs) (hl : news.length = m * sz) (hS : ∀ w i, P.underlying t = some (.slice e) → P.info? e = some i → i.size = te.size → i.bytes = te.bytes → i.zero = some te.zero → Apps P w t u ty e i te.zero yv m news) (h63 : (k + m) * te.bytes ≤ 140737488355328 ∧ k + m ≤ 9223372036854775807) (ho : OKL D (B ++ (A ++ L0)) s) :
    ∃ v' A' s', Ev P TT D fr (.call { callee := .builtin .append, args := #[x, y], argTypes := #[t, u] }) ty (B ++ (A ++ L0)) s (.value v') (B ++ (A' ++ L0)) s' ∧ Le D s s' ∧ Own e sz A' v' (k + m) (xs ++ news) ∧ (v = .slice none 0 0 → m = 0 → v' = .slice none 0 0) := by
  obtain ⟨k1, k2, _⟩ := hT.at_ ht
  rw [hk] at k2
  simp only [TK.fits] at k2
  rw [k2] at k1
  have hte := hT.at_ he
  obtain ⟨i, i1, i2, i3, i4⟩ := info_of hte
  have hzs : te.zero.cells.size = te.size := by rw [zero_cells hte]; simpa using hte.2.2.2.1
  have hin : ∀ x ∈ A, (fill (B ++ (A ++ L0)) s).heap[x.1]? = some x.2 := fun x hx => fill_mem ho (mem_mid.2 (.inr (.inl hx)))
  obtain ⟨v', w', hrun, hown', hgr, hat, hnl⟩ := run_appG (hS (fill (B ++ (A ++ L0)) s) i k1 i1 i2 i3 i4) (i2.trans hsz) i3 (by rw [hzs, hsz]) v k xs (hO.owns hin) hl (by simpa [maxLen] using h63.2) h63.1
  obtain ⟨A', hO', hA'⟩ := Own.of_owns hown'
  rw [fill_size] at hat
  obtain ⟨r1, r2, r3⟩ := of_row (D := D) ho hO hO' hA' hgr hat
  refine ⟨v', A', blank D (B ++ (A' ++ L0)) w', fun hT ho dst pos af g ρ hρ => ⟨?_, r2⟩, r3, hO', hnl⟩
  rw [← r1]
  simp only [execOp, resolve, invoke, builtin, Sem.run_bind, Sem.run_pure, Result.andThen_ok, List.map_toArray, List.map_cons, List.map_nil, hρ x _ hx, hρ y _ hy, hrun]
theorem JO_appG {t u e m k sz : Nat} {x y : Operand} {yv : Value} {ti te : TI} {news xs : List Value} (B A L0 : Hl) (hL : L = B ++ (A ++ L0)) (hx : lk fr x = some v) (hy : lk fr y = some yv) (ht : tlook TT t = some ti) (hk : ti.kind = .sl e) (he : tlook TT e = some te) (hsz : te.size = sz)
    (hO : Own e sz A v k xs) (hl : news.length = m * sz) (hS : TabOK P TT → ∀ w i, P.underlying t = some (.slice e) → P.info? e = some i → i.size = te.size → i.bytes = te.bytes → i.zero = some te.zero → Apps P w t u ty e i te.zero yv m news) (h63 : (k + m) * te.bytes ≤ 140737488355328 ∧ k + m ≤ 9223372036854775807) (hd : Nat.blt d n = true)
    (kk : ∀ v' A' s', Le D s s' → Own e sz A' v' (k + m) (xs ++ news) → (v = .slice none 0 0 → m = 0 → v' = .slice none 0 0) → JO P TT D n ops Q rest ((d, v') :: fr) (B ++ (A' ++ L0)) s') :
    JO P TT D n ops Q (⟨some d, .call { callee := .builtin .append, args := #[x, y], argTypes := #[t, u] }, ty, pos, af, none⟩ :: rest) fr L s := fun hT a hr ho => by
  subst hL
  obtain ⟨v', A', s', h1, h2, h3, h4⟩ := Ev_appG (ty := ty) B A L0 hT hx hy ht hk he hsz hO hl (hS hT) h63 ho
  exact JO_ev hd h1 (kk v' A' s' h2 h3 h4) hT a hr ho
theorem JB_appG {i0 t u e m k sz : Nat} {g : Option (Nat × Bool)} {fuel : Nat} {listed : Array Bool} {x y : Operand} {yv : Value} {ti te : TI} {news xs : List Value} (hi0 : ops[i0]? = some ⟨some d, .call { callee := .builtin .append, args := #[x, y], argTypes := #[t, u] }, ty, pos, af, g⟩) (hgk : GOK ops fr g)
    (B A L0 : Hl) (hL : L = B ++ (A ++ L0)) (hx : lk fr x = some v) (hy : lk fr y = some yv) (ht : tlook TT t = some ti) (hk : ti.kind = .sl e) (he : tlook TT e = some te) (hsz : te.size = sz)
    (hO : Own e sz A v k xs) (hl : news.length = m * sz) (hS : TabOK P TT → ∀ w i, P.underlying t = some (.slice e) → P.info? e = some i → i.size = te.size → i.bytes = te.bytes → i.zero = some te.zero → Apps P w t u ty e i te.zero yv m news) (h63 : (k + m) * te.bytes ≤ 140737488355328 ∧ k + m ≤ 9223372036854775807) (hd : Nat.blt d n = true) (hK : ∀ A', ∀ x ∈ K, x ∈ B ++ (A ++ L0) → x ∈ B ++ (A' ++ L0))
    (kk : ∀ v' A' s', Le D s s' → Own e sz A' v' (k + m) (xs ++ news) → JA P TT D n ops Q K s0 fuel (listed.setIfInBounds i0 true) ((d, v') :: fr) (B ++ (A' ++ L0)) s') :
    JB P TT D n ops Q K s0 fuel listed i0 fr L s := fun hT a hr ho hl0 hKL => by
  subst hL
  obtain ⟨v', A', s', h1, h2, h3, h4⟩ := Ev_appG (ty := ty) B A L0 hT hx hy ht hk he hsz hO hl (hS hT) h63 ho
  exact JB_ev hi0 hgk h1 h2 (hK A') hd (kk v' A' s' h2 h3) hT a hr ho hl0 hKL
end
theorem apps_str {P : Program} {w : World} {t u ty e : Nat} {i : TypeInfo} {z : Value} (l : List UInt8) (ht : P.underlying t = some (.slice e)) (hu : P.underlying u = some .string) (hi : P.info? e = some i) (hs : i.size = 1) (hb : i.bytes = 1) (hz : i.zero = some z) :
    Apps P w t u ty e i z (St l) l.length (l.map fun b => Value.int .u8 (b.toNat : Int)) := by
  have hsz : (⟨l.toArray⟩ : ByteArray).size = l.length := by simp [ByteArray.size]
  have hcs : Lib.strCells ⟨l.toArray⟩ = l.map fun b => Value.int .u8 (b.toNat : Int) := by simp [Lib.strCells]
  refine ⟨fun h0 => ?_, fun h1 h2 h3 => ?_, fun g sLen sCap cur hg hr hf => ?_, fun g n cap xs hl hc hcap h63 hby => ?_⟩
  · have hf := Lib.run_firstCells_string (P := P) w 1 ⟨l.toArray⟩
    have hl : l = [] := List.eq_nil_of_length_eq_zero h0
    subst hl
    simp [Builtin.append_, run_underlying ht, run_underlying hu, sizeOf, typeInfo, hi, hs, Builtin.lenOf, Builtin.firstCells, ByteArray.size]
  · have hr := run_append_nil_string (P := P) w t u ty e i z ht hu hi hz ⟨l.toArray⟩ (by rw [hsz]; exact h1) (by rw [hsz]; omega) (by rw [hsz]; exact Nat.le_trans h3 (by omega))
    rw [hsz] at hr
    have e1 : ((⟨l.toArray⟩ : ByteArray).data.map fun b => Value.int .u8 (b.toNat : Int)) = (l.map fun b => Value.int .u8 (b.toNat : Int)).toArray := by apply Array.ext'; simp
    rw [e1] at hr
    exact hr
  · have hr' := Lib.run_append_room_string (P := P) (ty := ty) w t u e i ht hu hi hs g sLen sCap cur hg ⟨l.toArray⟩ (by rw [hsz]; exact hr) (by rw [hsz]; simpa [hs] using hf)
    rw [hsz, hcs] at hr'
    rw [hs, Nat.mul_one, List.length_map]
    exact hr'
  · have hr := Lib.run_append_grow_string (P := P) (ty := ty) w t u e i z ht hu hi hz ⟨g, 0, none⟩ n cap xs hl hc ⟨l.toArray⟩ (by rw [hsz]; exact hcap) (by rw [hsz]; omega) (by rw [hsz]; exact growslice_fits hcap hby)
    rw [hsz, hcs] at hr
    exact hr
theorem apps_zero {P : Program} {w : World} {t u ty e : Nat} {i : TypeInfo} {z : Value} {ik : IntKind} (m : Nat) (ht : P.underlying t = some (.slice e)) (hu : P.underlying u = some (.int ik)) (hi : P.info? e = some i) (hs : i.size = 1) (hz : i.zero = some z) (hzc : z.cells = #[z]) (h1c : z.oneCell' = true) (hm : m ≤ 9223372036854775807) (hmb : (m : Int) * i.bytes ≤ 281474976710656) :
    Apps P w t u ty e i z (.int ik (m : Int)) m (List.replicate m z) := by
  have hw : IntKind.i64.wrap (m : Int) = (m : Int) := w64 (by omega) (by omega)
  have h0 : ¬ ((m : Int) < 0) := by omega
  have hmb' : ¬ (281474976710656 < (m : Int) * (i.bytes : Int)) := by omega
  have hzz : Builtin.zeroCells z.cells m = (List.replicate m z).toArray := by
    rw [hzc]; apply Array.ext'; simp only [Builtin.zeroCells]
    apply List.ext_getElem
    · simp
    · intro k h1 h2; simp [Nat.mod_one]
  have happ : ∀ w' : World, (if m * i.size = 0 then (pure #[] : Sem (Array Value)) else do pure (Builtin.zeroCells (← zeroValue e).cells m)).run P w' = .ok (List.replicate m z).toArray w' := fun w' => by
    by_cases hm0 : m = 0
    · subst hm0; simp
    · rw [if_neg (by rw [hs]; omega)]; simp [zeroValue, typeInfo, hi, hz, hzz]
  refine ⟨fun h0 => ?_, fun h1 h2 h3 => ?_, fun g sLen sCap cur hg hr hf => ?_, fun g n cap xs hl hc hcap h63 hby => ?_⟩
  · subst h0
    have hw0 : IntKind.i64.wrap 0 = 0 := hw
    simp [Builtin.append_, run_underlying ht, run_underlying hu, sizeOf, typeInfo, hi, hs, asInt, asIntOf, hw0]
  · have hn : ¬ (m = 0) := by omega
    have h63' : ¬ (9223372036854775807 < (m : Int)) := by omega
    have h48' : ¬ (281474976710656 < Builtin.nextslicecap m 0 * i.bytes) := by rw [nextslicecap_zero h1]; omega
    simp [Builtin.append_, run_underlying ht, run_underlying hu, sizeOf, typeInfo, zeroValue, hi, hz, hs, asInt, asIntOf, hw, h0, hmb', hn, h63', h48', Question.forced, newRow, grownCap, Builtin.firstCells, hzz]
  · have hst := run_storeCells_at P g sLen e (List.replicate m z) 0 cur w hg (by simpa [hs] using hf) (fun u hu => by rw [(List.mem_replicate.1 hu).2]; exact h1c)
    simp only [Nat.add_zero] at hst
    by_cases hm0 : m = 0
    · subst hm0
      have hw0 : IntKind.i64.wrap 0 = 0 := hw
      have hr0 : sLen ≤ sCap := hr
      simp at hst
      simp [Builtin.append_, run_underlying ht, run_underlying hu, sizeOf, typeInfo, zeroValue, hi, hz, hs, asInt, asIntOf, hw0, hr0, Addr.add_lit, hst]
    · simp [Builtin.append_, run_underlying ht, run_underlying hu, sizeOf, typeInfo, zeroValue, hi, hz, hs, asInt, asIntOf, hw, h0, hmb', hr, hm0, Addr.add_lit, hzz, hst]
  · have hn : ¬ (n + m ≤ cap) := by omega
    have h63' : ¬ (9223372036854775807 < ((n : Int) + (m : Int))) := by omega
    have hgs := growslice_fits hcap hby
    have h48' : ¬ (281474976710656 < Builtin.nextslicecap (n + m) cap * i.bytes) := by omega
    have hfo := run_firstCells_some (P := P) w.drew i.size n ⟨g, 0, none⟩ n cap xs hl (by simpa using hc)
    by_cases hm0 : m = 0
    · subst hm0
      rw [hs] at hfo
      have hw0 : IntKind.i64.wrap 0 = 0 := hw
      have hn0 : ¬ (n ≤ cap) := hn
      have h630 : ¬ (9223372036854775807 < (n : Int)) := by omega
      simp [Builtin.append_, run_underlying ht, run_underlying hu, sizeOf, typeInfo, zeroValue, hi, hz, hs, asInt, asIntOf, hw0, hn0, h630, Question.forced, newRow, grownCap, hfo]
      try exact fun h => absurd h h48'
    · rw [hs] at hfo
      simp [Builtin.append_, run_underlying ht, run_underlying hu, sizeOf, typeInfo, zeroValue, hi, hz, hs, asInt, asIntOf, hw, h0, hmb', hn, hm0, h63', h48', Question.forced, newRow, grownCap, hfo, hzz]
section
variable {P : Program} {TT : TyTab} {D n : Nat} {Q : APost} {fr : Fr} {L L' K : Hl} {s s' s0 : World} {ops : Array Oper} {rest : List Oper} {d ty : Nat} {op : Op} {pos : String} {af : Array Edge} {v : Value}
theorem QE_sadd {x y : Operand} {a b : List UInt8} {t t' : Nat} (hx : lk fr x = some (St a)) (hy : lk fr y = some (St b)) (h : a.length + b.length ≤ 9223372036854775807) : QE P TT D fr (.binOp .add t x y t') ty K s0 (St (a ++ b)) :=
  QE.pure fun _ dst pos af g ρ hρ w => by
    have h1 : ¬ (9223372036854775807 < ((a.length : Int) + (b.length : Int))) := by omega
    have e : (⟨a.toArray⟩ : ByteArray) ++ ⟨b.toArray⟩ = ⟨(a ++ b).toArray⟩ := by
      apply ByteArray.ext; simp
    simp [execOp, hρ x _ hx, hρ y _ hy, eqGuard, binOp, Op.stringOp, ByteArray.size, h1, e]
def EqNil (e : Value) (b : Bool) : Prop := (e = .nilIface ∧ b = true) ∨ ∃ u p, e = .iface u p ∧ b = false
theorem QE_inil {x : Operand} {e : Value} {b : Bool} {t t' : Nat} (hu : P.underlying t = some (.interface (P.methodsAt t))) (hx : lk fr x = some e) (hE : EqNil e b) : QE P TT D fr (.binOp .eql t x (.const .nilIface) t') ty K s0 (.bool b) :=
  QE.pure fun _ dst pos af g ρ hρ w => by
    have hc := hρ (.const .nilIface) _ rfl
    rcases hE with ⟨rfl, rfl⟩ | ⟨u, p, rfl, rfl⟩
    · simp [execOp, hρ x _ hx, hc, eqGuard_nil_constR, run_eql_nil_nil w t hu]
    · simp [execOp, hρ x _ hx, hc, eqGuard, run_eql_held_nil w t u p hu]
theorem s2b_world (ho : OKL D L s) (o : Obj) : (fill L s).drew.alloc o = fill L (fill [(s.heap.size, o)] (s.drew.alloc (dum D))) ∧ OKL D L (fill [(s.heap.size, o)] (s.drew.alloc (dum D))) ∧ Le D s (fill [(s.heap.size, o)] (s.drew.alloc (dum D))) := by
  obtain ⟨h1, h2, h3⟩ := alloc_fill ho.drew o
  obtain ⟨d1, d2, d3⟩ := drop_own (A := [(s.drew.heap.size, o)]) (B := L) h2
  rw [drew_fill, h1]
  exact ⟨d1, d2, (Le.drew s).trans (h3.trans d3)⟩
end
end Go.FL
namespace Go.FL
open Go Go.RowKit Go.Proofs.YteomcjpigoaioaaGreatDoor
section
variable {P : Program} {TT : TyTab} {D n : Nat} {Q : APost} {fr : Fr} {L L' K : Hl} {s s' s0 : World} {ops : Array Oper} {rest : List Oper} {d ty : Nat} {op : Op} {pos : String} {af : Array Edge} {v : Value}
theorem s2b_bts {e c : Nat} {l : List UInt8} (ho : OKL D L s) (fz : Nat × Nat) (hc : l.length ≤ c) (hc2 : c ≤ 9223372036854775807) : Bts (fill [(s.heap.size, Obj.cells (bytesRow ⟨l.toArray⟩ c) e fz)] (s.drew.alloc (dum D))) (some ⟨s.heap.size, 0, none⟩) l.length c l := by
  refine ⟨rfl, hc, hc2, fun i x hx => ⟨s.heap.size, 0, [.int .u8 (x.toNat : Int)], rfl, ?_, rfl, rfl⟩⟩
  refine CellsAt.one ?_
  have h1 : (fill [(s.heap.size, Obj.cells (bytesRow ⟨l.toArray⟩ c) e fz)] (s.drew.alloc (dum D))).heap[s.heap.size]? = some (Obj.cells (bytesRow ⟨l.toArray⟩ c) e fz) := by
    show (setBlk (s.drew.alloc (dum D)) s.heap.size _).heap[s.heap.size]? = _
    refine setBlk_same _ ?_
    show s.heap.size < (s.heap.push _).size
    simp
  obtain ⟨hi, rfl⟩ := List.getElem?_eq_some_iff.1 hx
  have h2 := bytesRow_at ⟨l.toArray⟩ c i (by simpa using hi)
  simp only [World.cell?, h1, Nat.zero_add, Nat.mul_one]
  simpa using h2
theorem JO_s2b {t t' e : Nat} {x : Operand} {l : List UInt8} {ti ti' te : TI} (hx : lk fr x = some (St l)) (ht : tlook TT t = some ti) (hk : ti.desc = .string) (ht' : tlook TT t' = some ti') (hk' : ti'.kind = .sl e) (he : tlook TT e = some te) (hke : te.desc = .int .u8) (hl : l.length ≤ 9223372036854775807) (hd : Nat.blt d n = true)
    (k : ∀ A c s', Le D s s' → Bts s' A l.length c l → JO P TT D n ops Q rest ((d, .slice A l.length c) :: fr) L s') :
    JO P TT D n ops Q (⟨some d, .convert t t' x, ty, pos, af, none⟩ :: rest) fr L s := fun hT a hr ho => by
  obtain ⟨k1, k2, _⟩ := hT.at_ ht'
  rw [hk'] at k2
  simp only [TK.fits] at k2
  rw [k2] at k1
  have u1 := (hT.at_ ht).1; rw [hk] at u1
  have u2 := (hT.at_ he).1; rw [hke] at u2
  have hsz : (⟨l.toArray⟩ : ByteArray).size = l.length := by simp [ByteArray.size]
  have hrun := run_bytes_of_string (P := P) (fill L s) t t' e ⟨l.toArray⟩ u1 k1 u2
  rw [hsz, fill_size] at hrun
  obtain ⟨w1, w2, w3⟩ := s2b_world ho (Obj.cells (bytesRow ⟨l.toArray⟩ (grownCap (fill L s) l.length 0 e)) e ((bytesRow ⟨l.toArray⟩ (grownCap (fill L s) l.length 0 e)).size, (bytesRow ⟨l.toArray⟩ (grownCap (fill L s) l.length 0 e)).size + 1))
  refine JO_ev (v := .slice (some ⟨s.heap.size, 0, none⟩) l.length (grownCap (fill L s) l.length 0 e)) hd (fun hT _ dst pos af g ρ hρ => ⟨?_, w2⟩) (k _ _ _ w3 (s2b_bts ho _ (grownCap_ge ..) (by have := grownCap_le_maxLen (fill L s) l.length 0 e (by simpa [maxLen] using hl); simpa [maxLen] using this))) hT a hr ho
  rw [← w1]
  simp only [execOp, hρ x _ hx, Sem.run_bind, hrun, Result.andThen_ok, Sem.run_pure]
end
end Go.FL
namespace Go.FL
open Go Go.RowKit
section
variable {P : Program} {TT : TyTab} {D n : Nat} {Q : APost} {fr : Fr} {L : Hl} {s : World}
inductive SufO (ks : List Nat) (fr : Fr) : Fr → Prop
  | refl : SufO ks fr fr
  | push {d : Nat} {v : Value} {fr' : Fr} (hd : ((flook fr d).isNone || ks.any (Nat.beq d)) = true) (h : SufO ks fr fr') : SufO ks fr ((d, v) :: fr')
theorem SufO.at_ {ks : List Nat} {fr fr' : Fr} (h : SufO ks fr fr') {t : Nat} {v : Value} (ht : ks.any (Nat.beq t) = false) (hv : flook fr t = some v) : flook fr' t = some v := by
  induction h with
  | refl => exact hv
  | @push d u fr' hd _ ih =>
    rw [flook_cons]
    by_cases he : d = t
    · subst he; rw [hv, ht] at hd; cases hd
    · rw [if_neg he]; exact ih
theorem flook_none {l : Fr} {t : Nat} (h : flook l t = none) : (l.map (·.1)).any (Nat.beq t) = false := by
  induction l with
  | nil => rfl
  | cons x l ih =>
    obtain ⟨d, v⟩ := x
    rw [flook_cons] at h
    by_cases he : d = t
    · rw [if_pos he] at h; cases h
    · rw [if_neg he] at h
      simp only [List.map_cons, List.any_cons, ih h, Bool.or_false]
      cases hb : Nat.beq t d with
      | false => rfl
      | true => exact absurd (Nat.eq_of_beq_eq_true hb).symm he
theorem keepsO {new fr fr' : Fr} (h1 : Keeps fr' new) (h2 : SufO (new.map (·.1)) fr fr') : Keeps fr' (new ++ fr) := by
  intro t v h
  rw [flook_append] at h
  cases hn : flook new t with
  | none => rw [hn] at h; exact h2.at_ (flook_none hn) h
  | some u => rw [hn] at h; exact h1 t v (by rw [hn]; exact h)
def MidG {γ : Type} (D : Nat) (s : World) (fr : Fr) (new : γ → Fr) (X : Hl) (H : γ → Hl) (I : γ → World → Prop) : Fr → Hl → World → Prop := fun fr' L' s' => ∃ g A, Le D s s' ∧ L'.Perm (A ++ (X ++ H g)) ∧ I g s' ∧ Keeps fr' (new g ++ fr)
theorem MidG.mk {γ : Type} {new : γ → Fr} {X : Hl} {H : γ → Hl} {I : γ → World → Prop} {fr' : Fr} {L' : Hl} {s' : World} (g : γ) (A : Hl) (hl : Le D s s') (hK : Keeps fr' (new g)) (hS : SufO ((new g).map (·.1)) fr fr') (hp : L'.Perm (A ++ (X ++ H g))) (hI : I g s') : MidG D s fr new X H I fr' L' s' := ⟨g, A, hl, hp, hI, keepsO hK hS⟩
theorem JC_cutG {γ : Type} {x y : Code} (new : γ → Fr) (X : Hl) {Y : Hl} (_hX : L = X ++ Y) (H : γ → Hl) (I : γ → World → Prop) (mono : ∀ g s s', I g s → Le D s s' → I g s') (h1 : JC P TT D n (thenQ (MidG D s fr new X H I) Q) x fr L s)
    (h2 : ∀ g s', Le D s s' → I g s' → JC P TT D n Q y (new g ++ fr) (X ++ H g) s') : JC P TT D n Q (.seq x y) fr L s := fun ht a hr ho =>
  wp_seq (wp_mono (h1 ht a hr ho) fun e a w ⟨fr', L', s', k1, k2, k3, k4⟩ => by
    cases e with
    | normal =>
      subst k3
      obtain ⟨g, A, j0, j2, j3, j1⟩ := k4
      rw [fill_perm j2 _ k2]
      obtain ⟨e, d1, d2⟩ := drop_own (k2.perm j2)
      rw [e]
      exact h2 g _ (j0.trans d2) (mono _ _ _ j3 d2) ht a (k1.sub j1) d1
    | _ => exact ⟨fr', L', s', k1, k2, k3, k4⟩)
end
end Go.FL
namespace Go.FL
open Go Go.RowKit
theorem ndec_eq {p q : Prop} [Decidable p] [Decidable q] (h : p ↔ ¬ q) : (!decide q) = decide p := by
  by_cases hq : q
  · have hp : ¬ p := fun x => (h.1 x) hq
    simp [hq, hp]
  · simp [hq, h.2 hq]
theorem AC.perm {P : Program} {D : Nat} {f : FuncId} {args : List Value} {L L1 : Hl} {s : World} {R R' : Value → Hl → World → Prop} (hp : L.Perm L1) (h : AC P D f args L1 s R) (hq : ∀ v L1' s', R v L1' s' → ∃ L', L1'.Perm L' ∧ R' v L' s') : AC P D f args L s R' :=
  ⟨h.1, fun ho => by
    rw [fill_perm hp _ ho]
    refine (h.2 (ho.perm hp)).mono ?_
    rintro e w' ⟨v, L1', s', he, hw, hok, hl, hr⟩
    obtain ⟨L', h1, h2⟩ := hq v L1' s' hr
    exact ⟨v, L', s', he, by rw [hw, fill_perm h1 _ hok], hok.perm h1, hl, h2⟩⟩
end Go.FL
namespace Go.Proofs.YteomcjpigoaioaaGreatDoor
open Go Go.FL Go.RowKit
structure Ln where
  label : List UInt8
  op : List UInt8
  has : Bool
  name : List UInt8
  num : Int
  deriving DecidableEq
def Ln.cs (x : Ln) : List Value := [St x.label, St x.op, .bool x.has, St x.name, .int .u32 x.num]
def opdL (w : List UInt8) : Option (List UInt8 × Int) :=
  if labelB (cutB 43 w).1 = true then (if (cutB 43 w).2.2 = true then (numL (cutB 43 w).2.1).map (fun (n : Nat) => ((cutB 43 w).1, (n : Int))) else some ((cutB 43 w).1, 0)) else (numL w).map fun (n : Nat) => ([], (n : Int))
def labW : List (List UInt8) → Option (List UInt8 × List (List UInt8))
  | [] => some ([], [])
  | w :: r => if endsB 58 w = true then (if labelB w.dropLast = true then some (w.dropLast, r) else none) else some ([], w :: r)
def bodyW (lab : List UInt8) : List (List UInt8) → Option Ln
  | [] => some ⟨lab, [], false, [], 0⟩
  | [o] => if labelB o = true then some ⟨lab, o, false, [], 0⟩ else none
  | [o, w] => if labelB o = true then (opdL w).map fun x => ⟨lab, o, true, x.1, x.2⟩ else none
  | _ :: _ :: _ :: _ => none
def lineW (ws : List (List UInt8)) : Option Ln := (labW ws).bind fun x => bodyW x.1 x.2
def lineL (l : List UInt8) : Option Ln := lineW (fldB (cutB 59 l).1)
theorem num_dec {l : List UInt8} {u : Nat} (h : Lib.parseUintB 32 l = .ok u) : decide (Lib.decDigits u = l) = (numL l).isSome := by
  by_cases hd : Lib.decDigits u = l
  · rw [(parse_num l u).1 ⟨h, hd⟩, decide_eq_true hd]; rfl
  · rw [decide_eq_false hd]
    cases hn : numL l with
    | none => rfl
    | some v =>
      obtain ⟨h1, h2⟩ := (parse_num l v).2 hn
      rw [h] at h1; injection h1 with h1; subst h1
      exact absurd h2 hd
theorem num_not {l : List UInt8} (h : ∀ u, Lib.parseUintB 32 l ≠ .ok u) : numL l = none := by
  cases hn : numL l with
  | none => rfl
  | some v => exact absurd ((parse_num l v).2 hn).1 (h v)
theorem num_val {l : List UInt8} {u v : Nat} (h : Lib.parseUintB 32 l = .ok u) (hn : numL l = some v) : u = v := by
  have h1 := ((parse_num l v).2 hn).1
  rw [h] at h1; injection h1
theorem wrapU32 (n : Int) : U32 (IntKind.u32.wrap n) := by rw [IntKind.wrap_u32]; exact ⟨by omega, by omega⟩
theorem wrap_small {n : Nat} (h : n < 4294967296) : IntKind.u32.wrap (n : Int) = (n : Int) := by rw [IntKind.wrap_u32]; omega
theorem Strs.tail {s : World} {A : Option Addr} {n c : Nat} {x : List UInt8} {l : List (List UInt8)} (h : Strs s A n c (x :: l)) : ∃ A1 n1 c1, (Value.slice (if c = 1 then A else A.map (·.add (1 * 1))) (n - 1) (c - 1)) = Value.slice A1 n1 c1 ∧ Strs s A1 n1 c1 l := by
  refine ⟨_, _, _, rfl, ?_, ?_, ?_, fun i y hy => ?_⟩
  · have := h.1; simp at this; omega
  · have := h.2.1; omega
  · have := h.2.2.1; omega
  · obtain ⟨b, off, cs, h1, h2, h3, h4⟩ := h.2.2.2 (i + 1) y (by simpa using hy)
    have hc : ¬ c = 1 := by
      have := h.1; have := h.2.1
      have := (List.getElem?_eq_some_iff.1 hy).1
      simp at *; omega
    rw [if_neg hc, h1]
    exact ⟨b, off + 1, cs, rfl, by rw [show off + 1 + i * 1 = off + (i + 1) * 1 by omega]; exact h2, h3, h4⟩
theorem Strs.head {s : World} {A : Option Addr} {n c : Nat} {l : List (List UInt8)} (h : Strs s A n c l) (hn : 0 < n) : ∃ b off x r, A = some ⟨b, off, none⟩ ∧ l = x :: r ∧ CellsAt s b (off + 0) [St x] ∧ x.length ≤ 9223372036854775807 := by
  obtain ⟨b, off, x, h1, h2, h3, h4⟩ := Strs.at_ h hn
  obtain ⟨r, hr⟩ : ∃ r, l = x :: r := by
    cases l with
    | nil => cases h2
    | cons y r => simp at h2; subst h2; exact ⟨r, rfl⟩
  exact ⟨b, off, x, r, h1, hr, h3, h4⟩
theorem cut_len (c : UInt8) (l : List UInt8) : (cutB c l).1.length ≤ l.length ∧ (cutB c l).2.1.length ≤ l.length := by
  unfold cutB
  split
  · exact ⟨Nat.le_refl _, by simp⟩
  · exact ⟨by simp; omega, by simp⟩
theorem labelB_len {l : List UInt8} (h : labelB l = true) : l ≠ [] ∧ l.length ≤ 6 := by
  simp only [labelB, Bool.and_eq_true, decide_eq_true_eq] at h
  exact ⟨h.1.1, h.1.2⟩
theorem lineL_of {l : List UInt8} {W R : List (List UInt8)} {lab : List UInt8} (hW : fldB (cutB 59 l).1 = W) (h : labW W = some (lab, R)) : lineL l = bodyW lab R := by
  rw [lineL, lineW, hW, h]; rfl
theorem lineL_no {l : List UInt8} {W : List (List UInt8)} (hW : fldB (cutB 59 l).1 = W) (h : labW W = none) : lineL l = none := by
  rw [lineL, lineW, hW, h]; rfl
theorem bodyW_one {lab o : List UInt8} (h : labelB o = true) : bodyW lab [o] = some ⟨lab, o, false, [], 0⟩ := by simp [bodyW, h]
theorem bodyW_two {lab o w : List UInt8} (h : labelB o = true) : bodyW lab [o, w] = (opdL w).map fun x => ⟨lab, o, true, x.1, x.2⟩ := by simp [bodyW, h]
theorem bodyW_bad {lab o : List UInt8} {r : List (List UInt8)} (h : labelB o = false) : bodyW lab (o :: r) = none := by
  match r with
  | [] => simp [bodyW, h]
  | [w] => simp [bodyW, h]
  | _ :: _ :: _ => rfl
theorem bodyW_long {lab : List UInt8} {r : List (List UInt8)} (h : 2 < r.length) : bodyW lab r = none := by
  match r, h with
  | _ :: _ :: _ :: _, _ => rfl
end Go.Proofs.YteomcjpigoaioaaGreatDoor
namespace Go.Proofs.YteomcjpigoaioaaGreatDoor
open Go.FL
attribute [local irreducible] JC JO JA JB thenQ blockQ retQ AC fill CellsAt QE Ev Mid
set_option maxHeartbeats 1000000 in
set_option maxRecDepth 100000 in
theorem fmtU0_ac (D : Nat) (L : Hl) (s : World) (hG : GW s) (u : Nat) (hu : u < 4294967296) : AC Tryz.prog D 163 [.int .u64 (u : Int), .int .i64 10] L s fun v L' _ => v = St (Lib.decDigits u) ∧ L = L' := by
 refine AC_enter (TT := TT) (fn := Tryz.f163) TT_ok Tryz.func163 (by kernel_rfl) rfl Tryz.ntmps163 rfl (rs := [.tmp 4]) rfl [(0, _), (1, _)] rfl ?_
 refine JC_seq ?_
 refine JC_region ?_
 refine JO_q (QE_as rfl) rfl ?_
 refine JO_nil ?_
 refine thenQ_n ?_
 refine JC_seq ?_
 refine JC_seq ?_
 refine JC_region ?_
 refine JO_q (QE_mv rfl) rfl ?_
 refine JO_q (QE_eq rfl rfl) rfl ?_
 refine JO_nil ?_
 refine thenQ_n ?_
 refine JC_ifD rfl (fun c1 => ?_) (fun c1 => ?_)
 ·
  refine JC_seq ?_
  refine JC_seq ?_
  refine JC_region ?_
  refine JO_q (QE_mv rfl) rfl ?_
  refine JO_q (QE_lt rfl rfl) rfl ?_
  refine JO_nil ?_
  refine thenQ_n ?_
  refine JC_ifD rfl (fun c2 => ?_) (fun c2 => ?_)
  ·
   refine JC_seq ?_
   refine JC_region ?_
   refine JO_q (QE_mv rfl) rfl ?_
   refine JO_q (QE_conv' rfl rfl rfl rfl rfl (w64 (by omega) (by omega))) rfl ?_
   refine JO_call (first := []) (captured := []) rfl rfl rfl (small_ac D _ _ u (by omega)) ?_
   rintro _ _ s3 h3 ⟨rfl, rfl⟩
   refine JO_q (QE_as rfl) rfl ?_
   refine JO_nil ?_
   refine thenQ_n ?_
   refine JC_ret ?_
   refine thenQ_r ?_
   refine thenQ_r ?_
   refine retQ_mk [] L (.inr rfl) (.tmp rfl (.nil)) rfl h3 (fun sR hS2 => ?_)
   exact ⟨rfl, rfl⟩
  ·
   refine JC_skip ?_
   refine thenQ_n ?_
   refine JC_seq ?_
   refine JC_region ?_
   refine JO_allocZ rfl [_, _, _, _, _, _, _, _, _, _, _, _, _, _, _, _, _, _, _, _, _, _, _, _] rfl rfl ?_
   intro β4 s4 h4
   refine JO_nil ?_
   refine thenQ_n ?_
   refine JC_seq ?_
   refine JC_region ?_
   refine JO_q (QE_mv rfl) rfl ?_
   refine JO_call (first := []) (captured := []) rfl rfl rfl (nd_ac D _ _ (hG.le h4) u (by omega) hu) ?_
   rintro _ _ s5 h5 ⟨rfl, rfl⟩
   refine JO_q (QE_as rfl) rfl ?_
   refine JO_nil ?_
   refine thenQ_n ?_
   refine JC_seq ?_
   refine JC_region ?_
   refine JO_q (QE_mv rfl) rfl ?_
   refine JO_q (QE_slA rfl rfl rfl rfl rfl (by have := nd_le hu; omega)) rfl ?_
   refine JO_q (QE_mv rfl) rfl ?_
   refine JO_call (first := []) (captured := []) rfl rfl rfl (format_ac D _ _ u hu _ _) ?_
   rintro _ _ s6 h6 ⟨rfl, ys, rfl, hys⟩
   refine JO_nil ?_
   refine thenQ_n ?_
   refine JC_seq ?_
   refine JC_pubX [] [_] _ ?_
   intro s7 h7 hpub7
   simp only [List.cons_append, List.nil_append]
   have hbt := bts_pub (l := Lib.decDigits u) (hpub7 _ _ _ (List.mem_cons_self ..)) hys (by omega)
   rw [Lib.decDigits_length] at hbt
   refine JC_region ?_
   refine JO_q (QE_mv rfl) rfl ?_
   refine JO_q (QE_slA rfl rfl rfl rfl rfl (by have := nd_le hu; omega)) rfl ?_
   refine JO_q (QE_b2s rfl rfl rfl rfl rfl rfl rfl (hbt.le (Le.refl (D := D) _))) rfl ?_
   refine JO_q (QE_as rfl) rfl ?_
   refine JO_nil ?_
   refine thenQ_n ?_
   refine JC_ret ?_
   refine thenQ_r ?_
   refine retQ_mk [] L (.inr rfl) (.tmp rfl (.nil)) rfl (Le.trans (Le.trans (Le.trans h4 h5) h6) h7) (fun sR hS2 => ?_)
   exact ⟨rfl, rfl⟩
 ·
  exact absurd rfl c1 --end
set_option maxHeartbeats 1000000 in
set_option maxRecDepth 100000 in
theorem fmtU_ac (D : Nat) (L : Hl) (s : World) (hG : GW s) (u : Nat) (hu : u < 4294967296) : AC Tryz.prog D 156 [.int .u64 (u : Int), .int .i64 10] L s fun v L' _ => v = St (Lib.decDigits u) ∧ L = L' := by
 refine AC_enter (TT := TT) (fn := Tryz.f156) TT_ok Tryz.func156 (by kernel_rfl) rfl Tryz.ntmps156 rfl (rs := [.tmp 4]) rfl [(0, _), (1, _)] rfl ?_
 refine JC_seq ?_
 refine JC_region ?_
 refine JO_q (QE_as rfl) rfl ?_
 refine JO_nil ?_
 refine thenQ_n ?_
 refine JC_seq ?_
 refine JC_region ?_
 refine JO_q (QE_mv rfl) rfl ?_
 refine JO_q (QE_mv rfl) rfl ?_
 refine JO_call (first := []) (captured := []) rfl rfl rfl (fmtU0_ac D _ _ (hG.le (Le.refl (D := D) _)) u hu) ?_
 rintro _ _ s1 h1 ⟨rfl, rfl⟩
 refine JO_q (QE_as rfl) rfl ?_
 refine JO_nil ?_
 refine thenQ_n ?_
 refine JC_ret ?_
 refine retQ_mk [] L (.inr rfl) (.tmp rfl (.nil)) rfl h1 (fun sR hS2 => ?_)
 exact ⟨rfl, rfl⟩
theorem errT : Tryz.prog.underlying 106 = some (.interface (Tryz.prog.methodsAt 106)) := by kernel_rfl
theorem parseE_ac (D : Nat) (L : Hl) (s : World) (hG : GW s) (l : List UInt8) (hl : l.length ≤ 281474976710656) : AC Tryz.prog D 155 [St l, .int .i64 10, .int .i64 32] L s fun v L' _ => L = L' ∧ ∃ n e b, v = .tuple #[.int .u64 n, e] ∧ EqNil e b ∧ (b = true → ∃ u : Nat, n = (u : Int) ∧ Lib.parseUintB 32 l = .ok u) ∧ (b = false → ∀ u, Lib.parseUintB 32 l ≠ .ok u) :=
  (parse_ac D L s hG l hl).mono fun v L' s' _ ⟨hv, hL⟩ => by
    refine ⟨hL, ?_⟩
    cases hv with
    | ok u h => exact ⟨_, _, true, rfl, .inl ⟨rfl, rfl⟩, fun _ => ⟨u, rfl, h⟩, fun h => by cases h⟩
    | bad h n t p => exact ⟨_, _, false, rfl, .inr ⟨_, _, rfl, rfl⟩, (fun h => by cases h), fun _ => h⟩
set_option maxHeartbeats 1000000 in
set_option maxRecDepth 100000 in
theorem readNum_ac (D : Nat) (L : Hl) (s : World) (hG : GW s) (l : List UInt8) (hl : l.length ≤ 281474976710656) : AC Tryz.prog D 142 [St l] L s fun v L' _ => L = L' ∧ ∃ k, v = .tuple #[.int .u32 k, .bool (numL l).isSome] ∧ U32 k ∧ ∀ u, numL l = some u → k = (u : Int) := by
 refine AC_enter (TT := TT) (fn := Tryz.f142) TT_ok Tryz.func142 (by kernel_rfl) rfl Tryz.ntmps142 rfl (rs := [.tmp 2, .tmp 3]) rfl [(0, _)] rfl ?_
 refine JC_seq ?_
 refine JC_region ?_
 refine JO_q (QE_as rfl) rfl ?_
 refine JO_q (QE_as rfl) rfl ?_
 refine JO_nil ?_
 refine thenQ_n ?_
 refine JC_seq ?_
 refine JC_region ?_
 refine JO_q (QE_mv rfl) rfl ?_
 refine JO_call (first := []) (captured := []) rfl rfl rfl (parseE_ac D _ _ (hG.le (Le.refl (D := D) _)) l hl) ?_
 rintro _ _ s1 h1 ⟨rfl, n, e, b, rfl, hE, hT, hF⟩
 refine JO_q (QE_mv rfl) rfl ?_
 refine JO_q (QE_ext rfl rfl) rfl ?_
 refine JO_q (QE_ext rfl rfl) rfl ?_
 refine JO_q (QE_as rfl) rfl ?_
 refine JO_q (QE_as rfl) rfl ?_
 refine JO_nil ?_
 refine thenQ_n ?_
 refine JC_seq ?_
 refine JC_region ?_
 refine JO_q (QE_mv rfl) rfl ?_
 refine JO_q (QE_conv rfl rfl rfl rfl rfl) rfl ?_
 refine JO_q (QE_mv rfl) rfl ?_
 refine JO_q (QE_inil errT rfl hE) rfl ?_
 refine JO_q (QE_mv rfl) rfl ?_
 refine JO_case (t := 15) rfl (fun c2 => ?_) (fun c2 => ?_)
 ·
  refine JO_gT rfl rfl ?_
  obtain ⟨u, rfl, hu⟩ := hT (by assumption)
  refine JO_q (QE_mv rfl) rfl ?_
  refine JO_gT rfl rfl ?_
  refine JO_call (first := []) (captured := []) rfl rfl rfl (fmtU_ac D _ _ (hG.le h1) u (by have := Lib.parseUintB_le hu; omega)) ?_
  rintro _ _ s3 h3 ⟨rfl, rfl⟩
  refine JO_gT rfl rfl ?_
  refine JO_q (QE_mv rfl) rfl ?_
  refine JO_gT rfl rfl ?_
  refine JO_q (QE_seq rfl rfl) rfl ?_
  refine JO_q (QE_pickT rfl rfl) rfl ?_
  refine JO_q (QE_as rfl) rfl ?_
  refine JO_q (QE_as rfl) rfl ?_
  refine JO_nil ?_
  refine thenQ_n ?_
  refine JC_ret ?_
  refine retQ_mk [] L (.inr rfl) (.tmp rfl (.tmp rfl (.nil))) rfl (Le.trans h1 h3) (fun sR hS2 => ?_)
  first
    | (refine ⟨rfl, IntKind.u32.wrap (u : Int), ?_, wrapU32 _, fun v hv => ?_⟩
       · rw [← num_dec hu]; rfl
       · have := num_val hu hv; subst this; exact wrap_small (by have := Lib.parseUintB_le hu; omega))
    | (refine ⟨rfl, IntKind.u32.wrap n, ?_, wrapU32 _, fun v hv => ?_⟩
       · rw [num_not (hF (by assumption))]; rfl
       · rw [num_not (hF (by assumption))] at hv; cases hv)
 ·
  refine JO_gF rfl rfl rfl rfl ?_
  refine JO_gF rfl rfl rfl rfl ?_
  refine JO_gF rfl rfl rfl rfl ?_
  refine JO_gF rfl rfl rfl rfl ?_
  refine JO_q (QE_pickF rfl rfl) rfl ?_
  refine JO_q (QE_as rfl) rfl ?_
  refine JO_q (QE_as rfl) rfl ?_
  refine JO_nil ?_
  refine thenQ_n ?_
  refine JC_ret ?_
  refine retQ_mk [] L (.inr rfl) (.tmp rfl (.tmp rfl (.nil))) rfl h1 (fun sR hS2 => ?_)
  first
    | (refine ⟨rfl, IntKind.u32.wrap (u : Int), ?_, wrapU32 _, fun v hv => ?_⟩
       · rw [← num_dec hu]; rfl
       · have := num_val hu hv; subst this; exact wrap_small (by have := Lib.parseUintB_le hu; omega))
    | (refine ⟨rfl, IntKind.u32.wrap n, ?_, wrapU32 _, fun v hv => ?_⟩
       · rw [num_not (hF (by assumption))]; rfl
       · rw [num_not (hF (by assumption))] at hv; cases hv)
set_option maxHeartbeats 1000000 in
set_option maxRecDepth 100000 in
theorem readOpd_ac (D : Nat) (L : Hl) (s : World) (hG : GW s) (l : List UInt8) (hl : l.length ≤ 281474976710656) : AC Tryz.prog D 121 [St l] L s fun v L' _ => L = L' ∧ ∃ nm k, v = .tuple #[.agg #[St nm, .int .u32 k], .bool (opdL l).isSome] ∧ U32 k ∧ ∀ x, opdL l = some x → (nm, k) = x := by
 have hl1 := (cut_len 43 l).2
 refine AC_enter (TT := TT) (fn := Tryz.f121) TT_ok Tryz.func121 (by kernel_rfl) rfl Tryz.ntmps121 rfl (rs := [.cell 2 140, .tmp 3]) rfl [(0, _)] rfl ?_
 refine JC_seq ?_
 refine JC_region ?_
 refine JO_allocZ rfl [_, _] rfl rfl ?_
 intro β1 s1 h1
 refine JO_q (QE_as rfl) rfl ?_
 refine JO_nil ?_
 refine thenQ_n ?_
 refine JC_seq ?_
 refine JC_region ?_
 refine JO_q (QE_mv rfl) rfl ?_
 refine JO_call (first := []) (captured := []) rfl rfl rfl (cut_ac D _ _ l 43 (by omega)) ?_
 rintro _ _ s2 h2 ⟨rfl, rfl⟩
 refine JO_q (QE_mv rfl) rfl ?_
 refine JO_q (QE_ext rfl rfl) rfl ?_
 refine JO_q (QE_ext rfl rfl) rfl ?_
 refine JO_q (QE_ext rfl rfl) rfl ?_
 refine JO_q (QE_as rfl) rfl ?_
 refine JO_q (QE_as rfl) rfl ?_
 refine JO_q (QE_as rfl) rfl ?_
 refine JO_nil ?_
 refine thenQ_n ?_
 refine JC_seq ?_
 refine JC_seq ?_
 refine JC_region ?_
 refine JO_q (QE_mv rfl) rfl ?_
 refine JO_call (first := []) (captured := []) rfl rfl rfl (aName_ac D _ _ _) ?_
 rintro _ _ s3 h3 ⟨rfl, rfl⟩
 refine JO_nil ?_
 refine thenQ_n ?_
 refine JC_if rfl (fun c4 => ?_) (fun c4 => ?_)
 ·
  have hlb := c4
  refine JC_seq ?_
  refine JC_seq ?_
  refine JC_region ?_
  refine JO_q (QE_mv rfl) rfl ?_
  refine JO_q (QE_not rfl) rfl ?_
  refine JO_nil ?_
  refine thenQ_n ?_
  refine JC_ifM rfl (fun c5 => ?_) (fun c5 => ?_)
  ·
   have hpl := c5
   refine JC_seq ?_
   refine JC_region ?_
   refine JO_q (QE_mv rfl) rfl ?_
   refine JO_q (QE_build [(_, _)] [_, _] rfl rfl rfl rfl rfl rfl) rfl ?_
   refine JO_st 0 [_, _] rfl rfl rfl rfl rfl rfl rfl rfl rfl ?_
   refine JO_q (QE_as rfl) rfl ?_
   refine JO_nil ?_
   refine thenQ_n ?_
   refine JC_ret ?_
   refine thenQ_r ?_
   refine thenQ_r ?_
   refine retQ_mk [_] L (.inr rfl) (.agg (us := [_, _]) 0 rfl rfl rfl rfl rfl (.tmp rfl (.nil))) rfl (Le.trans (Le.trans h1 h2) h3) (fun sR hS2 => ?_)
   first
     | (refine ⟨rfl, (cutB 43 l).1, 0, ?_, U32_zero, fun x hx => ?_⟩
        · rw [show opdL l = some ((cutB 43 l).1, 0) by rw [opdL, if_pos hlb, if_neg (by rw [hpl]; decide)]]; rfl
        · rw [show opdL l = some ((cutB 43 l).1, 0) by rw [opdL, if_pos hlb, if_neg (by rw [hpl]; decide)]] at hx; injection hx)
     | (have he : opdL l = (numL (cutB 43 l).2.1).map (fun (n : Nat) => ((cutB 43 l).1, (n : Int))) := by rw [opdL, if_pos hlb, if_pos hpl]
        refine ⟨rfl, (cutB 43 l).1, k, ?_, hku, fun x hx => ?_⟩
        · rw [he, Option.isSome_map]; rfl
        · rw [he] at hx
          obtain ⟨u, hu, rfl⟩ := Option.map_eq_some_iff.1 hx
          rw [hkv u hu])
     | (have he : opdL l = (numL l).map (fun (n : Nat) => ([], (n : Int))) := by rw [opdL, if_neg (by rw [hlb]; decide)]
        refine ⟨rfl, [], k, ?_, hku, fun x hx => ?_⟩
        · rw [he, Option.isSome_map]; rfl
        · rw [he] at hx
          obtain ⟨u, hu, rfl⟩ := Option.map_eq_some_iff.1 hx
          rw [hkv u hu])
  ·
   have hpl := c5
   refine JC_skip ?_
   refine thenQ_n ?_
   refine JC_seq ?_
   refine JC_region ?_
   refine JO_q (QE_mv rfl) rfl ?_
   refine JO_call (first := []) (captured := []) rfl rfl rfl (readNum_ac D _ _ (hG.le (Le.trans (Le.trans h1 h2) h3)) _ (by omega)) ?_
   rintro _ _ s6 h6 ⟨rfl, k, rfl, hku, hkv⟩
   refine JO_q (QE_mv rfl) rfl ?_
   refine JO_q (QE_ext rfl rfl) rfl ?_
   refine JO_q (QE_ext rfl rfl) rfl ?_
   refine JO_q (QE_as rfl) rfl ?_
   refine JO_q (QE_as rfl) rfl ?_
   refine JO_nil ?_
   refine thenQ_n ?_
   refine JC_seq ?_
   refine JC_region ?_
   refine JO_q (QE_mv rfl) rfl ?_
   refine JO_q (QE_mv rfl) rfl ?_
   refine JO_q (QE_build [(_, _), (_, _)] [_, _] rfl rfl rfl rfl rfl rfl) rfl ?_
   refine JO_q (QE_mv rfl) rfl ?_
   refine JO_st 0 [_, _] rfl rfl rfl rfl rfl rfl rfl rfl rfl ?_
   refine JO_q (QE_as rfl) rfl ?_
   refine JO_nil ?_
   refine thenQ_n ?_
   refine JC_ret ?_
   refine thenQ_r ?_
   refine retQ_mk [_] L (.inr rfl) (.agg (us := [_, _]) 0 rfl rfl rfl rfl rfl (.tmp rfl (.nil))) rfl (Le.trans (Le.trans (Le.trans h1 h2) h3) h6) (fun sR hS2 => ?_)
   first
     | (refine ⟨rfl, (cutB 43 l).1, 0, ?_, U32_zero, fun x hx => ?_⟩
        · rw [show opdL l = some ((cutB 43 l).1, 0) by rw [opdL, if_pos hlb, if_neg (by rw [hpl]; decide)]]; rfl
        · rw [show opdL l = some ((cutB 43 l).1, 0) by rw [opdL, if_pos hlb, if_neg (by rw [hpl]; decide)]] at hx; injection hx)
     | (have he : opdL l = (numL (cutB 43 l).2.1).map (fun (n : Nat) => ((cutB 43 l).1, (n : Int))) := by rw [opdL, if_pos hlb, if_pos hpl]
        refine ⟨rfl, (cutB 43 l).1, k, ?_, hku, fun x hx => ?_⟩
        · rw [he, Option.isSome_map]; rfl
        · rw [he] at hx
          obtain ⟨u, hu, rfl⟩ := Option.map_eq_some_iff.1 hx
          rw [hkv u hu])
     | (have he : opdL l = (numL l).map (fun (n : Nat) => ([], (n : Int))) := by rw [opdL, if_neg (by rw [hlb]; decide)]
        refine ⟨rfl, [], k, ?_, hku, fun x hx => ?_⟩
        · rw [he, Option.isSome_map]; rfl
        · rw [he] at hx
          obtain ⟨u, hu, rfl⟩ := Option.map_eq_some_iff.1 hx
          rw [hkv u hu])
 ·
  have hlb := c4
  refine JC_skip ?_
  refine thenQ_n ?_
  refine JC_seq ?_
  refine JC_region ?_
  refine JO_q (QE_mv rfl) rfl ?_
  refine JO_call (first := []) (captured := []) rfl rfl rfl (readNum_ac D _ _ (hG.le (Le.trans (Le.trans h1 h2) h3)) _ hl) ?_
  rintro _ _ s7 h7 ⟨rfl, k, rfl, hku, hkv⟩
  refine JO_q (QE_mv rfl) rfl ?_
  refine JO_q (QE_ext rfl rfl) rfl ?_
  refine JO_q (QE_ext rfl rfl) rfl ?_
  refine JO_q (QE_as rfl) rfl ?_
  refine JO_q (QE_as rfl) rfl ?_
  refine JO_nil ?_
  refine thenQ_n ?_
  refine JC_seq ?_
  refine JC_region ?_
  refine JO_q (QE_mv rfl) rfl ?_
  refine JO_q (QE_build [(_, _)] [_, _] rfl rfl rfl rfl rfl rfl) rfl ?_
  refine JO_q (QE_mv rfl) rfl ?_
  refine JO_st 0 [_, _] rfl rfl rfl rfl rfl rfl rfl rfl rfl ?_
  refine JO_q (QE_as rfl) rfl ?_
  refine JO_nil ?_
  refine thenQ_n ?_
  refine JC_ret ?_
  refine retQ_mk [_] L (.inr rfl) (.agg (us := [_, _]) 0 rfl rfl rfl rfl rfl (.tmp rfl (.nil))) rfl (Le.trans (Le.trans (Le.trans h1 h2) h3) h7) (fun sR hS2 => ?_)
  first
    | (refine ⟨rfl, (cutB 43 l).1, 0, ?_, U32_zero, fun x hx => ?_⟩
       · rw [show opdL l = some ((cutB 43 l).1, 0) by rw [opdL, if_pos hlb, if_neg (by rw [hpl]; decide)]]; rfl
       · rw [show opdL l = some ((cutB 43 l).1, 0) by rw [opdL, if_pos hlb, if_neg (by rw [hpl]; decide)]] at hx; injection hx)
    | (have he : opdL l = (numL (cutB 43 l).2.1).map (fun (n : Nat) => ((cutB 43 l).1, (n : Int))) := by rw [opdL, if_pos hlb, if_pos hpl]
       refine ⟨rfl, (cutB 43 l).1, k, ?_, hku, fun x hx => ?_⟩
       · rw [he, Option.isSome_map]; rfl
       · rw [he] at hx
         obtain ⟨u, hu, rfl⟩ := Option.map_eq_some_iff.1 hx
         rw [hkv u hu])
    | (have he : opdL l = (numL l).map (fun (n : Nat) => ([], (n : Int))) := by rw [opdL, if_neg (by rw [hlb]; decide)]
       refine ⟨rfl, [], k, ?_, hku, fun x hx => ?_⟩
       · rw [he, Option.isSome_map]; rfl
       · rw [he] at hx
         obtain ⟨u, hu, rfl⟩ := Option.map_eq_some_iff.1 hx
         rw [hkv u hu])
end Go.Proofs.YteomcjpigoaioaaGreatDoor
namespace Go.Proofs.YteomcjpigoaioaaGreatDoor
open Go.FL
attribute [local irreducible] JC JO JA JB thenQ blockQ retQ AC fill CellsAt QE Ev Mid
set_option maxHeartbeats 2000000 in
set_option maxRecDepth 100000 in
theorem readLine_ac (D : Nat) (L : Hl) (s : World) (hG : GW s) (l : List UInt8) (hl : l.length ≤ 400000) : AC Tryz.prog D 100 [St l] L s fun v L' _ => L = L' ∧ ∃ x : Ln, v = .tuple #[.agg x.cs.toArray, .bool (lineL l).isSome] ∧ U32 x.num ∧ ∀ y, lineL l = some y → x = y := by
 have hl1 := (cut_len 59 l).1
 refine AC_enter (TT := TT) (fn := Tryz.f100) TT_ok Tryz.func100 (by kernel_rfl) rfl Tryz.ntmps100 rfl (rs := [.cell 2 173, .tmp 3]) rfl [(0, _)] rfl ?_
 refine JC_seq ?_
 refine JC_region ?_
 refine JO_allocZ rfl [_, _, _, _, _] rfl rfl ?_
 intro β1 s1 h1
 refine JO_q (QE_as rfl) rfl ?_
 refine JO_nil ?_
 refine thenQ_n ?_
 refine JC_seq ?_
 refine JC_region ?_
 refine JO_q (QE_mv rfl) rfl ?_
 refine JO_call (first := []) (captured := []) rfl rfl rfl (cut_ac D _ _ l 59 (by omega)) ?_
 rintro _ _ s2 h2 ⟨rfl, rfl⟩
 refine JO_q (QE_mv rfl) rfl ?_
 refine JO_q (QE_ext rfl rfl) rfl ?_
 refine JO_q (QE_ext rfl rfl) rfl ?_
 refine JO_q (QE_ext rfl rfl) rfl ?_
 refine JO_q (QE_as rfl) rfl ?_
 refine JO_nil ?_
 refine thenQ_n ?_
 refine JC_seq ?_
 refine JC_region ?_
 refine JO_q (QE_mv rfl) rfl ?_
 refine JO_call (first := []) (captured := []) rfl rfl rfl (fields_ac D _ _ _ (by omega)) ?_
 rintro _ _ s3 h3 ⟨rfl, Aw, nw, cw, rfl, hW⟩
 have hn := hW.1
 have hmem : ∀ x ∈ fldB (cutB 59 l).1, x.length ≤ 400000 := fun x hx => by have := (fld_mem hx).2; omega
 generalize hWW : fldB (cutB 59 l).1 = W at hW hmem hn
 refine JO_q (QE_as rfl) rfl ?_
 refine JO_nil ?_
 refine thenQ_n ?_
 refine JC_seq ?_
 refine JC_region ?_
 refine JO_allocZ rfl [_, _, _, _, _] rfl rfl ?_
 intro β4 s4 h4
 refine JO_nil ?_
 refine thenQ_n ?_
 refine JC_seq ?_
 refine JC_seq ?_
 refine JC_region ?_
 refine JO_q (QE_mv rfl) rfl ?_
 refine JO_q (QE_lenS rfl rfl rfl) rfl ?_
 refine JO_q (QE_gt rfl rfl) rfl ?_
 refine JO_nil ?_
 refine thenQ_n ?_
 refine JC_ifD rfl (fun c5 => ?_) (fun c5 => ?_)
 ·
  obtain ⟨b0, off0, w0, R, rfl, hWc, hc0, hlw0⟩ := Strs.head (hW.le h4) (show 0 < nw by omega)
  subst hWc
  refine JC_seq ?_
  refine JC_region ?_
  refine JO_q (QE_mv rfl) rfl ?_
  refine JO_q (QE_ia1 (j := 0) rfl rfl rfl rfl rfl rfl (show 0 < nw by omega)) rfl ?_
  refine JO_q (QE_ldsR0 rfl rfl rfl (hc0.le (Le.refl (D := D) _)) rfl) rfl ?_
  refine JO_call (first := []) (captured := []) rfl rfl rfl (cutSuffix_ac D _ _ _ 58 hlw0) ?_
  rintro _ _ s6 h6 ⟨rfl, rfl⟩
  refine JO_q (QE_mv rfl) rfl ?_
  refine JO_q (QE_ext rfl rfl) rfl ?_
  refine JO_q (QE_ext rfl rfl) rfl ?_
  refine JO_q (QE_as rfl) rfl ?_
  refine JO_q (QE_as rfl) rfl ?_
  refine JO_nil ?_
  refine thenQ_n ?_
  refine JC_seq ?_
  refine JC_region ?_
  refine JO_q (QE_mv rfl) rfl ?_
  refine JO_nil ?_
  refine thenQ_n ?_
  refine JC_if rfl (fun c7 => ?_) (fun c7 => ?_)
  ·
   have he := c7
   rw [if_pos he]
   refine JC_seq ?_
   refine JC_seq ?_
   refine JC_region ?_
   refine JO_q (QE_mv rfl) rfl ?_
   refine JO_call (first := []) (captured := []) rfl rfl rfl (aName_ac D _ _ _) ?_
   rintro _ _ s8 h8 ⟨rfl, rfl⟩
   refine JO_q (QE_not rfl) rfl ?_
   refine JO_nil ?_
   refine thenQ_n ?_
   refine JC_ifM rfl (fun c9 => ?_) (fun c9 => ?_)
   ·
    have hlb := c9
    refine JC_seq ?_
    refine JC_region ?_
    refine JO_q (QE_build [] [_, _, _, _, _] rfl rfl rfl rfl rfl rfl) rfl ?_
    refine JO_st 1 [_, _, _, _, _] rfl rfl rfl rfl rfl rfl rfl rfl rfl ?_
    refine JO_q (QE_as rfl) rfl ?_
    refine JO_nil ?_
    refine thenQ_n ?_
    refine JC_ret ?_
    refine thenQ_r ?_
    refine thenQ_r ?_
    refine retQ_mk [_, _] L (.inr rfl) (.agg (us := [_, _, _, _, _]) 1 rfl rfl rfl rfl rfl (.tmp rfl (.nil))) rfl (Le.trans (Le.trans (Le.trans (Le.trans (Le.trans h1 h2) h3) h4) h6) h8) (fun sR hS2 => ?_)
    first
      | (have hN : lineL l = none := by
           first
           | exact lineL_no hWW (by rw [labW, if_pos he, if_neg (by rw [hlb]; decide)])
           | (rw [hlab]; exact bodyW_bad (by assumption))
           | (rw [hlab]; exact bodyW_long (by simp only [List.length_cons]; omega))
         rw [hN]
         exact ⟨rfl, ⟨[], [], false, [], 0⟩, rfl, U32_zero, fun y hy => by cases hy⟩)
      | (rw [hlab, bodyW_two (by assumption), Option.isSome_map]
         first
         | exact ⟨rfl, ⟨[], w1, true, nm, kk⟩, rfl, hku, fun y hy => by
             obtain ⟨x, hx, rfl⟩ := Option.map_eq_some_iff.1 hy
             have := hkv x hx; subst this; rfl⟩
         | exact ⟨rfl, ⟨w0.dropLast, w1, true, nm, kk⟩, rfl, hku, fun y hy => by
             obtain ⟨x, hx, rfl⟩ := Option.map_eq_some_iff.1 hy
             have := hkv x hx; subst this; rfl⟩)
      | (obtain rfl : R1 = [] := List.eq_nil_of_length_eq_zero (by omega)
         rw [hlab, bodyW_one (by assumption)]
         first
         | exact ⟨rfl, ⟨[], w1, false, [], 0⟩, rfl, U32_zero, fun y hy => by injection hy⟩
         | exact ⟨rfl, ⟨w0.dropLast, w1, false, [], 0⟩, rfl, U32_zero, fun y hy => by injection hy⟩)
      | (have hR : R = [] := List.eq_nil_of_length_eq_zero (by omega)
         subst hR
         rw [hlab]
         exact ⟨rfl, ⟨w0.dropLast, [], false, [], 0⟩, rfl, U32_zero, fun y hy => by injection hy⟩)
      | (rw [hlab]
         exact ⟨rfl, ⟨[], [], false, [], 0⟩, rfl, U32_zero, fun y hy => by injection hy⟩)
      | (exfalso; simp only [List.length_cons] at hn; omega)
   ·
    have hlb := c9
    obtain ⟨A1, n1, c1, hsl, hW1⟩ := Strs.tail (hW.le (Le.trans (Le.trans h4 h6) h8))
    have hlab : lineL l = bodyW w0.dropLast R := lineL_of hWW (by rw [labW, if_pos he, if_pos hlb])
    have hn1 := hW1.1
    refine JC_skip ?_
    refine thenQ_n ?_
    refine JC_drawE drawsMixed 6 rfl [0] (by intro x hx; exact eraseAll_mem hx) ?_
    intro s10 h10
    refine JA_q 0 rfl (by kernel_rfl) (by kernel_rfl) (by kernel_rfl) trivial (QE_mv rfl) rfl ?_
    refine JA_q 1 rfl (by kernel_rfl) (by kernel_rfl) (by kernel_rfl) trivial (QE_mv rfl) rfl ?_
    refine JA_q 2 rfl (by kernel_rfl) (by kernel_rfl) (by kernel_rfl) trivial (QE_cast (QE_slL (j := 1) rfl rfl rfl rfl rfl (by omega)) hsl) rfl ?_
    refine JA_q 3 rfl (by kernel_rfl) (by kernel_rfl) (by kernel_rfl) trivial (QE_fa0 rfl rfl rfl rfl) rfl ?_
    refine JA_1 4 (by kernel_rfl) ?_
    refine JB_st rfl trivial 0 [_, _, _, _, _] rfl rfl rfl rfl rfl rfl rfl rfl rfl (fun _ hx => sub_mem (sbY (sbE _)) hx) ?_
    refine JA_q 5 rfl (by kernel_rfl) (by kernel_rfl) (by kernel_rfl) trivial (QE_as rfl) rfl ?_
    refine JA_done (by kernel_rfl) ?_
    refine thenQ_n ?_
    refine JC_seq ?_
    refine JC_seq ?_
    refine JC_region ?_
    refine JO_q (QE_mv rfl) rfl ?_
    refine JO_q (QE_lenS rfl rfl rfl) rfl ?_
    refine JO_q (QE_eq rfl rfl) rfl ?_
    refine JO_nil ?_
    refine thenQ_n ?_
    refine JC_ifD rfl (fun c11 => ?_) (fun c11 => ?_)
    ·
     have hz1 := c11
     refine JC_seq ?_
     refine JC_region ?_
     refine JO_q (QE_ldA 0 [_, _, _, _, _] rfl rfl rfl rfl rfl) rfl ?_
     refine JO_st 1 [_, _, _, _, _] rfl rfl rfl rfl rfl rfl rfl rfl rfl ?_
     refine JO_q (QE_as rfl) rfl ?_
     refine JO_nil ?_
     refine thenQ_n ?_
     refine JC_ret ?_
     refine thenQ_r ?_
     refine retQ_mk [_, _] L (.inr rfl) (.agg (us := [_, _, _, _, _]) 1 rfl rfl rfl rfl rfl (.tmp rfl (.nil))) rfl (Le.trans (Le.trans (Le.trans (Le.trans (Le.trans (Le.trans h1 h2) h3) h4) h6) h8) h10) (fun sR hS2 => ?_)
     first
       | (have hN : lineL l = none := by
            first
            | exact lineL_no hWW (by rw [labW, if_pos he, if_neg (by rw [hlb]; decide)])
            | (rw [hlab]; exact bodyW_bad (by assumption))
            | (rw [hlab]; exact bodyW_long (by simp only [List.length_cons]; omega))
          rw [hN]
          exact ⟨rfl, ⟨[], [], false, [], 0⟩, rfl, U32_zero, fun y hy => by cases hy⟩)
       | (rw [hlab, bodyW_two (by assumption), Option.isSome_map]
          first
          | exact ⟨rfl, ⟨[], w1, true, nm, kk⟩, rfl, hku, fun y hy => by
              obtain ⟨x, hx, rfl⟩ := Option.map_eq_some_iff.1 hy
              have := hkv x hx; subst this; rfl⟩
          | exact ⟨rfl, ⟨w0.dropLast, w1, true, nm, kk⟩, rfl, hku, fun y hy => by
              obtain ⟨x, hx, rfl⟩ := Option.map_eq_some_iff.1 hy
              have := hkv x hx; subst this; rfl⟩)
       | (obtain rfl : R1 = [] := List.eq_nil_of_length_eq_zero (by omega)
          rw [hlab, bodyW_one (by assumption)]
          first
          | exact ⟨rfl, ⟨[], w1, false, [], 0⟩, rfl, U32_zero, fun y hy => by injection hy⟩
          | exact ⟨rfl, ⟨w0.dropLast, w1, false, [], 0⟩, rfl, U32_zero, fun y hy => by injection hy⟩)
       | (have hR : R = [] := List.eq_nil_of_length_eq_zero (by omega)
          subst hR
          rw [hlab]
          exact ⟨rfl, ⟨w0.dropLast, [], false, [], 0⟩, rfl, U32_zero, fun y hy => by injection hy⟩)
       | (rw [hlab]
          exact ⟨rfl, ⟨[], [], false, [], 0⟩, rfl, U32_zero, fun y hy => by injection hy⟩)
       | (exfalso; simp only [List.length_cons] at hn; omega)
    ·
     obtain ⟨b1, off1, w1, R1, rfl, hR1, hc1, hlw1⟩ := Strs.head (hW1.le h10) (by omega)
     subst hR1
     simp only [List.length_cons] at hn1
     refine JC_skip ?_
     refine thenQ_n ?_
     refine JC_seq ?_
     refine JC_seq ?_
     refine JC_region ?_
     refine JO_q (QE_mv rfl) rfl ?_
     refine JO_q (QE_ia1 (j := 0) rfl rfl rfl rfl rfl rfl (by omega)) rfl ?_
     refine JO_q (QE_ldsR0 rfl rfl rfl (hc1.le (Le.refl (D := D) _)) rfl) rfl ?_
     refine JO_call (first := []) (captured := []) rfl rfl rfl (aName_ac D _ _ _) ?_
     rintro _ _ s12 h12 ⟨rfl, rfl⟩
     refine JO_q (QE_not rfl) rfl ?_
     refine JO_q (QE_mv rfl) rfl ?_
     refine JO_caseM (t := 45) rfl (fun c13 => ?_) (fun c13 => ?_)
     ·
      refine JO_gF rfl rfl rfl rfl ?_
      refine JO_gF rfl rfl rfl rfl ?_
      refine JO_gF rfl rfl rfl rfl ?_
      refine JO_q (QE_pickT rfl rfl) rfl ?_
      refine JO_nil ?_
      refine thenQ_n ?_
      refine JC_ifT rfl ?_
      refine JC_seq ?_
      refine JC_region ?_
      refine JO_q (QE_build [] [_, _, _, _, _] rfl rfl rfl rfl rfl rfl) rfl ?_
      refine JO_st 1 [_, _, _, _, _] rfl rfl rfl rfl rfl rfl rfl rfl rfl ?_
      refine JO_q (QE_as rfl) rfl ?_
      refine JO_nil ?_
      refine thenQ_n ?_
      refine JC_ret ?_
      refine thenQ_r ?_
      refine retQ_mk [_, _] L (.inr rfl) (.agg (us := [_, _, _, _, _]) 1 rfl rfl rfl rfl rfl (.tmp rfl (.nil))) rfl (Le.trans (Le.trans (Le.trans (Le.trans (Le.trans (Le.trans (Le.trans h1 h2) h3) h4) h6) h8) h10) h12) (fun sR hS2 => ?_)
      first
        | (have hN : lineL l = none := by
             first
             | exact lineL_no hWW (by rw [labW, if_pos he, if_neg (by rw [hlb]; decide)])
             | (rw [hlab]; exact bodyW_bad (by assumption))
             | (rw [hlab]; exact bodyW_long (by simp only [List.length_cons]; omega))
           rw [hN]
           exact ⟨rfl, ⟨[], [], false, [], 0⟩, rfl, U32_zero, fun y hy => by cases hy⟩)
        | (rw [hlab, bodyW_two (by assumption), Option.isSome_map]
           first
           | exact ⟨rfl, ⟨[], w1, true, nm, kk⟩, rfl, hku, fun y hy => by
               obtain ⟨x, hx, rfl⟩ := Option.map_eq_some_iff.1 hy
               have := hkv x hx; subst this; rfl⟩
           | exact ⟨rfl, ⟨w0.dropLast, w1, true, nm, kk⟩, rfl, hku, fun y hy => by
               obtain ⟨x, hx, rfl⟩ := Option.map_eq_some_iff.1 hy
               have := hkv x hx; subst this; rfl⟩)
        | (obtain rfl : R1 = [] := List.eq_nil_of_length_eq_zero (by omega)
           rw [hlab, bodyW_one (by assumption)]
           first
           | exact ⟨rfl, ⟨[], w1, false, [], 0⟩, rfl, U32_zero, fun y hy => by injection hy⟩
           | exact ⟨rfl, ⟨w0.dropLast, w1, false, [], 0⟩, rfl, U32_zero, fun y hy => by injection hy⟩)
        | (have hR : R = [] := List.eq_nil_of_length_eq_zero (by omega)
           subst hR
           rw [hlab]
           exact ⟨rfl, ⟨w0.dropLast, [], false, [], 0⟩, rfl, U32_zero, fun y hy => by injection hy⟩)
        | (rw [hlab]
           exact ⟨rfl, ⟨[], [], false, [], 0⟩, rfl, U32_zero, fun y hy => by injection hy⟩)
        | (exfalso; simp only [List.length_cons] at hn; omega)
     ·
      refine JO_gT rfl rfl ?_
      refine JO_q (QE_mv rfl) rfl ?_
      refine JO_gT rfl rfl ?_
      refine JO_q (QE_lenS rfl rfl rfl) rfl ?_
      refine JO_gT rfl rfl ?_
      refine JO_q (QE_gt rfl rfl) rfl ?_
      refine JO_q (QE_pickF rfl rfl) rfl ?_
      refine JO_nil ?_
      refine thenQ_n ?_
      refine JC_ifD rfl (fun c14 => ?_) (fun c14 => ?_)
      ·
       refine JC_seq ?_
       refine JC_region ?_
       refine JO_q (QE_build [] [_, _, _, _, _] rfl rfl rfl rfl rfl rfl) rfl ?_
       refine JO_st 1 [_, _, _, _, _] rfl rfl rfl rfl rfl rfl rfl rfl rfl ?_
       refine JO_q (QE_as rfl) rfl ?_
       refine JO_nil ?_
       refine thenQ_n ?_
       refine JC_ret ?_
       refine thenQ_r ?_
       refine retQ_mk [_, _] L (.inr rfl) (.agg (us := [_, _, _, _, _]) 1 rfl rfl rfl rfl rfl (.tmp rfl (.nil))) rfl (Le.trans (Le.trans (Le.trans (Le.trans (Le.trans (Le.trans (Le.trans h1 h2) h3) h4) h6) h8) h10) h12) (fun sR hS2 => ?_)
       first
         | (have hN : lineL l = none := by
              first
              | exact lineL_no hWW (by rw [labW, if_pos he, if_neg (by rw [hlb]; decide)])
              | (rw [hlab]; exact bodyW_bad (by assumption))
              | (rw [hlab]; exact bodyW_long (by simp only [List.length_cons]; omega))
            rw [hN]
            exact ⟨rfl, ⟨[], [], false, [], 0⟩, rfl, U32_zero, fun y hy => by cases hy⟩)
         | (rw [hlab, bodyW_two (by assumption), Option.isSome_map]
            first
            | exact ⟨rfl, ⟨[], w1, true, nm, kk⟩, rfl, hku, fun y hy => by
                obtain ⟨x, hx, rfl⟩ := Option.map_eq_some_iff.1 hy
                have := hkv x hx; subst this; rfl⟩
            | exact ⟨rfl, ⟨w0.dropLast, w1, true, nm, kk⟩, rfl, hku, fun y hy => by
                obtain ⟨x, hx, rfl⟩ := Option.map_eq_some_iff.1 hy
                have := hkv x hx; subst this; rfl⟩)
         | (obtain rfl : R1 = [] := List.eq_nil_of_length_eq_zero (by omega)
            rw [hlab, bodyW_one (by assumption)]
            first
            | exact ⟨rfl, ⟨[], w1, false, [], 0⟩, rfl, U32_zero, fun y hy => by injection hy⟩
            | exact ⟨rfl, ⟨w0.dropLast, w1, false, [], 0⟩, rfl, U32_zero, fun y hy => by injection hy⟩)
         | (have hR : R = [] := List.eq_nil_of_length_eq_zero (by omega)
            subst hR
            rw [hlab]
            exact ⟨rfl, ⟨w0.dropLast, [], false, [], 0⟩, rfl, U32_zero, fun y hy => by injection hy⟩)
         | (rw [hlab]
            exact ⟨rfl, ⟨[], [], false, [], 0⟩, rfl, U32_zero, fun y hy => by injection hy⟩)
         | (exfalso; simp only [List.length_cons] at hn; omega)
      ·
       refine JC_skip ?_
       refine thenQ_n ?_
       refine JC_seq ?_
       refine JC_region ?_
       refine JO_q (QE_mv rfl) rfl ?_
       refine JO_q (QE_ia1 (j := 0) rfl rfl rfl rfl rfl rfl (by omega)) rfl ?_
       refine JO_q (QE_ldsR0 rfl rfl rfl (hc1.le h12) rfl) rfl ?_
       refine JO_q (QE_faB rfl rfl rfl rfl) rfl ?_
       refine JO_st 0 [_, _, _, _, _] rfl rfl rfl rfl rfl rfl rfl rfl rfl ?_
       refine JO_nil ?_
       refine thenQ_n ?_
       refine JC_seq ?_
       refine JC_region ?_
       refine JO_q (QE_as rfl) rfl ?_
       refine JO_nil ?_
       refine thenQ_n ?_
       refine JC_seq ?_
       refine JC_seq ?_
       refine JC_region ?_
       refine JO_q (QE_mv rfl) rfl ?_
       refine JO_q (QE_lenS rfl rfl rfl) rfl ?_
       refine JO_q (QE_eq rfl rfl) rfl ?_
       refine JO_nil ?_
       refine thenQ_n ?_
       refine JC_ifD rfl (fun c15 => ?_) (fun c15 => ?_)
       ·
        obtain ⟨b2, off2, w2, hA2, hw2, hc2, hlw2⟩ := Strs.at_ (hW1.le (Le.trans h10 h12)) (show 1 < _ by omega)
        injection hA2 with hA2
        injection hA2 with e1 e2
        subst e1
        subst e2
        have hl2 : w2.length ≤ 400000 := hmem _ (by first | exact List.mem_cons_of_mem _ (List.mem_of_getElem? hw2) | exact List.mem_of_getElem? hw2)
        obtain rfl : R1 = [w2] := by
          match R1, hw2, hn1 with
          | [], h, _ => cases h
          | [y], h, _ => simp at h; rw [h]
          | _ :: _ :: _, _, h => simp at h; omega
        refine JC_seq ?_
        refine JC_region ?_
        refine JO_q (QE_faB rfl rfl rfl rfl) rfl ?_
        refine JO_st 0 [_, _, _, _, _] rfl rfl rfl rfl rfl rfl rfl rfl rfl ?_
        refine JO_nil ?_
        refine thenQ_n ?_
        refine JC_region ?_
        refine JO_q (QE_mv rfl) rfl ?_
        refine JO_q (QE_ia1 (j := 1) rfl rfl rfl rfl rfl rfl (by omega)) rfl ?_
        refine JO_q (QE_ldsR0 rfl rfl rfl (hc2.le (Le.refl (D := D) _)) rfl) rfl ?_
        refine JO_call (first := []) (captured := []) rfl rfl rfl (readOpd_ac D _ _ (hG.le (Le.trans (Le.trans (Le.trans (Le.trans (Le.trans (Le.trans (Le.trans h1 h2) h3) h4) h6) h8) h10) h12)) w2 (by omega)) ?_
        rintro _ _ s16 h16 ⟨rfl, nm, kk, rfl, hku, hkv⟩
        refine JO_q (QE_mv rfl) rfl ?_
        refine JO_q (QE_ext rfl rfl) rfl ?_
        refine JO_q (QE_ext rfl rfl) rfl ?_
        refine JO_q (QE_faB rfl rfl rfl rfl) rfl ?_
        refine JO_st 0 [_, _, _, _, _] rfl rfl rfl rfl rfl rfl rfl rfl rfl ?_
        refine JO_q (QE_as rfl) rfl ?_
        refine JO_nil ?_
        refine thenQ_n ?_
        refine JC_seq ?_
        refine JC_region ?_
        refine JO_q (QE_ldA 0 [_, _, _, _, _] rfl rfl rfl rfl rfl) rfl ?_
        refine JO_q (QE_mv rfl) rfl ?_
        refine JO_st 1 [_, _, _, _, _] rfl rfl rfl rfl rfl rfl rfl rfl rfl ?_
        refine JO_q (QE_as rfl) rfl ?_
        refine JO_nil ?_
        refine thenQ_n ?_
        refine JC_ret ?_
        refine retQ_mk [_, _] L (.inr rfl) (.agg (us := [_, _, _, _, _]) 1 rfl rfl rfl rfl rfl (.tmp rfl (.nil))) rfl (Le.trans (Le.trans (Le.trans (Le.trans (Le.trans (Le.trans (Le.trans (Le.trans h1 h2) h3) h4) h6) h8) h10) h12) h16) (fun sR hS2 => ?_)
        first
          | (have hN : lineL l = none := by
               first
               | exact lineL_no hWW (by rw [labW, if_pos he, if_neg (by rw [hlb]; decide)])
               | (rw [hlab]; exact bodyW_bad (by assumption))
               | (rw [hlab]; exact bodyW_long (by simp only [List.length_cons]; omega))
             rw [hN]
             exact ⟨rfl, ⟨[], [], false, [], 0⟩, rfl, U32_zero, fun y hy => by cases hy⟩)
          | (rw [hlab, bodyW_two (by assumption), Option.isSome_map]
             first
             | exact ⟨rfl, ⟨[], w1, true, nm, kk⟩, rfl, hku, fun y hy => by
                 obtain ⟨x, hx, rfl⟩ := Option.map_eq_some_iff.1 hy
                 have := hkv x hx; subst this; rfl⟩
             | exact ⟨rfl, ⟨w0.dropLast, w1, true, nm, kk⟩, rfl, hku, fun y hy => by
                 obtain ⟨x, hx, rfl⟩ := Option.map_eq_some_iff.1 hy
                 have := hkv x hx; subst this; rfl⟩)
          | (obtain rfl : R1 = [] := List.eq_nil_of_length_eq_zero (by omega)
             rw [hlab, bodyW_one (by assumption)]
             first
             | exact ⟨rfl, ⟨[], w1, false, [], 0⟩, rfl, U32_zero, fun y hy => by injection hy⟩
             | exact ⟨rfl, ⟨w0.dropLast, w1, false, [], 0⟩, rfl, U32_zero, fun y hy => by injection hy⟩)
          | (have hR : R = [] := List.eq_nil_of_length_eq_zero (by omega)
             subst hR
             rw [hlab]
             exact ⟨rfl, ⟨w0.dropLast, [], false, [], 0⟩, rfl, U32_zero, fun y hy => by injection hy⟩)
          | (rw [hlab]
             exact ⟨rfl, ⟨[], [], false, [], 0⟩, rfl, U32_zero, fun y hy => by injection hy⟩)
          | (exfalso; simp only [List.length_cons] at hn; omega)
       ·
        refine JC_skip ?_
        refine thenQ_n ?_
        refine JC_seq ?_
        refine JC_region ?_
        refine JO_q (QE_ldA 0 [_, _, _, _, _] rfl rfl rfl rfl rfl) rfl ?_
        refine JO_q (QE_mv rfl) rfl ?_
        refine JO_st 1 [_, _, _, _, _] rfl rfl rfl rfl rfl rfl rfl rfl rfl ?_
        refine JO_q (QE_as rfl) rfl ?_
        refine JO_nil ?_
        refine thenQ_n ?_
        refine JC_ret ?_
        refine retQ_mk [_, _] L (.inr rfl) (.agg (us := [_, _, _, _, _]) 1 rfl rfl rfl rfl rfl (.tmp rfl (.nil))) rfl (Le.trans (Le.trans (Le.trans (Le.trans (Le.trans (Le.trans (Le.trans h1 h2) h3) h4) h6) h8) h10) h12) (fun sR hS2 => ?_)
        first
          | (have hN : lineL l = none := by
               first
               | exact lineL_no hWW (by rw [labW, if_pos he, if_neg (by rw [hlb]; decide)])
               | (rw [hlab]; exact bodyW_bad (by assumption))
               | (rw [hlab]; exact bodyW_long (by simp only [List.length_cons]; omega))
             rw [hN]
             exact ⟨rfl, ⟨[], [], false, [], 0⟩, rfl, U32_zero, fun y hy => by cases hy⟩)
          | (rw [hlab, bodyW_two (by assumption), Option.isSome_map]
             first
             | exact ⟨rfl, ⟨[], w1, true, nm, kk⟩, rfl, hku, fun y hy => by
                 obtain ⟨x, hx, rfl⟩ := Option.map_eq_some_iff.1 hy
                 have := hkv x hx; subst this; rfl⟩
             | exact ⟨rfl, ⟨w0.dropLast, w1, true, nm, kk⟩, rfl, hku, fun y hy => by
                 obtain ⟨x, hx, rfl⟩ := Option.map_eq_some_iff.1 hy
                 have := hkv x hx; subst this; rfl⟩)
          | (obtain rfl : R1 = [] := List.eq_nil_of_length_eq_zero (by omega)
             rw [hlab, bodyW_one (by assumption)]
             first
             | exact ⟨rfl, ⟨[], w1, false, [], 0⟩, rfl, U32_zero, fun y hy => by injection hy⟩
             | exact ⟨rfl, ⟨w0.dropLast, w1, false, [], 0⟩, rfl, U32_zero, fun y hy => by injection hy⟩)
          | (have hR : R = [] := List.eq_nil_of_length_eq_zero (by omega)
             subst hR
             rw [hlab]
             exact ⟨rfl, ⟨w0.dropLast, [], false, [], 0⟩, rfl, U32_zero, fun y hy => by injection hy⟩)
          | (rw [hlab]
             exact ⟨rfl, ⟨[], [], false, [], 0⟩, rfl, U32_zero, fun y hy => by injection hy⟩)
          | (exfalso; simp only [List.length_cons] at hn; omega)
  ·
   have he := c7
   have hlab : lineL l = bodyW [] (w0 :: R) := lineL_of hWW (by rw [labW, if_neg (by rw [he]; decide)])
   have hW1 := hW.le (Le.trans h4 h6)
   refine JC_skip ?_
   refine thenQ_n ?_
   refine JC_seq ?_
   refine JC_seq ?_
   refine JC_region ?_
   refine JO_q (QE_mv rfl) rfl ?_
   refine JO_q (QE_lenS rfl rfl rfl) rfl ?_
   refine JO_q (QE_eq rfl rfl) rfl ?_
   refine JO_nil ?_
   refine thenQ_n ?_
   refine JC_ifD rfl (fun c17 => ?_) (fun c17 => ?_)
   ·
    have hz1 := c17
    refine JC_seq ?_
    refine JC_region ?_
    refine JO_q (QE_ldA 0 [_, _, _, _, _] rfl rfl rfl rfl rfl) rfl ?_
    refine JO_st 1 [_, _, _, _, _] rfl rfl rfl rfl rfl rfl rfl rfl rfl ?_
    refine JO_q (QE_as rfl) rfl ?_
    refine JO_nil ?_
    refine thenQ_n ?_
    refine JC_ret ?_
    refine thenQ_r ?_
    refine retQ_mk [_, _] L (.inr rfl) (.agg (us := [_, _, _, _, _]) 1 rfl rfl rfl rfl rfl (.tmp rfl (.nil))) rfl (Le.trans (Le.trans (Le.trans (Le.trans h1 h2) h3) h4) h6) (fun sR hS2 => ?_)
    first
      | (have hN : lineL l = none := by
           first
           | exact lineL_no hWW (by rw [labW, if_pos he, if_neg (by rw [hlb]; decide)])
           | (rw [hlab]; exact bodyW_bad (by assumption))
           | (rw [hlab]; exact bodyW_long (by simp only [List.length_cons]; omega))
         rw [hN]
         exact ⟨rfl, ⟨[], [], false, [], 0⟩, rfl, U32_zero, fun y hy => by cases hy⟩)
      | (rw [hlab, bodyW_two (by assumption), Option.isSome_map]
         first
         | exact ⟨rfl, ⟨[], w1, true, nm, kk⟩, rfl, hku, fun y hy => by
             obtain ⟨x, hx, rfl⟩ := Option.map_eq_some_iff.1 hy
             have := hkv x hx; subst this; rfl⟩
         | exact ⟨rfl, ⟨w0.dropLast, w1, true, nm, kk⟩, rfl, hku, fun y hy => by
             obtain ⟨x, hx, rfl⟩ := Option.map_eq_some_iff.1 hy
             have := hkv x hx; subst this; rfl⟩)
      | (obtain rfl : R1 = [] := List.eq_nil_of_length_eq_zero (by omega)
         rw [hlab, bodyW_one (by assumption)]
         first
         | exact ⟨rfl, ⟨[], w1, false, [], 0⟩, rfl, U32_zero, fun y hy => by injection hy⟩
         | exact ⟨rfl, ⟨w0.dropLast, w1, false, [], 0⟩, rfl, U32_zero, fun y hy => by injection hy⟩)
      | (have hR : R = [] := List.eq_nil_of_length_eq_zero (by omega)
         subst hR
         rw [hlab]
         exact ⟨rfl, ⟨w0.dropLast, [], false, [], 0⟩, rfl, U32_zero, fun y hy => by injection hy⟩)
      | (rw [hlab]
         exact ⟨rfl, ⟨[], [], false, [], 0⟩, rfl, U32_zero, fun y hy => by injection hy⟩)
      | (exfalso; simp only [List.length_cons] at hn; omega)
   ·
    have hc1 := hc0.le h6
    have hlw1 := hlw0
    obtain ⟨w1, R1, e1, e2⟩ : ∃ a b, a = w0 ∧ b = R := ⟨_, _, rfl, rfl⟩
    subst e1
    subst e2
    have hn1 := hn
    simp only [List.length_cons] at hn1
    refine JC_skip ?_
    refine thenQ_n ?_
    refine JC_seq ?_
    refine JC_seq ?_
    refine JC_region ?_
    refine JO_q (QE_mv rfl) rfl ?_
    refine JO_q (QE_ia1 (j := 0) rfl rfl rfl rfl rfl rfl (by omega)) rfl ?_
    refine JO_q (QE_ldsR0 rfl rfl rfl (hc1.le (Le.refl (D := D) _)) rfl) rfl ?_
    refine JO_call (first := []) (captured := []) rfl rfl rfl (aName_ac D _ _ _) ?_
    rintro _ _ s18 h18 ⟨rfl, rfl⟩
    refine JO_q (QE_not rfl) rfl ?_
    refine JO_q (QE_mv rfl) rfl ?_
    refine JO_caseM (t := 45) rfl (fun c19 => ?_) (fun c19 => ?_)
    ·
     refine JO_gF rfl rfl rfl rfl ?_
     refine JO_gF rfl rfl rfl rfl ?_
     refine JO_gF rfl rfl rfl rfl ?_
     refine JO_q (QE_pickT rfl rfl) rfl ?_
     refine JO_nil ?_
     refine thenQ_n ?_
     refine JC_ifT rfl ?_
     refine JC_seq ?_
     refine JC_region ?_
     refine JO_q (QE_build [] [_, _, _, _, _] rfl rfl rfl rfl rfl rfl) rfl ?_
     refine JO_st 1 [_, _, _, _, _] rfl rfl rfl rfl rfl rfl rfl rfl rfl ?_
     refine JO_q (QE_as rfl) rfl ?_
     refine JO_nil ?_
     refine thenQ_n ?_
     refine JC_ret ?_
     refine thenQ_r ?_
     refine retQ_mk [_, _] L (.inr rfl) (.agg (us := [_, _, _, _, _]) 1 rfl rfl rfl rfl rfl (.tmp rfl (.nil))) rfl (Le.trans (Le.trans (Le.trans (Le.trans (Le.trans h1 h2) h3) h4) h6) h18) (fun sR hS2 => ?_)
     first
       | (have hN : lineL l = none := by
            first
            | exact lineL_no hWW (by rw [labW, if_pos he, if_neg (by rw [hlb]; decide)])
            | (rw [hlab]; exact bodyW_bad (by assumption))
            | (rw [hlab]; exact bodyW_long (by simp only [List.length_cons]; omega))
          rw [hN]
          exact ⟨rfl, ⟨[], [], false, [], 0⟩, rfl, U32_zero, fun y hy => by cases hy⟩)
       | (rw [hlab, bodyW_two (by assumption), Option.isSome_map]
          first
          | exact ⟨rfl, ⟨[], w1, true, nm, kk⟩, rfl, hku, fun y hy => by
              obtain ⟨x, hx, rfl⟩ := Option.map_eq_some_iff.1 hy
              have := hkv x hx; subst this; rfl⟩
          | exact ⟨rfl, ⟨w0.dropLast, w1, true, nm, kk⟩, rfl, hku, fun y hy => by
              obtain ⟨x, hx, rfl⟩ := Option.map_eq_some_iff.1 hy
              have := hkv x hx; subst this; rfl⟩)
       | (obtain rfl : R1 = [] := List.eq_nil_of_length_eq_zero (by omega)
          rw [hlab, bodyW_one (by assumption)]
          first
          | exact ⟨rfl, ⟨[], w1, false, [], 0⟩, rfl, U32_zero, fun y hy => by injection hy⟩
          | exact ⟨rfl, ⟨w0.dropLast, w1, false, [], 0⟩, rfl, U32_zero, fun y hy => by injection hy⟩)
       | (have hR : R = [] := List.eq_nil_of_length_eq_zero (by omega)
          subst hR
          rw [hlab]
          exact ⟨rfl, ⟨w0.dropLast, [], false, [], 0⟩, rfl, U32_zero, fun y hy => by injection hy⟩)
       | (rw [hlab]
          exact ⟨rfl, ⟨[], [], false, [], 0⟩, rfl, U32_zero, fun y hy => by injection hy⟩)
       | (exfalso; simp only [List.length_cons] at hn; omega)
    ·
     refine JO_gT rfl rfl ?_
     refine JO_q (QE_mv rfl) rfl ?_
     refine JO_gT rfl rfl ?_
     refine JO_q (QE_lenS rfl rfl rfl) rfl ?_
     refine JO_gT rfl rfl ?_
     refine JO_q (QE_gt rfl rfl) rfl ?_
     refine JO_q (QE_pickF rfl rfl) rfl ?_
     refine JO_nil ?_
     refine thenQ_n ?_
     refine JC_ifD rfl (fun c20 => ?_) (fun c20 => ?_)
     ·
      refine JC_seq ?_
      refine JC_region ?_
      refine JO_q (QE_build [] [_, _, _, _, _] rfl rfl rfl rfl rfl rfl) rfl ?_
      refine JO_st 1 [_, _, _, _, _] rfl rfl rfl rfl rfl rfl rfl rfl rfl ?_
      refine JO_q (QE_as rfl) rfl ?_
      refine JO_nil ?_
      refine thenQ_n ?_
      refine JC_ret ?_
      refine thenQ_r ?_
      refine retQ_mk [_, _] L (.inr rfl) (.agg (us := [_, _, _, _, _]) 1 rfl rfl rfl rfl rfl (.tmp rfl (.nil))) rfl (Le.trans (Le.trans (Le.trans (Le.trans (Le.trans h1 h2) h3) h4) h6) h18) (fun sR hS2 => ?_)
      first
        | (have hN : lineL l = none := by
             first
             | exact lineL_no hWW (by rw [labW, if_pos he, if_neg (by rw [hlb]; decide)])
             | (rw [hlab]; exact bodyW_bad (by assumption))
             | (rw [hlab]; exact bodyW_long (by simp only [List.length_cons]; omega))
           rw [hN]
           exact ⟨rfl, ⟨[], [], false, [], 0⟩, rfl, U32_zero, fun y hy => by cases hy⟩)
        | (rw [hlab, bodyW_two (by assumption), Option.isSome_map]
           first
           | exact ⟨rfl, ⟨[], w1, true, nm, kk⟩, rfl, hku, fun y hy => by
               obtain ⟨x, hx, rfl⟩ := Option.map_eq_some_iff.1 hy
               have := hkv x hx; subst this; rfl⟩
           | exact ⟨rfl, ⟨w0.dropLast, w1, true, nm, kk⟩, rfl, hku, fun y hy => by
               obtain ⟨x, hx, rfl⟩ := Option.map_eq_some_iff.1 hy
               have := hkv x hx; subst this; rfl⟩)
        | (obtain rfl : R1 = [] := List.eq_nil_of_length_eq_zero (by omega)
           rw [hlab, bodyW_one (by assumption)]
           first
           | exact ⟨rfl, ⟨[], w1, false, [], 0⟩, rfl, U32_zero, fun y hy => by injection hy⟩
           | exact ⟨rfl, ⟨w0.dropLast, w1, false, [], 0⟩, rfl, U32_zero, fun y hy => by injection hy⟩)
        | (have hR : R = [] := List.eq_nil_of_length_eq_zero (by omega)
           subst hR
           rw [hlab]
           exact ⟨rfl, ⟨w0.dropLast, [], false, [], 0⟩, rfl, U32_zero, fun y hy => by injection hy⟩)
        | (rw [hlab]
           exact ⟨rfl, ⟨[], [], false, [], 0⟩, rfl, U32_zero, fun y hy => by injection hy⟩)
        | (exfalso; simp only [List.length_cons] at hn; omega)
     ·
      refine JC_skip ?_
      refine thenQ_n ?_
      refine JC_seq ?_
      refine JC_region ?_
      refine JO_q (QE_mv rfl) rfl ?_
      refine JO_q (QE_ia1 (j := 0) rfl rfl rfl rfl rfl rfl (by omega)) rfl ?_
      refine JO_q (QE_ldsR0 rfl rfl rfl (hc1.le h18) rfl) rfl ?_
      refine JO_q (QE_faB rfl rfl rfl rfl) rfl ?_
      refine JO_st 0 [_, _, _, _, _] rfl rfl rfl rfl rfl rfl rfl rfl rfl ?_
      refine JO_nil ?_
      refine thenQ_n ?_
      refine JC_seq ?_
      refine JC_region ?_
      refine JO_q (QE_as rfl) rfl ?_
      refine JO_nil ?_
      refine thenQ_n ?_
      refine JC_seq ?_
      refine JC_seq ?_
      refine JC_region ?_
      refine JO_q (QE_mv rfl) rfl ?_
      refine JO_q (QE_lenS rfl rfl rfl) rfl ?_
      refine JO_q (QE_eq rfl rfl) rfl ?_
      refine JO_nil ?_
      refine thenQ_n ?_
      refine JC_ifD rfl (fun c21 => ?_) (fun c21 => ?_)
      ·
       obtain ⟨b2, off2, w2, hA2, hw2, hc2, hlw2⟩ := Strs.at_ (hW1.le h18) (show 1 < _ by omega)
       injection hA2 with hA2
       injection hA2 with e1 e2
       subst e1
       subst e2
       have hl2 : w2.length ≤ 400000 := hmem _ (by first | exact List.mem_cons_of_mem _ (List.mem_of_getElem? hw2) | exact List.mem_of_getElem? hw2)
       obtain rfl : R1 = [w2] := by
         match R1, hw2, hn1 with
         | [], h, _ => cases h
         | [y], h, _ => simp at h; rw [h]
         | _ :: _ :: _, _, h => simp at h; omega
       refine JC_seq ?_
       refine JC_region ?_
       refine JO_q (QE_faB rfl rfl rfl rfl) rfl ?_
       refine JO_st 0 [_, _, _, _, _] rfl rfl rfl rfl rfl rfl rfl rfl rfl ?_
       refine JO_nil ?_
       refine thenQ_n ?_
       refine JC_region ?_
       refine JO_q (QE_mv rfl) rfl ?_
       refine JO_q (QE_ia1 (j := 1) rfl rfl rfl rfl rfl rfl (by omega)) rfl ?_
       refine JO_q (QE_ldsR0 rfl rfl rfl (hc2.le (Le.refl (D := D) _)) rfl) rfl ?_
       refine JO_call (first := []) (captured := []) rfl rfl rfl (readOpd_ac D _ _ (hG.le (Le.trans (Le.trans (Le.trans (Le.trans (Le.trans h1 h2) h3) h4) h6) h18)) w2 (by omega)) ?_
       rintro _ _ s22 h22 ⟨rfl, nm, kk, rfl, hku, hkv⟩
       refine JO_q (QE_mv rfl) rfl ?_
       refine JO_q (QE_ext rfl rfl) rfl ?_
       refine JO_q (QE_ext rfl rfl) rfl ?_
       refine JO_q (QE_faB rfl rfl rfl rfl) rfl ?_
       refine JO_st 0 [_, _, _, _, _] rfl rfl rfl rfl rfl rfl rfl rfl rfl ?_
       refine JO_q (QE_as rfl) rfl ?_
       refine JO_nil ?_
       refine thenQ_n ?_
       refine JC_seq ?_
       refine JC_region ?_
       refine JO_q (QE_ldA 0 [_, _, _, _, _] rfl rfl rfl rfl rfl) rfl ?_
       refine JO_q (QE_mv rfl) rfl ?_
       refine JO_st 1 [_, _, _, _, _] rfl rfl rfl rfl rfl rfl rfl rfl rfl ?_
       refine JO_q (QE_as rfl) rfl ?_
       refine JO_nil ?_
       refine thenQ_n ?_
       refine JC_ret ?_
       refine retQ_mk [_, _] L (.inr rfl) (.agg (us := [_, _, _, _, _]) 1 rfl rfl rfl rfl rfl (.tmp rfl (.nil))) rfl (Le.trans (Le.trans (Le.trans (Le.trans (Le.trans (Le.trans h1 h2) h3) h4) h6) h18) h22) (fun sR hS2 => ?_)
       first
         | (have hN : lineL l = none := by
              first
              | exact lineL_no hWW (by rw [labW, if_pos he, if_neg (by rw [hlb]; decide)])
              | (rw [hlab]; exact bodyW_bad (by assumption))
              | (rw [hlab]; exact bodyW_long (by simp only [List.length_cons]; omega))
            rw [hN]
            exact ⟨rfl, ⟨[], [], false, [], 0⟩, rfl, U32_zero, fun y hy => by cases hy⟩)
         | (rw [hlab, bodyW_two (by assumption), Option.isSome_map]
            first
            | exact ⟨rfl, ⟨[], w1, true, nm, kk⟩, rfl, hku, fun y hy => by
                obtain ⟨x, hx, rfl⟩ := Option.map_eq_some_iff.1 hy
                have := hkv x hx; subst this; rfl⟩
            | exact ⟨rfl, ⟨w0.dropLast, w1, true, nm, kk⟩, rfl, hku, fun y hy => by
                obtain ⟨x, hx, rfl⟩ := Option.map_eq_some_iff.1 hy
                have := hkv x hx; subst this; rfl⟩)
         | (obtain rfl : R1 = [] := List.eq_nil_of_length_eq_zero (by omega)
            rw [hlab, bodyW_one (by assumption)]
            first
            | exact ⟨rfl, ⟨[], w1, false, [], 0⟩, rfl, U32_zero, fun y hy => by injection hy⟩
            | exact ⟨rfl, ⟨w0.dropLast, w1, false, [], 0⟩, rfl, U32_zero, fun y hy => by injection hy⟩)
         | (have hR : R = [] := List.eq_nil_of_length_eq_zero (by omega)
            subst hR
            rw [hlab]
            exact ⟨rfl, ⟨w0.dropLast, [], false, [], 0⟩, rfl, U32_zero, fun y hy => by injection hy⟩)
         | (rw [hlab]
            exact ⟨rfl, ⟨[], [], false, [], 0⟩, rfl, U32_zero, fun y hy => by injection hy⟩)
         | (exfalso; simp only [List.length_cons] at hn; omega)
      ·
       refine JC_skip ?_
       refine thenQ_n ?_
       refine JC_seq ?_
       refine JC_region ?_
       refine JO_q (QE_ldA 0 [_, _, _, _, _] rfl rfl rfl rfl rfl) rfl ?_
       refine JO_q (QE_mv rfl) rfl ?_
       refine JO_st 1 [_, _, _, _, _] rfl rfl rfl rfl rfl rfl rfl rfl rfl ?_
       refine JO_q (QE_as rfl) rfl ?_
       refine JO_nil ?_
       refine thenQ_n ?_
       refine JC_ret ?_
       refine retQ_mk [_, _] L (.inr rfl) (.agg (us := [_, _, _, _, _]) 1 rfl rfl rfl rfl rfl (.tmp rfl (.nil))) rfl (Le.trans (Le.trans (Le.trans (Le.trans (Le.trans h1 h2) h3) h4) h6) h18) (fun sR hS2 => ?_)
       first
         | (have hN : lineL l = none := by
              first
              | exact lineL_no hWW (by rw [labW, if_pos he, if_neg (by rw [hlb]; decide)])
              | (rw [hlab]; exact bodyW_bad (by assumption))
              | (rw [hlab]; exact bodyW_long (by simp only [List.length_cons]; omega))
            rw [hN]
            exact ⟨rfl, ⟨[], [], false, [], 0⟩, rfl, U32_zero, fun y hy => by cases hy⟩)
         | (rw [hlab, bodyW_two (by assumption), Option.isSome_map]
            first
            | exact ⟨rfl, ⟨[], w1, true, nm, kk⟩, rfl, hku, fun y hy => by
                obtain ⟨x, hx, rfl⟩ := Option.map_eq_some_iff.1 hy
                have := hkv x hx; subst this; rfl⟩
            | exact ⟨rfl, ⟨w0.dropLast, w1, true, nm, kk⟩, rfl, hku, fun y hy => by
                obtain ⟨x, hx, rfl⟩ := Option.map_eq_some_iff.1 hy
                have := hkv x hx; subst this; rfl⟩)
         | (obtain rfl : R1 = [] := List.eq_nil_of_length_eq_zero (by omega)
            rw [hlab, bodyW_one (by assumption)]
            first
            | exact ⟨rfl, ⟨[], w1, false, [], 0⟩, rfl, U32_zero, fun y hy => by injection hy⟩
            | exact ⟨rfl, ⟨w0.dropLast, w1, false, [], 0⟩, rfl, U32_zero, fun y hy => by injection hy⟩)
         | (have hR : R = [] := List.eq_nil_of_length_eq_zero (by omega)
            subst hR
            rw [hlab]
            exact ⟨rfl, ⟨w0.dropLast, [], false, [], 0⟩, rfl, U32_zero, fun y hy => by injection hy⟩)
         | (rw [hlab]
            exact ⟨rfl, ⟨[], [], false, [], 0⟩, rfl, U32_zero, fun y hy => by injection hy⟩)
         | (exfalso; simp only [List.length_cons] at hn; omega)
 ·
  have hW0 : W = [] := List.eq_nil_of_length_eq_zero (by omega)
  subst hW0
  have hlab : lineL l = bodyW [] [] := lineL_of hWW rfl
  have hW1 := hW
  refine JC_skip ?_
  refine thenQ_n ?_
  refine JC_seq ?_
  refine JC_seq ?_
  refine JC_region ?_
  refine JO_q (QE_mv rfl) rfl ?_
  refine JO_q (QE_lenS rfl rfl rfl) rfl ?_
  refine JO_q (QE_eq rfl rfl) rfl ?_
  refine JO_nil ?_
  refine thenQ_n ?_
  refine JC_ifD rfl (fun c23 => ?_) (fun c23 => ?_)
  ·
   have hz1 := c23
   refine JC_seq ?_
   refine JC_region ?_
   refine JO_q (QE_ldA 0 [_, _, _, _, _] rfl rfl rfl rfl rfl) rfl ?_
   refine JO_st 1 [_, _, _, _, _] rfl rfl rfl rfl rfl rfl rfl rfl rfl ?_
   refine JO_q (QE_as rfl) rfl ?_
   refine JO_nil ?_
   refine thenQ_n ?_
   refine JC_ret ?_
   refine thenQ_r ?_
   refine retQ_mk [_, _] L (.inr rfl) (.agg (us := [_, _, _, _, _]) 1 rfl rfl rfl rfl rfl (.tmp rfl (.nil))) rfl (Le.trans (Le.trans (Le.trans h1 h2) h3) h4) (fun sR hS2 => ?_)
   first
     | (have hN : lineL l = none := by
          first
          | exact lineL_no hWW (by rw [labW, if_pos he, if_neg (by rw [hlb]; decide)])
          | (rw [hlab]; exact bodyW_bad (by assumption))
          | (rw [hlab]; exact bodyW_long (by simp only [List.length_cons]; omega))
        rw [hN]
        exact ⟨rfl, ⟨[], [], false, [], 0⟩, rfl, U32_zero, fun y hy => by cases hy⟩)
     | (rw [hlab, bodyW_two (by assumption), Option.isSome_map]
        first
        | exact ⟨rfl, ⟨[], w1, true, nm, kk⟩, rfl, hku, fun y hy => by
            obtain ⟨x, hx, rfl⟩ := Option.map_eq_some_iff.1 hy
            have := hkv x hx; subst this; rfl⟩
        | exact ⟨rfl, ⟨w0.dropLast, w1, true, nm, kk⟩, rfl, hku, fun y hy => by
            obtain ⟨x, hx, rfl⟩ := Option.map_eq_some_iff.1 hy
            have := hkv x hx; subst this; rfl⟩)
     | (obtain rfl : R1 = [] := List.eq_nil_of_length_eq_zero (by omega)
        rw [hlab, bodyW_one (by assumption)]
        first
        | exact ⟨rfl, ⟨[], w1, false, [], 0⟩, rfl, U32_zero, fun y hy => by injection hy⟩
        | exact ⟨rfl, ⟨w0.dropLast, w1, false, [], 0⟩, rfl, U32_zero, fun y hy => by injection hy⟩)
     | (have hR : R = [] := List.eq_nil_of_length_eq_zero (by omega)
        subst hR
        rw [hlab]
        exact ⟨rfl, ⟨w0.dropLast, [], false, [], 0⟩, rfl, U32_zero, fun y hy => by injection hy⟩)
     | (rw [hlab]
        exact ⟨rfl, ⟨[], [], false, [], 0⟩, rfl, U32_zero, fun y hy => by injection hy⟩)
     | (exfalso; simp only [List.length_cons] at hn; omega)
  ·
   exact absurd (by simp at hn; omega) c23 --end
end Go.Proofs.YteomcjpigoaioaaGreatDoor
namespace Go.Proofs.YteomcjpigoaioaaGreatDoor
open Go Go.FL Go.RowKit
structure AG where
  vw : Value
  Mw : Hl
  vl : Value
  Ml : Hl
  vr : Value
  Mr : Hl
  es : List (List UInt8 × Value × Nat)
  ck : Nat
  w : List Int
  l : List (List UInt8 × Int)
  r : List (Int × Nat × List UInt8 × Int)
def lbv (l : List (List UInt8 × Int)) : List Value := (l.map fun x => [St x.1, Value.int .u32 x.2]).flatten
def rfv (r : List (Int × Nat × List UInt8 × Int)) : List Value := (r.map fun x => [Value.int .i64 x.1, Value.int .i64 (x.2.1 : Int), St x.2.2.1, Value.int .u32 x.2.2.2]).flatten
def labAt : List (List UInt8 × Int) → List UInt8 → Option Int
  | [], _ => none
  | x :: l, k => if x.1 = k then some x.2 else labAt l k
structure AGok (g : AG) : Prop where
  hw : Own 52 1 g.Mw g.vw g.w.length (wv g.w)
  hl : Own 94 2 g.Ml g.vl g.l.length (lbv g.l)
  hr : Own 142 4 g.Mr g.vr g.r.length (rfv g.r)
  he : ∀ k, assoc g.es k = (labAt g.l k).map (Value.int .u32)
  uw : ∀ x ∈ g.w, U32 x
  ul : ∀ x ∈ g.l, U32 x.2
  ur : ∀ x ∈ g.r, U32 x.2.2.2
def HA (ba bm : Nat) (tc : Int) (A : Option Addr) (n c : Nat) (g : AG) (L : Hl) : Hl :=
  (ba, cb [.int .i64 tc, .slice A n c, g.vw, g.vl, .map (some bm), g.vr] 86) :: (bm, mp (fun l => St l) g.es g.ck) :: (g.Mw ++ (g.Ml ++ (g.Mr ++ L)))
theorem lbv_snoc (l : List (List UInt8 × Int)) (k : List UInt8) (a : Int) : lbv (l ++ [(k, a)]) = lbv l ++ [St k, .int .u32 a] := by simp [lbv]
theorem rfv_snoc (r : List (Int × Nat × List UInt8 × Int)) (i : Int) (p : Nat) (k : List UInt8) (a : Int) : rfv (r ++ [(i, p, k, a)]) = rfv r ++ [.int .i64 i, .int .i64 (p : Int), St k, .int .u32 a] := by simp [rfv]
theorem wv_snoc (w : List Int) (x : Int) : wv (w ++ [x]) = wv w ++ [.int .u32 x] := by simp [wv]
theorem wv_zeros (w : List Int) (m : Nat) : wv (w ++ List.replicate m 0) = wv w ++ List.replicate m (.int .u32 0) := by simp [wv]
theorem labAt_snoc (l : List (List UInt8 × Int)) (k j : List UInt8) (a : Int) (h : labAt l k = none) : labAt (l ++ [(k, a)]) j = if j = k then some a else labAt l j := by
  induction l with
  | nil => simp only [List.nil_append, labAt]; by_cases h' : k = j <;> simp [h', eq_comm]
  | cons x l ih =>
    simp only [labAt] at h
    split at h
    · cases h
    · rename_i hx
      simp only [List.cons_append, labAt, ih h]
      by_cases hj : x.1 = j
      · subst hj; simp [hx]
      · simp [hj]
def spaceB : List UInt8 := [115, 112, 97, 99, 101]
def wordB : List UInt8 := [119, 111, 114, 100]
def emitW (w : List Int) (x : Ln) (code : Int) (own : Bool) : List Int :=
  if x.op = spaceB then w ++ List.replicate x.num.toNat 0 else if x.has then (if own then w else w ++ [code]) ++ [x.num] else (if own then w else w ++ [code])
def emitR (r : List (Int × Nat × List UInt8 × Int)) (w : List Int) (i : Int) (x : Ln) (code : Int) (own : Bool) : List (Int × Nat × List UInt8 × Int) :=
  if x.op = spaceB then r else if x.has = true ∧ x.name ≠ [] then r ++ [(i, (if own then w else w ++ [code]).length, x.name, x.num)] else r
theorem emitW_space {w : List Int} {x : Ln} {code : Int} {own : Bool} (h : x.op = spaceB) : emitW w x code own = w ++ List.replicate x.num.toNat 0 := by rw [emitW, if_pos h]
theorem emitR_space {r : List (Int × Nat × List UInt8 × Int)} {w : List Int} {i : Int} {x : Ln} {code : Int} {own : Bool} (h : x.op = spaceB) : emitR r w i x code own = r := by rw [emitR, if_pos h]
theorem HA_one (ba bm : Nat) (tc : Int) (A : Option Addr) (n c : Nat) (g : AG) (x : Nat × Obj) (L : Hl) : (HA ba bm tc A n c g (x :: L)).Perm (x :: HA ba bm tc A n c g L) := by
  unfold HA
  refine List.Perm.trans ?_ (List.Perm.trans (List.Perm.cons _ (List.Perm.swap _ _ _)) (List.Perm.swap _ _ _))
  refine List.Perm.cons _ (List.Perm.cons _ ?_)
  refine List.Perm.trans ?_ (List.perm_middle)
  refine List.Perm.append_left _ ?_
  refine List.Perm.trans ?_ (List.perm_middle)
  exact List.Perm.append_left _ List.perm_middle
theorem HA_two (ba bm : Nat) (tc : Int) (A : Option Addr) (n c : Nat) (g : AG) (x y : Nat × Obj) (L : Hl) : (HA ba bm tc A n c g (x :: y :: L)).Perm (x :: y :: HA ba bm tc A n c g L) :=
  (HA_one ..).trans (List.Perm.cons _ (HA_one ..))
def isOwn (o : List UInt8) : Bool := decide (o = [119, 111, 114, 100] ∨ o = [115, 112, 97, 99, 101])
def findN (l : List Ins) (nm : List UInt8) : Option Ins := l.find? fun y => decide (y.name = nm)
def codeOf (t : Tab) (o : List UInt8) : Int := match findN t.ins o with
  | some z => z.code
  | none => 0
def opOf (t : Tab) (o : List UInt8) : Bool := match findN t.ins o with
  | some z => z.operand
  | none => false
def addW (t : Tab) (w : List Int) (x : Ln) : List Int := if x.op = [] then w else emitW w x (codeOf t x.op) (isOwn x.op)
def addL (w : List Int) (l : List (List UInt8 × Int)) (x : Ln) : List (List UInt8 × Int) := if x.label = [] then l else l ++ [(x.label, (w.length : Int))]
def addR (t : Tab) (w : List Int) (r : List (Int × Nat × List UInt8 × Int)) (i : Int) (x : Ln) : List (Int × Nat × List UInt8 × Int) := if x.op = [] then r else emitR r w i x (codeOf t x.op) (isOwn x.op)
def addE (t : Tab) (w : List Int) (l : List (List UInt8 × Int)) : Option Ln → Int
  | none => 1
  | some x => if x.label ≠ [] ∧ (labAt l x.label).isSome = true then 8 else if x.op = [] then 0
    else if (findN t.ins x.op).isSome = false ∧ isOwn x.op = false then 12
    else if x.has ≠ (isOwn x.op || opOf t x.op) then 9
    else if x.op = [115, 112, 97, 99, 101] ∧ x.name ≠ [] then 6
    else if t.cells < ((addW t w x).length : Int) then 14 else 0
section
variable {t : Tab} {w : List Int} {l : List (List UInt8 × Int)} {x : Ln} {yo : Bool} (h8 : ¬ (x.label ≠ [] ∧ (labAt l x.label).isSome = true)) (ho : ¬ x.op = [])
include h8 ho
theorem addE_12 (h : (findN t.ins x.op).isSome = false ∧ ¬ (x.op = [119, 111, 114, 100] ∨ x.op = [115, 112, 97, 99, 101])) : addE t w l (some x) = 12 := by
  rw [addE, if_neg h8, if_neg ho, if_pos ⟨h.1, decide_eq_false h.2⟩]
variable (h83 : ¬ ((findN t.ins x.op).isSome = false ∧ ¬ (x.op = [119, 111, 114, 100] ∨ x.op = [115, 112, 97, 99, 101]))) (hoo : opOf t x.op = yo)
include h83 hoo
theorem addE_9 (h90 : ¬ x.has = (decide (x.op = [119, 111, 114, 100] ∨ x.op = [115, 112, 97, 99, 101]) || yo)) : addE t w l (some x) = 9 := by
  rw [addE, if_neg h8, if_neg ho, if_neg (fun h => h83 ⟨h.1, of_decide_eq_false h.2⟩), hoo]
  exact if_pos h90
variable (h90 : ¬ ¬ x.has = (decide (x.op = [119, 111, 114, 100] ∨ x.op = [115, 112, 97, 99, 101]) || yo))
include h90
theorem addE_6 (h99 : x.op = [115, 112, 97, 99, 101] ∧ ¬ x.name = []) : addE t w l (some x) = 6 := by
  rw [addE, if_neg h8, if_neg ho, if_neg (fun h => h83 ⟨h.1, of_decide_eq_false h.2⟩), hoo]
  exact (if_neg h90).trans (if_pos h99)
theorem addE_0 (h99 : ¬ (x.op = [115, 112, 97, 99, 101] ∧ ¬ x.name = [])) : addE t w l (some x) = if t.cells < ((addW t w x).length : Int) then 14 else 0 := by
  rw [addE, if_neg h8, if_neg ho, if_neg (fun h => h83 ⟨h.1, of_decide_eq_false h.2⟩), hoo]
  exact (if_neg h90).trans (if_neg h99)
end
theorem emitW_own (w : List Int) (x : Ln) (c d : Int) : emitW w x c true = emitW w x d true := by simp [emitW]
theorem emitR_own (r : List (Int × Nat × List UInt8 × Int)) (w : List Int) (i : Int) (x : Ln) (c d : Int) : emitR r w i x c true = emitR r w i x d true := by simp [emitR]
end Go.Proofs.YteomcjpigoaioaaGreatDoor
namespace Go.Proofs.YteomcjpigoaioaaGreatDoor
open Go.FL
attribute [local irreducible] JC JO JA JB thenQ blockQ retQ AC fill CellsAt QE Ev Mid
set_option maxHeartbeats 1000000 in
set_option maxRecDepth 100000 in
theorem find1_ac (D : Nat) (L : Hl) (s : World) (nm : List UInt8) (y : Ins) (A' : Option Addr) (n' c' β : Nat) (x0 : Nat × Obj) : AC Tryz.prog D 122 [.agg #[St y.name, .int .u32 y.code, .bool y.operand, .slice A' n' c'], .pointer (some ⟨β, 0, none⟩)] (x0 :: (β, cb [St nm] 9) :: L) s fun v L' _ => v = .bool (decide (y.name = nm)) ∧ x0 :: (β, cb [St nm] 9) :: L = L' := by
 refine AC_enter (TT := TT) (fn := Tryz.f122) TT_ok Tryz.func122 (by kernel_rfl) rfl Tryz.ntmps122 rfl (rs := [.tmp 3]) rfl [(0, _), (1, _)] rfl ?_
 refine JC_seq ?_
 refine JC_region ?_
 refine JO_boxA rfl rfl ?_
 intro β1 s1 h1
 refine JO_q (QE_as rfl) rfl ?_
 refine JO_nil ?_
 refine thenQ_n ?_
 refine JC_seq ?_
 refine JC_region ?_
 refine JO_q (QE_fa0 rfl rfl rfl rfl) rfl ?_
 refine JO_q (QE_ld1 0 rfl rfl rfl rfl rfl) rfl ?_
 refine JO_q (QE_ld1 2 rfl rfl rfl rfl rfl) rfl ?_
 refine JO_q (QE_seq rfl rfl) rfl ?_
 refine JO_q (QE_as rfl) rfl ?_
 refine JO_nil ?_
 refine thenQ_n ?_
 refine JC_ret ?_
 refine retQ_mk [_] (x0 :: (β, cb [St nm] 9) :: L) (.inr rfl) (.tmp rfl (.nil)) rfl h1 (fun sR hS2 => ?_)
 exact ⟨rfl, rfl⟩
theorem idx_find {α : Type} (p : α → Bool) (l : List α) (j : Nat) : (idxOf p l j = -1 ∧ l.find? p = none) ∨ ∃ i x, idxOf p l j = ((j + i : Nat) : Int) ∧ l[i]? = some x ∧ l.find? p = some x := by
  induction l generalizing j with
  | nil => exact .inl ⟨rfl, rfl⟩
  | cons y l ih =>
    simp only [idxOf, List.find?]
    cases h : p y with
    | true => exact .inr ⟨0, y, by simp, rfl, rfl⟩
    | false =>
      rcases ih (j + 1) with ⟨h1, h2⟩ | ⟨i, x, h1, h2, h3⟩
      · exact .inl ⟨by simpa using h1, h2⟩
      · exact .inr ⟨i + 1, x, by simp only [Bool.false_eq_true, if_false]; rw [h1]; congr 1; omega, h2, h3⟩
set_option maxHeartbeats 2000000 in
set_option maxRecDepth 100000 in
theorem findA_ac (D : Nat) (L : Hl) (s : World) (ba bm : Nat) (t : Tab) (A : Option Addr) (n c : Nat) (hA : Inss s A n c t.ins) (g : AG) (nm : List UInt8) : AC Tryz.prog D 101 [.pointer (some ⟨ba, 0, none⟩), St nm] (HA ba bm t.cells A n c g L) s fun v L' _ => L' = HA ba bm t.cells A n c g L ∧ ∃ (y : Ins) (Ay : Option Addr) (ny cy : Nat), v = .tuple #[.agg #[St y.name, .int .u32 y.code, .bool y.operand, .slice Ay ny cy], .bool (findN t.ins nm).isSome] ∧ U32 y.code ∧ (∀ z, findN t.ins nm = some z → y = z) ∧ (findN t.ins nm = none → y.operand = false) := by
 have hn := hA.1
 simp only [HA]
 refine AC_enter (TT := TT) (fn := Tryz.f101) TT_ok Tryz.func101 (by kernel_rfl) rfl Tryz.ntmps101 rfl (rs := [.cell 4 97, .tmp 5]) rfl [(0, _), (1, _)] rfl ?_
 refine JC_seq ?_
 refine JC_region ?_
 refine JO_box rfl rfl rfl ?_
 intro β1 s1 h1
 refine JO_allocZ rfl [_, _, _, _] rfl rfl ?_
 intro β2 s2 h2
 refine JO_q (QE_as rfl) rfl ?_
 refine JO_nil ?_
 refine thenQ_n ?_
 refine JC_seq ?_
 refine JC_region ?_
 refine JO_q (QE_mv rfl) rfl ?_
 refine JO_q (QE_nil rfl) rfl ?_
 refine JO_q (QE_fa0 rfl rfl rfl rfl) rfl ?_
 refine JO_q (QE_faB rfl rfl rfl rfl) rfl ?_
 refine JO_q (QE_ld1 2 rfl rfl rfl rfl rfl) rfl ?_
 refine JO_q (QE_func rfl) rfl ?_
 refine JO_call (first := []) (captured := []) rfl rfl rfl (indexFunc_ac D _ _ _ _ _ _ (hA.le (Le.trans h1 h2)) _ _ (fun (y : Ins) => decide (y.name = nm)) (fun s2 x A2 n2 c2 => find1_ac D _ s2 nm x A2 n2 c2 _ _)) ?_
 rintro _ _ s3 h3 ⟨rfl, rfl⟩
 refine JO_q (QE_as rfl) rfl ?_
 refine JO_nil ?_
 refine thenQ_n ?_
 refine JC_seq ?_
 refine JC_seq ?_
 refine JC_region ?_
 refine JO_q (QE_mv rfl) rfl ?_
 refine JO_q (QE_lt rfl rfl) rfl ?_
 refine JO_nil ?_
 refine thenQ_n ?_
 refine JC_ifD rfl (fun c4 => ?_) (fun c4 => ?_)
 ·
  have hneg := c4
  obtain ⟨hi, hf⟩ | ⟨i, y, hi, hy, hf⟩ := idx_find (fun (y : Ins) => decide (y.name = nm)) t.ins 0
  rotate_left
  · exact absurd hneg (by omega)
  refine JC_seq ?_
  refine JC_region ?_
  refine JO_q (QE_build [] [_, _, _, _] rfl rfl rfl rfl rfl rfl) rfl ?_
  refine JO_st 0 [_, _, _, _] rfl rfl rfl rfl rfl rfl rfl rfl rfl ?_
  refine JO_q (QE_as rfl) rfl ?_
  refine JO_nil ?_
  refine thenQ_n ?_
  refine JC_ret ?_
  refine thenQ_r ?_
  refine retQ_mk [_, _] _ (.inr rfl) (.agg (us := [_, _, _, _]) 0 rfl rfl rfl rfl rfl (.tmp rfl (.nil))) rfl (Le.trans (Le.trans h1 h2) h3) (fun sR hS2 => ?_)
  first
    | (refine ⟨rfl, y, A', n', c', ?_, hcd, fun z hz => ?_, fun hz => ?_⟩
       · rw [findN, hf]; rfl
       · rw [findN, hf] at hz; injection hz
       · rw [findN, hf] at hz; cases hz)
    | (refine ⟨rfl, ⟨[], 0, false, []⟩, none, 0, 0, ?_, U32_zero, fun z hz => ?_, fun _ => rfl⟩
       · rw [findN, hf]; rfl
       · rw [findN, hf] at hz; cases hz)
 ·
  have hneg := c4
  obtain ⟨hi, hf⟩ | ⟨i, y, hi, hy, hf⟩ := idx_find (fun (y : Ins) => decide (y.name = nm)) t.ins 0
  · exact absurd (by omega) hneg
  rw [hi, Nat.zero_add]
  obtain ⟨b, off, y', A', n', c', rfl, hy', hcy, hay, hnl, hcd⟩ := Inss.at_ (hA.le (Le.trans (Le.trans h1 h2) h3)) (show i < n by rw [hn]; exact (List.getElem?_eq_some_iff.1 hy).1)
  rw [hy] at hy'
  injection hy' with hy'
  subst hy'
  refine JC_skip ?_
  refine thenQ_n ?_
  refine JC_seq ?_
  refine JC_region ?_
  refine JO_q (QE_mv rfl) rfl ?_
  refine JO_q (QE_nil rfl) rfl ?_
  refine JO_q (QE_fa0 rfl rfl rfl rfl) rfl ?_
  refine JO_q (QE_faB rfl rfl rfl rfl) rfl ?_
  refine JO_q (QE_ld1 2 rfl rfl rfl rfl rfl) rfl ?_
  refine JO_q (QE_mv rfl) rfl ?_
  refine JO_q (QE_iaN rfl rfl rfl rfl rfl rfl (show i < n by rw [hn]; exact (List.getElem?_eq_some_iff.1 hy).1)) rfl ?_
  refine JO_q (QE_ldsA rfl rfl rfl (hcy.le (Le.refl (D := D) _)) rfl) rfl ?_
  refine JO_st 0 [_, _, _, _] rfl rfl rfl rfl rfl rfl rfl rfl rfl ?_
  refine JO_q (QE_as rfl) rfl ?_
  refine JO_nil ?_
  refine thenQ_n ?_
  refine JC_ret ?_
  refine retQ_mk [_, _] _ (.inr rfl) (.agg (us := [_, _, _, _]) 0 rfl rfl rfl rfl rfl (.tmp rfl (.nil))) rfl (Le.trans (Le.trans h1 h2) h3) (fun sR hS2 => ?_)
  first
    | (refine ⟨rfl, y, A', n', c', ?_, hcd, fun z hz => ?_, fun hz => ?_⟩
       · rw [findN, hf]; rfl
       · rw [findN, hf] at hz; injection hz
       · rw [findN, hf] at hz; cases hz)
    | (refine ⟨rfl, ⟨[], 0, false, []⟩, none, 0, 0, ?_, U32_zero, fun z hz => ?_, fun _ => rfl⟩
       · rw [findN, hf]; rfl
       · rw [findN, hf] at hz; cases hz)
end Go.Proofs.YteomcjpigoaioaaGreatDoor
