/- The default table's text in plain terms: places of bytes, parts of a text, terms and actions. -/
import Derived.Test.YtpjnphonanbopaaFlL
import Derived.Test.YtpjnphonanbopaaV2
namespace Go.Proofs.Ytpjnphonanbopaa
open Go Go.FL
def findB (l : List UInt8) (c : Int) : Int := idxOf (fun x => decide ((x.toNat : Int) = c)) l 0
/-- the parts of a text at a byte; cur: what has been read of the part at hand -/
def splitF (c : Int) : List UInt8 → List UInt8 → List (List UInt8)
  | cur, [] => [cur]
  | cur, x :: r => if (x.toNat : Int) = c then cur :: splitF c [] r else splitF c (cur ++ [x]) r
def splitB (c : Int) (l : List UInt8) : List (List UInt8) := splitF c [] l
theorem splitF_pos (c : Int) (cur l : List UInt8) : 0 < (splitF c cur l).length := by
  induction l generalizing cur with
  | nil => simp [splitF]
  | cons x r ih =>
    simp only [splitF]
    split
    · simp
    · exact ih _
theorem splitF_len (c : Int) (cur l : List UInt8) : (splitF c cur l).length ≤ l.length + 1 := by
  induction l generalizing cur with
  | nil => simp [splitF]
  | cons x r ih =>
    simp only [splitF]
    split
    · simp only [List.length_cons]; have := ih []; omega
    · simp only [List.length_cons]; have := ih (cur ++ [x]); omega
theorem splitF_short (c : Int) (cur l : List UInt8) : ∀ p ∈ splitF c cur l, p.length ≤ cur.length + l.length := by
  induction l generalizing cur with
  | nil => intro p hp; simp [splitF] at hp; subst hp; simp
  | cons x r ih =>
    intro p hp
    simp only [splitF] at hp
    split at hp
    · rcases List.mem_cons.1 hp with rfl | hp
      · simp only [List.length_cons]; omega
      · have := ih [] p hp; simp only [List.length_nil, List.length_cons] at this ⊢; omega
    · have := ih (cur ++ [x]) p hp; simp only [List.length_append, List.length_cons, List.length_nil] at this ⊢; omega
theorem split_hit {l : List UInt8} {c : Int} {i f : Nat} {x : UInt8} (h : l[i]? = some x) (hx : (x.toNat : Int) = c) : splitF c ((l.drop f).take (i - f)) (l.drop i) = ((l.drop f).take (i - f)) :: splitF c ((l.drop (i + 1)).take ((i + 1) - (i + 1))) (l.drop (i + 1)) := by
  obtain ⟨hi, rfl⟩ := List.getElem?_eq_some_iff.1 h
  rw [List.drop_eq_getElem_cons hi]
  simp only [splitF, hx, if_true, Nat.sub_self, List.take_zero]
theorem split_miss {l : List UInt8} {c : Int} {i f : Nat} {x : UInt8} (h : l[i]? = some x) (hx : ¬ (x.toNat : Int) = c) (hf : f ≤ i) : splitF c ((l.drop f).take (i - f)) (l.drop i) = splitF c ((l.drop f).take ((i + 1) - f)) (l.drop (i + 1)) := by
  obtain ⟨hi, rfl⟩ := List.getElem?_eq_some_iff.1 h
  rw [List.drop_eq_getElem_cons hi]
  simp only [splitF, hx, if_false]
  congr 1
  rw [show i + 1 - f = (i - f) + 1 by omega, List.take_add_one, List.getElem?_drop, show f + (i - f) = i by omega, List.getElem?_eq_getElem hi]; rfl
theorem split_end {l : List UInt8} {c : Int} {f : Nat} : splitF c ((l.drop f).take (l.length - f)) (l.drop l.length) = [l.drop f] := by
  rw [List.drop_length, List.take_of_length_le (by simp)]; rfl
def sb (l : List (List UInt8)) : List Value := l.map fun x => St x
theorem sb_len (l : List (List UInt8)) : (sb l).length = l.length := by simp [sb]
theorem sb_snoc (l : List (List UInt8)) (x : List UInt8) : sb (l ++ [x]) = sb l ++ [St x] := by simp [sb]
theorem Own.strs {e : Nat} {A : Hl} {Ad : Option Addr} {n c : Nat} {l : List (List UInt8)} {s : World} (h : Own e 1 A (.slice Ad n c) n (sb l)) (hu : ∀ x ∈ l, x.length ≤ 9223372036854775807) (hp : Pub A s) (hn : n = l.length) : Strs s Ad n c l := by
  have he : sb l = (l.map fun x => [St x]).flatten := by
    clear h hu hn
    induction l with
    | nil => rfl
    | cons x r ih => simp [sb] at ih ⊢; exact ih
  rw [he] at h
  refine Own.rows h hp ?_ hn
  clear h he hn
  induction l with
  | nil => exact .nil
  | cons x r ih => exact .cons ⟨rfl, rfl, hu x (List.mem_cons_self ..)⟩ (ih fun y hy => hu y (List.mem_cons_of_mem _ hy))
def abcdp : List UInt8 := [65, 66, 67, 68, 80]
def signsB : List UInt8 := [61, 43, 45, 42, 47, 37, 38, 124, 94, 123, 125, 126, 60, 91, 93, 63, 33, 46, 58, 59]
def numF (n : Int) : List UInt8 → Int
  | [] => n
  | c :: r => numF (w32 (w32 (10 * n) + ((c.toNat : Int) - 48) % 256)) r
def termL (l : List UInt8) : Tm := if l = [78] then ⟨2, 0⟩ else if l.head? = some 35 then ⟨0, numF 0 l.tail⟩ else ⟨1, w32 (findB abcdp ((l.headD 0).toNat : Int))⟩
def kindL (l : List UInt8) : Int := findB signsB ((l.headD 0).toNat : Int)
def partsL (l : List UInt8) : List (List UInt8) := splitB 44 l.tail
def kT (l : List UInt8) : Nat := if usesT (kindL l) then 1 else 0
def kX (l : List UInt8) : Nat := kT l + if usesX (kindL l) then 1 else 0
def actL (l : List UInt8) : Ac := ⟨kindL l, if usesT (kindL l) then findB abcdp ((((partsL l).getD 0 []).headD 0).toNat : Int) else 0, if usesX (kindL l) then termL ((partsL l).getD (kT l) []) else ⟨0, 0⟩, if usesY (kindL l) then termL ((partsL l).getD (kX l) []) else ⟨0, 0⟩⟩
def fullAt (l : List (List UInt8)) (i : Nat) : Bool := decide (i < l.length) && decide (l.getD i [] ≠ [])
def okAct (l : List UInt8) : Bool := decide (l ≠ []) && (!usesT (kindL l) || fullAt (partsL l) 0) && (!usesX (kindL l) || fullAt (partsL l) (kT l)) && (!usesY (kindL l) || fullAt (partsL l) (kX l))
theorem full_at {l : List (List UInt8)} {i : Nat} (h : fullAt l i = true) : i < l.length ∧ l[i]? = some (l.getD i []) ∧ l.getD i [] ≠ [] := by
  simp only [fullAt, Bool.and_eq_true, decide_eq_true_eq] at h
  exact ⟨h.1, by simp [List.getD, h.1], h.2⟩
theorem w32_u (x : Int) : U32 (w32 x) := ⟨by unfold w32; omega, by unfold w32; omega⟩
theorem numF_u {n : Int} (h : U32 n) (l : List UInt8) : U32 (numF n l) := by
  induction l generalizing n with
  | nil => exact h
  | cons c r ih => exact ih (w32_u _)
theorem termL_u (l : List UInt8) : U32 (termL l).val := by
  unfold termL
  split
  · exact ⟨by decide, by decide⟩
  split
  · exact numF_u ⟨by decide, by decide⟩ _
  · exact w32_u _
end Go.Proofs.Ytpjnphonanbopaa
