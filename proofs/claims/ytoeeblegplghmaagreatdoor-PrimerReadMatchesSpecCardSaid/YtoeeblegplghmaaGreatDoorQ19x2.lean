/- Part 2 of the proof of primerReadMatchesSpec_holds: texts Pg, Sh, Ty, Eq, V1. -/
import Derived.Test.YtoeeblegplghmaaGreatDoorQ19x1
import Derived.Shelf.Strings.Builder1
import Derived.Shelf.Strings.Builder2
import Derived.Shelf.Strings.OnBuilder
import Derived.Shelf.Strings.Trim
import Derived.Shelf.Small.Utf8
import Derived.Shelf.Small.Strs
import Derived.Shelf.Small.Wraps
import Derived.Shelf.Strconv.Itoa0
import Derived.Shelf.Strconv.Itoa1
import Derived.Shelf.LaysM
import Derived.Shelf.Strconv.Itoa2
import Derived.Shelf.Strconv.Itoa3
import Derived.Ground.MpProg
import Derived.Shelf.Pu.ParseUintPublic10
import Derived.Shelf.Pu.ErrVarParseUint
import Derived.Shelf.Strings.Search1
import Derived.Shelf.Strings.Search2
import Derived.Shelf.Strings.Search3
import Derived.Shelf.Strings.Shaped
import Derived.Shelf.Strings.Prefix
import Derived.Shelf.Strings.Fields
import Derived.Shelf.Unicode.Latin
import Derived.Shelf.Strings.Runes
import Derived.Shelf.Strings.AsciiSet
import Derived.Shelf.Unicode.DecodeSlow
import Derived.Shelf.Unicode.DecodeAny
import Derived.Shelf.Unicode.Is16White
import Derived.Shelf.Unicode.IsSpaceAny
import Derived.Shelf.Unicode.DecodeLast
import Derived.Shelf.Unicode.Is16WhiteD
import Derived.Shelf.Unicode.IsSpaceAnyD
import Derived.Shelf.Strings.FieldsAny
import Derived.Shelf.Strings.FieldsFuncAny
import Derived.Shelf.Unicode.Is16Any
import Derived.Shelf.Unicode.Is32Any
import Derived.Shelf.Unicode.ExclAny
import Derived.Shelf.Strings.FieldsFuncGrows
import Derived.Shelf.Slices.Equal
import Derived.Shelf.Slices.Empties2
import Derived.Test.YtoeeblegplghmaaGreatDoorProg
import Derived.KernelRfl
import Derived.Test.YtoeeblegplghmaaGreatDoorRows
import Derived.Laws.StructEq
set_option linter.unusedVariables false
set_option linter.unusedSimpArgs false
set_option linter.unnecessarySimpa false
namespace Go.Proofs.YtoeeblegplghmaaGreatDoor
open Go Go.FL
theorem fw_miss {l : Str} {i f : Nat} {c : UInt8} (h : l[i]? = some c) (hc : isBlk c = false) (hf : f ≤ i) : fw ((l.drop f).take (i - f)) (l.drop i) = fw ((l.drop f).take (i + 1 - f)) (l.drop (i + 1)) := by
  obtain ⟨hi, rfl⟩ := List.getElem?_eq_some_iff.1 h
  rw [List.drop_eq_getElem_cons hi, fw, hc, if_neg (by decide)]
  congr 1
  rw [show i + 1 - f = (i - f) + 1 by omega, List.take_succ_eq_append_getElem (by rw [List.length_drop]; omega), List.getElem_drop]
  simp only [show f + (i - f) = i by omega]
theorem fw_hit {l : Str} {i f : Nat} {c : UInt8} (h : l[i]? = some c) (hc : isBlk c = true) (hf : f < i) : fw ((l.drop f).take (i - f)) (l.drop i) = ((l.drop f).take (i - f)) :: fw [] (l.drop (i + 1)) := by
  obtain ⟨hi, rfl⟩ := List.getElem?_eq_some_iff.1 h
  have hne : (l.drop f).take (i - f) ≠ [] := fun e => by
    have := congrArg List.length e
    rw [List.length_take, List.length_drop, List.length_nil] at this; omega
  rw [List.drop_eq_getElem_cons hi, fw, if_pos hc, if_neg hne]
theorem fw_skip {l : Str} {i : Nat} {c : UInt8} (h : l[i]? = some c) (hc : isBlk c = true) : fw [] (l.drop i) = fw [] (l.drop (i + 1)) := by
  obtain ⟨hi, rfl⟩ := List.getElem?_eq_some_iff.1 h
  rw [List.drop_eq_getElem_cons hi, fw, if_pos hc, if_pos rfl]
theorem fw_end {l : Str} {f : Nat} (hf : f < l.length) : fw ((l.drop f).take (l.length - f)) (l.drop l.length) = [(l.drop f).take (l.length - f)] := by
  have hne : (l.drop f).take (l.length - f) ≠ [] := fun e => by
    have := congrArg List.length e
    rw [List.length_take, List.length_drop, List.length_nil] at this; omega
  rw [List.drop_length, fw, if_neg hne]
theorem fw_len : ∀ (l cur : Str), (fw cur l).length ≤ l.length + 1 := by
  intro l
  induction l with
  | nil => intro cur; rw [fw]; split <;> simp
  | cons c r ih =>
    intro cur
    have h1 := ih []
    have h2 := ih (cur ++ [c])
    rw [fw, List.length_cons]
    split
    · split
      · omega
      · rw [List.length_cons]; omega
    · omega
theorem fw_short : ∀ (l cur : Str), ∀ w ∈ fw cur l, w.length ≤ cur.length + l.length := by
  intro l
  induction l with
  | nil =>
    intro cur w hw
    rw [fw] at hw
    split at hw
    · cases hw
    · simp only [List.mem_singleton] at hw; subst hw; omega
  | cons c r ih =>
    intro cur w hw
    rw [fw] at hw
    rw [List.length_cons]
    split at hw
    · split at hw
      · have := ih [] w hw; simp at this; omega
      · rcases List.mem_cons.1 hw with rfl | hw
        · omega
        · have := ih [] w hw; simp at this; omega
    · have := ih _ w hw; simp at this; omega
theorem flds_short (l : Str) : ∀ w ∈ flds l, w.length ≤ l.length := fun w hw => by have := fw_short l [] w hw; simpa using this
theorem flds_len (l : Str) : (flds l).length ≤ l.length + 1 := fw_len l []
theorem isBlk_iff {c : UInt8} : isBlk c = true ↔ ((c.toNat : Int) = 32 ∨ (c.toNat : Int) = 10) := by
  simp only [isBlk, Bool.or_eq_true, decide_eq_true_eq]
  constructor
  · rintro (rfl | rfl)
    · exact .inl rfl
    · exact .inr rfl
  · rintro (h | h)
    · exact .inl (UInt8.toNat_inj.1 (by have : (32 : UInt8).toNat = 32 := rfl; omega))
    · exact .inr (UInt8.toNat_inj.1 (by have : (10 : UInt8).toNat = 10 := rfl; omega))
theorem join_snoc : ∀ (ws : List Str) (x : Str), ws ≠ [] → joinW (ws ++ [x]) = joinW ws ++ 32 :: x
  | [], _, h => absurd rfl h
  | [y], x, _ => rfl
  | y :: z :: r, x, _ => by
    have := join_snoc (z :: r) x (by simp)
    simp only [List.cons_append, joinW] at this ⊢
    rw [this]; simp
theorem join_take {ws : List Str} {k : Nat} {x : Str} (h : ws[k]? = some x) : joinW (ws.take (k + 1)) = if k = 0 then x else joinW (ws.take k) ++ 32 :: x := by
  obtain ⟨hk, rfl⟩ := List.getElem?_eq_some_iff.1 h
  rw [List.take_succ_eq_append_getElem hk]
  by_cases h0 : k = 0
  · subst h0; rfl
  · rw [if_neg h0, join_snoc]
    intro e
    have := congrArg List.length e
    rw [List.length_take, List.length_nil] at this; omega
theorem join_app : ∀ (a b : List Str), a ≠ [] → b ≠ [] → joinW (a ++ b) = joinW a ++ 32 :: joinW b
  | [], _, h, _ => absurd rfl h
  | [x], [], _, h => absurd rfl h
  | [x], y :: r, _, _ => rfl
  | x :: z :: r, b, _, hb => by
    have := join_app (z :: r) b (by simp) hb
    simp only [List.cons_append, joinW] at this ⊢
    rw [this]; simp
theorem dv_more {now : List Str} {w : Str} {r : List Str} (h : w ≠ checkB ∨ r = []) : dvF now (w :: r) = dvF (now ++ [w]) r := by
  cases r with
  | nil => rw [dvF, dvF, if_neg (by simp)]
  | cons l r => rw [dvF, if_neg (h.resolve_right (by simp))]
theorem dv_hit (now : List Str) (l : Str) (r : List Str) : dvF now (checkB :: l :: r) = (now, some l) :: dvF [] r := by rw [dvF, if_pos rfl]
theorem dv_first : ∀ (r now : List Str), r ≠ [] ∨ now ≠ [] → ((∀ j w, r[j]? = some w → w = checkB → j + 2 > r.length) → dvF now r = [(now ++ r, none)]) := by
  intro r
  induction r with
  | nil => intro now h _; rw [dvF, if_neg (h.resolve_left (fun h => h rfl)), List.append_nil]
  | cons w r ih =>
    intro now _ h
    have hw : w ≠ checkB ∨ r = [] := by
      by_cases e : w = checkB
      · have := h 0 w rfl e
        right
        rw [List.length_cons] at this
        exact List.eq_nil_of_length_eq_zero (by omega)
      · exact .inl e
    rw [dv_more hw, ih (now ++ [w]) (.inr (by simp)) (fun j x hj hx => by have := h (j + 1) x (by simpa using hj) hx; rw [List.length_cons] at this; omega)]
    simp
theorem dv_at {r : List Str} {i : Nat} {l : Str} (hi : r[i]? = some checkB) (hn : ∀ j w, j < i → r[j]? = some w → w ≠ checkB) (hl : r[i + 1]? = some l) : dvF [] r = (r.take i, some l) :: dvF [] (r.drop (i + 2)) := by
  obtain ⟨h1, h1e⟩ := List.getElem?_eq_some_iff.1 hi
  obtain ⟨h2, h2e⟩ := List.getElem?_eq_some_iff.1 hl
  have e : r = r.take i ++ checkB :: l :: r.drop (i + 2) := by
    conv => lhs; rw [← List.take_append_drop i r, List.drop_eq_getElem_cons h1, List.drop_eq_getElem_cons h2, h1e, h2e]
  have := dv_para (r.take i) [] l (r.drop (i + 2)) (fun w hw => by
    obtain ⟨j, hj⟩ := List.getElem?_of_mem hw
    rw [List.getElem?_take] at hj
    split at hj
    · rename_i hlt; exact hn j w hlt hj
    · cases hj)
  rw [← e] at this
  rw [this]; simp
theorem sn_none : ∀ (r cur : List Str), (∀ w ∈ r, dotB w = false) → sn cur r = if cur ++ r = [] then some [] else none := by
  intro r
  induction r with
  | nil => intro cur _; rw [sn, List.append_nil]
  | cons w r ih =>
    intro cur h
    rw [sn, if_neg (by rw [h w (List.mem_cons_self ..)]; decide), ih _ (fun x hx => h x (List.mem_cons_of_mem _ hx))]
    simp
theorem sn_pre : ∀ (p cur : List Str) (w : Str) (r : List Str), (∀ x ∈ p, dotB x = false) → dotB w = true → sn cur (p ++ w :: r) = (rdAny (cur ++ p ++ [w])).bind fun a => (sn [] r).map (a :: ·) := by
  intro p
  induction p with
  | nil => intro cur w r _ hw; rw [List.nil_append, sn, if_pos hw, List.append_nil]
  | cons x p ih =>
    intro cur w r h hw
    rw [List.cons_append, sn, if_neg (by rw [h x (List.mem_cons_self ..)]; decide), ih _ _ _ (fun y hy => h y (List.mem_cons_of_mem _ hy)) hw]
    simp
theorem sn_at {r : List Str} {j : Nat} {w : Str} (hj : r[j]? = some w) (hw : dotB w = true) (hn : ∀ k x, k < j → r[k]? = some x → dotB x = false) : sn [] r = (rdAny (r.take (j + 1))).bind fun a => (sn [] (r.drop (j + 1))).map (a :: ·) := by
  obtain ⟨h1, h1e⟩ := List.getElem?_eq_some_iff.1 hj
  have e : r = r.take j ++ w :: r.drop (j + 1) := by
    conv => lhs; rw [← List.take_append_drop j r, List.drop_eq_getElem_cons h1, h1e]
  have := sn_pre (r.take j) [] w (r.drop (j + 1)) (fun x hx => by
    obtain ⟨k, hk⟩ := List.getElem?_of_mem hx
    rw [List.getElem?_take] at hk
    split at hk
    · rename_i hlt; exact hn k x hlt hk
    · cases hk) hw
  rw [← e] at this
  rw [this, List.nil_append, List.take_succ_eq_append_getElem h1, h1e]
theorem rdA_nil : rdAny [] = none := by decide +kernel
theorem join_head (c : Int) (nm : Str) (o : Bool) : joinW (headW c nm o) = [73, 110, 115, 116, 114, 117, 99, 116, 105, 111, 110, 32] ++ decS c ++ [32, 105, 115, 32, 110, 97, 109, 101, 100, 32] ++ nm ++ [32, 97, 110, 100, 32, 104, 97, 115, 32] ++ (if o = true then anB else [110, 111]) ++ [32, 111, 112, 101, 114, 97, 110, 100, 46] := by
  simp [headW, joinW]
end Go.Proofs.YtoeeblegplghmaaGreatDoor
namespace Go.Proofs
open Go.Shelf
def Tryz.lays156_ren : Go.Shelf.Ren := ⟨fun | 156 => 28 | 165 => 53 | 166 => 54 | 169 => 55 | 240 => 85 | 241 => 86 | 276 => 102 | 277 => 103 | n => n, fun | 31 => 42 | 9 => 9 | 3 => 3 | 4 => 4 | 0 => 0 | 20 => 20 | 72 => 90 | 76 => 94 | 70 => 88 | 37 => 48 | 75 => 93 | 127 => 119 | 164 => 138 | 5 => 5 | 80 => 96 | n => n, fun | n => n⟩
theorem Tryz.lays156 : Go.Proofs.Lays.n156 Tryz.prog Tryz.lays156_ren := {
  mixed := by kernel_rfl
  f156 := Tryz.func28.trans (congrArg some (by kernel_rfl))
  f165 := Tryz.func53.trans (congrArg some (by kernel_rfl))
  f166 := Tryz.func54.trans (congrArg some (by kernel_rfl))
  f169 := Tryz.func55.trans (congrArg some (by kernel_rfl))
  f240 := Tryz.func85.trans (congrArg some (by kernel_rfl))
  f241 := Tryz.func86.trans (congrArg some (by kernel_rfl))
  f276 := Tryz.func102.trans (congrArg some (by kernel_rfl))
  f277 := Tryz.func103.trans (congrArg some (by kernel_rfl))
  t0 := Tryz.underlying0
  a0 := Tryz.isAgg0
  z0 := Tryz.sizeOf0
  v0 := Tryz.zeroValue0
  t3 := Tryz.underlying3
  a3 := Tryz.isAgg3
  z3 := Tryz.sizeOf3
  v3 := Tryz.zeroValue3
  t4 := Tryz.underlying4
  a4 := Tryz.isAgg4
  z4 := Tryz.sizeOf4
  v4 := Tryz.zeroValue4
  t9 := Tryz.underlying9
  a9 := Tryz.isAgg9
  z9 := Tryz.sizeOf9
  v9 := Tryz.zeroValue9
  t20 := Tryz.underlying20
  a20 := Tryz.isAgg20
  z20 := Tryz.sizeOf20
  v20 := Tryz.zeroValue20
  t31 := Tryz.underlying42
  a31 := Tryz.isAgg42
  z31 := Tryz.sizeOf42
  v31 := Tryz.zeroValue42
  t37 := Tryz.underlying48
  a37 := Tryz.isAgg48
  z37 := Tryz.sizeOf48
  v37 := Tryz.zeroValue48
  t70 := Tryz.underlying88
  a70 := Tryz.isAgg88
  z70 := Tryz.sizeOf88
  v70 := Tryz.zeroValue88
  t72 := Tryz.underlying90
  a72 := Tryz.isAgg90
  z72 := Tryz.sizeOf90
  v72 := Tryz.zeroValue90
  t75 := Tryz.underlying93
  a75 := Tryz.isAgg93
  z75 := Tryz.sizeOf93
  v75 := Tryz.zeroValue93
  t76 := Tryz.underlying94
  a76 := Tryz.isAgg94
  z76 := Tryz.sizeOf94
  v76 := Tryz.zeroValue94
  t127 := Tryz.underlying119
  a127 := Tryz.isAgg119
  z127 := Tryz.sizeOf119
  v127 := Tryz.zeroValue119
  t164 := Tryz.underlying138
  a164 := Tryz.isAgg138
  z164 := Tryz.sizeOf138
  v164 := Tryz.zeroValue138 }
theorem Tryz.Builder_Extra_156 : Builder.Extra Tryz.prog Tryz.lays156_ren := {
  sizeBuilder := by kernel_rfl
  liesBuilder := by kernel_rfl
  t5 := Tryz.underlying5
  a5 := Tryz.isAgg5
  z5 := Tryz.sizeOf5
  v5 := Tryz.zeroValue5
  infoByte := by kernel_rfl
  cellsByte := by kernel_rfl
  sizeByte := by kernel_rfl
  neB5 := by decide }
def Tryz.lays137_ren : Go.Shelf.Ren := ⟨fun | 137 => 101 | 217 => 119 | 266 => 135 | n => n, fun | 9 => 9 | 5 => 5 | 3 => 3 | n => n, fun | n => n⟩
theorem Tryz.lays137 : Go.Proofs.Lays.n137 Tryz.prog Tryz.lays137_ren := {
  mixed := by kernel_rfl
  f137 := Tryz.func101.trans (congrArg some (by kernel_rfl))
  f217 := Tryz.func119.trans (congrArg some (by kernel_rfl))
  f266 := Tryz.func135.trans (congrArg some (by kernel_rfl))
  t3 := Tryz.underlying3
  a3 := Tryz.isAgg3
  z3 := Tryz.sizeOf3
  v3 := Tryz.zeroValue3
  t5 := Tryz.underlying5
  a5 := Tryz.isAgg5
  z5 := Tryz.sizeOf5
  v5 := Tryz.zeroValue5
  t9 := Tryz.underlying9
  a9 := Tryz.isAgg9
  z9 := Tryz.sizeOf9
  v9 := Tryz.zeroValue9 }
def Tryz.lays104_ren : Go.Shelf.Ren := ⟨fun | 104 => 66 | 211 => 88 | 207 => 91 | n => n, fun | 9 => 9 | 4 => 4 | 24 => 46 | 3 => 3 | n => n, fun | n => n⟩
theorem Tryz.lays104 : Go.Proofs.Lays.n104 Tryz.prog Tryz.lays104_ren := {
  mixed := by kernel_rfl
  f104 := Tryz.func66.trans (congrArg some (by kernel_rfl))
  f207 := Tryz.func91.trans (congrArg some (by kernel_rfl))
  f211 := Tryz.func88.trans (congrArg some (by kernel_rfl))
  t3 := Tryz.underlying3
  a3 := Tryz.isAgg3
  z3 := Tryz.sizeOf3
  v3 := Tryz.zeroValue3
  t4 := Tryz.underlying4
  a4 := Tryz.isAgg4
  z4 := Tryz.sizeOf4
  v4 := Tryz.zeroValue4
  t9 := Tryz.underlying9
  a9 := Tryz.isAgg9
  z9 := Tryz.sizeOf9
  v9 := Tryz.zeroValue9
  t24 := Tryz.underlying46
  a24 := Tryz.isAgg46
  z24 := Tryz.sizeOf46
  v24 := Tryz.zeroValue46 }
def Tryz.lays283_ren : Go.Shelf.Ren := ⟨fun | 283 => 111 | n => n, fun | 3 => 3 | 9 => 9 | 4 => 4 | n => n, fun | n => n⟩
theorem Tryz.lays283 : Go.Proofs.Lays.n283 Tryz.prog Tryz.lays283_ren := {
  mixed := by kernel_rfl
  f283 := Tryz.func111.trans (congrArg some (by kernel_rfl))
  t3 := Tryz.underlying3
  a3 := Tryz.isAgg3
  z3 := Tryz.sizeOf3
  v3 := Tryz.zeroValue3
  t4 := Tryz.underlying4
  a4 := Tryz.isAgg4
  z4 := Tryz.sizeOf4
  v4 := Tryz.zeroValue4
  t9 := Tryz.underlying9
  a9 := Tryz.isAgg9
  z9 := Tryz.sizeOf9
  v9 := Tryz.zeroValue9 }
def Tryz.laysM284_ren : Go.Shelf.Ren := ⟨fun | 284 => 112 | 129 => 128 | 317 => 127 | 318 => 129 | n => n, fun | 53 => 123 | 3 => 3 | 212 => 176 | 0 => 0 | 4 => 4 | 46 => 168 | 5 => 5 | 9 => 9 | n => n, fun | 17 => 3 | n => n⟩
theorem Tryz.laysM284 : Go.Proofs.LaysM.n284 Tryz.prog Tryz.laysM284_ren := {
  mixed := by kernel_rfl
  f129 := Tryz.func128.trans (congrArg some (by kernel_rfl))
  f284 := Tryz.func112.trans (congrArg some (by kernel_rfl))
  f317 := Tryz.func127.trans (congrArg some (by kernel_rfl))
  f318 := Tryz.func129.trans (congrArg some (by kernel_rfl))
  t0 := Tryz.underlying0
  a0 := Tryz.isAgg0
  z0 := Tryz.sizeOf0
  v0 := Tryz.zeroValue0
  t3 := Tryz.underlying3
  a3 := Tryz.isAgg3
  z3 := Tryz.sizeOf3
  v3 := Tryz.zeroValue3
  t4 := Tryz.underlying4
  a4 := Tryz.isAgg4
  z4 := Tryz.sizeOf4
  v4 := Tryz.zeroValue4
  t5 := Tryz.underlying5
  a5 := Tryz.isAgg5
  z5 := Tryz.sizeOf5
  v5 := Tryz.zeroValue5
  t9 := Tryz.underlying9
  a9 := Tryz.isAgg9
  z9 := Tryz.sizeOf9
  v9 := Tryz.zeroValue9
  t46 := Tryz.underlying168
  a46 := Tryz.isAgg168
  z46 := Tryz.sizeOf168
  v46 := Tryz.zeroValue168
  t53 := Tryz.underlying123
  a53 := Tryz.isAgg123
  z53 := Tryz.sizeOf123
  v53 := Tryz.zeroValue123
  t212 := Tryz.underlying176
  a212 := Tryz.isAgg176
  z212 := Tryz.sizeOf176
  v212 := Tryz.zeroValue176
  g17 := by kernel_rfl
  i0 := by kernel_rfl
  i3 := by kernel_rfl
  i4 := by kernel_rfl
  i5 := by kernel_rfl
  i9 := by kernel_rfl
  i46 := by kernel_rfl
  i53 := by kernel_rfl
  i212 := by kernel_rfl
  m17 := by kernel_rfl }
def Tryz.lays285_ren : Go.Shelf.Ren := ⟨fun | 285 => 113 | n => n, fun | 37 => 48 | 53 => 123 | 3 => 3 | 4 => 4 | 51 => 60 | 9 => 9 | 5 => 5 | 0 => 0 | n => n, fun | n => n⟩
theorem Tryz.lays285 : Go.Proofs.Lays.n285 Tryz.prog Tryz.lays285_ren := {
  mixed := by kernel_rfl
  f285 := Tryz.func113.trans (congrArg some (by kernel_rfl))
  t0 := Tryz.underlying0
  a0 := Tryz.isAgg0
  z0 := Tryz.sizeOf0
  v0 := Tryz.zeroValue0
  t3 := Tryz.underlying3
  a3 := Tryz.isAgg3
  z3 := Tryz.sizeOf3
  v3 := Tryz.zeroValue3
  t4 := Tryz.underlying4
  a4 := Tryz.isAgg4
  z4 := Tryz.sizeOf4
  v4 := Tryz.zeroValue4
  t5 := Tryz.underlying5
  a5 := Tryz.isAgg5
  z5 := Tryz.sizeOf5
  v5 := Tryz.zeroValue5
  t9 := Tryz.underlying9
  a9 := Tryz.isAgg9
  z9 := Tryz.sizeOf9
  v9 := Tryz.zeroValue9
  t37 := Tryz.underlying48
  a37 := Tryz.isAgg48
  z37 := Tryz.sizeOf48
  v37 := Tryz.zeroValue48
  t51 := Tryz.underlying60
  a51 := Tryz.isAgg60
  z51 := Tryz.sizeOf60
  v51 := Tryz.zeroValue60
  t53 := Tryz.underlying123
  a53 := Tryz.isAgg123
  z53 := Tryz.sizeOf123
  v53 := Tryz.zeroValue123 }
def Tryz.laysM171_ren : Go.Shelf.Ren := ⟨fun | 171 => 49 | 243 => 79 | 246 => 99 | 283 => 111 | 284 => 112 | 285 => 113 | 286 => 114 | 129 => 128 | 317 => 127 | 318 => 129 | 319 => 130 | 320 => 131 | 337 => 141 | 338 => 142 | n => n, fun | 3 => 3 | 9 => 9 | 2 => 2 | 4 => 4 | 171 => 154 | 0 => 0 | 53 => 123 | 37 => 48 | 5 => 5 | 173 => 157 | 212 => 176 | 51 => 60 | 20 => 20 | 213 => 177 | 46 => 168 | 232 => 194 | 233 => 195 | n => n, fun | 17 => 3 | 18 => 6 | 19 => 7 | n => n⟩
theorem Tryz.laysM171 : Go.Proofs.LaysM.n171 Tryz.prog Tryz.laysM171_ren := {
  mixed := by kernel_rfl
  f129 := Tryz.func128.trans (congrArg some (by kernel_rfl))
  f171 := Tryz.func49.trans (congrArg some (by kernel_rfl))
  f243 := Tryz.func79.trans (congrArg some (by kernel_rfl))
  f246 := Tryz.func99.trans (congrArg some (by kernel_rfl))
  f283 := Tryz.func111.trans (congrArg some (by kernel_rfl))
  f284 := Tryz.func112.trans (congrArg some (by kernel_rfl))
  f285 := Tryz.func113.trans (congrArg some (by kernel_rfl))
  f286 := Tryz.func114.trans (congrArg some (by kernel_rfl))
  f317 := Tryz.func127.trans (congrArg some (by kernel_rfl))
  f318 := Tryz.func129.trans (congrArg some (by kernel_rfl))
  f319 := Tryz.func130.trans (congrArg some (by kernel_rfl))
  f320 := Tryz.func131.trans (congrArg some (by kernel_rfl))
  f337 := Tryz.func141.trans (congrArg some (by kernel_rfl))
  f338 := Tryz.func142.trans (congrArg some (by kernel_rfl))
  t0 := Tryz.underlying0
  a0 := Tryz.isAgg0
  z0 := Tryz.sizeOf0
  v0 := Tryz.zeroValue0
  t2 := Tryz.underlying2
  a2 := Tryz.isAgg2
  z2 := Tryz.sizeOf2
  v2 := Tryz.zeroValue2
  t3 := Tryz.underlying3
  a3 := Tryz.isAgg3
  z3 := Tryz.sizeOf3
  v3 := Tryz.zeroValue3
  t4 := Tryz.underlying4
  a4 := Tryz.isAgg4
  z4 := Tryz.sizeOf4
  v4 := Tryz.zeroValue4
  t5 := Tryz.underlying5
  a5 := Tryz.isAgg5
  z5 := Tryz.sizeOf5
  v5 := Tryz.zeroValue5
  t9 := Tryz.underlying9
  a9 := Tryz.isAgg9
  z9 := Tryz.sizeOf9
  v9 := Tryz.zeroValue9
  t20 := Tryz.underlying20
  a20 := Tryz.isAgg20
  z20 := Tryz.sizeOf20
  v20 := Tryz.zeroValue20
  t37 := Tryz.underlying48
  a37 := Tryz.isAgg48
  z37 := Tryz.sizeOf48
  v37 := Tryz.zeroValue48
  t46 := Tryz.underlying168
  a46 := Tryz.isAgg168
  z46 := Tryz.sizeOf168
  v46 := Tryz.zeroValue168
  t51 := Tryz.underlying60
  a51 := Tryz.isAgg60
  z51 := Tryz.sizeOf60
  v51 := Tryz.zeroValue60
  t53 := Tryz.underlying123
  a53 := Tryz.isAgg123
  z53 := Tryz.sizeOf123
  v53 := Tryz.zeroValue123
  t171 := Tryz.underlying154
  a171 := Tryz.isAgg154
  z171 := Tryz.sizeOf154
  v171 := Tryz.zeroValue154
  t173 := Tryz.underlying157
  a173 := Tryz.isAgg157
  z173 := Tryz.sizeOf157
  v173 := Tryz.zeroValue157
  t212 := Tryz.underlying176
  a212 := Tryz.isAgg176
  z212 := Tryz.sizeOf176
  v212 := Tryz.zeroValue176
  t213 := Tryz.underlying177
  a213 := Tryz.isAgg177
  z213 := Tryz.sizeOf177
  t232 := Tryz.underlying194
  a232 := Tryz.isAgg194
  z232 := Tryz.sizeOf194
  v232 := Tryz.zeroValue194
  t233 := Tryz.underlying195
  a233 := Tryz.isAgg195
  z233 := Tryz.sizeOf195
  v233 := Tryz.zeroValue195
  g17 := by kernel_rfl
  g18 := by kernel_rfl
  g19 := by kernel_rfl
  i0 := by kernel_rfl
  i2 := by kernel_rfl
  i3 := by kernel_rfl
  i4 := by kernel_rfl
  i5 := by kernel_rfl
  i9 := by kernel_rfl
  i20 := by kernel_rfl
  i37 := by kernel_rfl
  i46 := by kernel_rfl
  i51 := by kernel_rfl
  i53 := by kernel_rfl
  i171 := by kernel_rfl
  i173 := by kernel_rfl
  i212 := by kernel_rfl
  i232 := by kernel_rfl
  i233 := by kernel_rfl
  m17 := by kernel_rfl
  m18 := by kernel_rfl
  m19 := by kernel_rfl }
def Tryz.laysPu14_ren : Go.Shelf.Ren := ⟨fun | 14 => 89 | 16 => 104 | 17 => 105 | 19 => 120 | 20 => 121 | 21 => 122 | 22 => 123 | 23 => 124 | 24 => 125 | 25 => 136 | 27 => 49 | 26 => 137 | 28 => 79 | 29 => 99 | 30 => 111 | 31 => 112 | 32 => 113 | 33 => 114 | 35 => 128 | 34 => 127 | 36 => 129 | 37 => 130 | 38 => 131 | 39 => 141 | 40 => 142 | n => n, fun | 9 => 9 | 3 => 3 | 22 => 123 | 24 => 93 | 25 => 124 | 4 => 4 | 34 => 166 | 5 => 5 | 36 => 168 | 37 => 48 | 0 => 0 | 39 => 169 | 21 => 21 | 44 => 185 | 47 => 119 | 50 => 191 | 48 => 189 | 2 => 2 | 52 => 154 | 55 => 157 | 59 => 176 | 60 => 60 | 20 => 20 | 61 => 177 | 65 => 194 | 66 => 195 | 67 => 96 | n => n, fun | 0 => 4 | 1 => 5 | 2 => 3 | 3 => 6 | 4 => 7 | n => n⟩
theorem Tryz.laysPu14 : Go.Proofs.LaysPu.n14 Tryz.prog Tryz.laysPu14_ren := {
  mixed := by kernel_rfl
  f14 := Tryz.func89.trans (congrArg some (by kernel_rfl))
  f16 := Tryz.func104.trans (congrArg some (by kernel_rfl))
  f17 := Tryz.func105.trans (congrArg some (by kernel_rfl))
  f19 := Tryz.func120.trans (congrArg some (by kernel_rfl))
  f20 := Tryz.func121.trans (congrArg some (by kernel_rfl))
  f21 := Tryz.func122.trans (congrArg some (by kernel_rfl))
  f22 := Tryz.func123.trans (congrArg some (by kernel_rfl))
  f23 := Tryz.func124.trans (congrArg some (by kernel_rfl))
  f24 := Tryz.func125.trans (congrArg some (by kernel_rfl))
  f25 := Tryz.func136.trans (congrArg some (by kernel_rfl))
  f26 := Tryz.func137.trans (congrArg some (by kernel_rfl))
  f27 := Tryz.func49.trans (congrArg some (by kernel_rfl))
  f28 := Tryz.func79.trans (congrArg some (by kernel_rfl))
  f29 := Tryz.func99.trans (congrArg some (by kernel_rfl))
  f30 := Tryz.func111.trans (congrArg some (by kernel_rfl))
  f31 := Tryz.func112.trans (congrArg some (by kernel_rfl))
  f32 := Tryz.func113.trans (congrArg some (by kernel_rfl))
  f33 := Tryz.func114.trans (congrArg some (by kernel_rfl))
  f34 := Tryz.func127.trans (congrArg some (by kernel_rfl))
  f35 := Tryz.func128.trans (congrArg some (by kernel_rfl))
  f36 := Tryz.func129.trans (congrArg some (by kernel_rfl))
  f37 := Tryz.func130.trans (congrArg some (by kernel_rfl))
  f38 := Tryz.func131.trans (congrArg some (by kernel_rfl))
  f39 := Tryz.func141.trans (congrArg some (by kernel_rfl))
  f40 := Tryz.func142.trans (congrArg some (by kernel_rfl))
  t0 := Tryz.underlying0
  a0 := Tryz.isAgg0
  z0 := Tryz.sizeOf0
  v0 := Tryz.zeroValue0
  i0 := by kernel_rfl
  t2 := Tryz.underlying2
  a2 := Tryz.isAgg2
  z2 := Tryz.sizeOf2
  v2 := Tryz.zeroValue2
  i2 := by kernel_rfl
  t3 := Tryz.underlying3
  a3 := Tryz.isAgg3
  z3 := Tryz.sizeOf3
  v3 := Tryz.zeroValue3
  i3 := by kernel_rfl
  t4 := Tryz.underlying4
  a4 := Tryz.isAgg4
  z4 := Tryz.sizeOf4
  v4 := Tryz.zeroValue4
  i4 := by kernel_rfl
  t5 := Tryz.underlying5
  a5 := Tryz.isAgg5
  z5 := Tryz.sizeOf5
  v5 := Tryz.zeroValue5
  i5 := by kernel_rfl
  t9 := Tryz.underlying9
  a9 := Tryz.isAgg9
  z9 := Tryz.sizeOf9
  v9 := Tryz.zeroValue9
  i9 := by kernel_rfl
  t20 := Tryz.underlying20
  a20 := Tryz.isAgg20
  z20 := Tryz.sizeOf20
  v20 := Tryz.zeroValue20
  i20 := by kernel_rfl
  t21 := Tryz.underlying21
  a21 := Tryz.isAgg21
  z21 := Tryz.sizeOf21
  v21 := Tryz.zeroValue21
  i21 := by kernel_rfl
  t22 := Tryz.underlying123
  a22 := Tryz.isAgg123
  z22 := Tryz.sizeOf123
  v22 := Tryz.zeroValue123
  i22 := by kernel_rfl
  t24 := Tryz.underlying93
  a24 := Tryz.isAgg93
  z24 := Tryz.sizeOf93
  v24 := Tryz.zeroValue93
  i24 := by kernel_rfl
  t25 := Tryz.underlying124
  a25 := Tryz.isAgg124
  z25 := Tryz.sizeOf124
  v25 := Tryz.zeroValue124
  i25 := by kernel_rfl
  t34 := Tryz.underlying166
  a34 := Tryz.isAgg166
  z34 := Tryz.sizeOf166
  v34 := Tryz.zeroValue166
  i34 := by kernel_rfl
  c34 := by kernel_rfl
  t36 := Tryz.underlying168
  a36 := Tryz.isAgg168
  z36 := Tryz.sizeOf168
  v36 := Tryz.zeroValue168
  i36 := by kernel_rfl
  t37 := Tryz.underlying48
  a37 := Tryz.isAgg48
  z37 := Tryz.sizeOf48
  v37 := Tryz.zeroValue48
  i37 := by kernel_rfl
  t39 := Tryz.underlying169
  a39 := Tryz.isAgg169
  z39 := Tryz.sizeOf169
  v39 := Tryz.zeroValue169
  i39 := by kernel_rfl
  t44 := Tryz.underlying185
  a44 := Tryz.isAgg185
  z44 := Tryz.sizeOf185
  v44 := Tryz.zeroValue185
  i44 := by kernel_rfl
  t47 := Tryz.underlying119
  a47 := Tryz.isAgg119
  z47 := Tryz.sizeOf119
  v47 := Tryz.zeroValue119
  i47 := by kernel_rfl
  t48 := Tryz.underlying189
  a48 := Tryz.isAgg189
  z48 := Tryz.sizeOf189
  v48 := Tryz.zeroValue189
  i48 := by kernel_rfl
  t50 := Tryz.underlying191
  a50 := Tryz.isAgg191
  z50 := Tryz.sizeOf191
  v50 := Tryz.zeroValue191
  i50 := by kernel_rfl
  t52 := Tryz.underlying154
  a52 := Tryz.isAgg154
  z52 := Tryz.sizeOf154
  v52 := Tryz.zeroValue154
  i52 := by kernel_rfl
  t55 := Tryz.underlying157
  a55 := Tryz.isAgg157
  z55 := Tryz.sizeOf157
  v55 := Tryz.zeroValue157
  i55 := by kernel_rfl
  t59 := Tryz.underlying176
  a59 := Tryz.isAgg176
  z59 := Tryz.sizeOf176
  v59 := Tryz.zeroValue176
  i59 := by kernel_rfl
  t60 := Tryz.underlying60
  a60 := Tryz.isAgg60
  z60 := Tryz.sizeOf60
  v60 := Tryz.zeroValue60
  i60 := by kernel_rfl
  t61 := Tryz.underlying177
  a61 := Tryz.isAgg177
  z61 := Tryz.sizeOf177
  t65 := Tryz.underlying194
  a65 := Tryz.isAgg194
  z65 := Tryz.sizeOf194
  v65 := Tryz.zeroValue194
  i65 := by kernel_rfl
  t66 := Tryz.underlying195
  a66 := Tryz.isAgg195
  z66 := Tryz.sizeOf195
  v66 := Tryz.zeroValue195
  i66 := by kernel_rfl
  t67 := Tryz.underlying96
  a67 := Tryz.isAgg96
  z67 := Tryz.sizeOf96
  v67 := Tryz.zeroValue96
  i67 := by kernel_rfl
  g0 := by kernel_rfl
  m0 := by kernel_rfl
  g1 := by kernel_rfl
  m1 := by kernel_rfl
  g2 := by kernel_rfl
  m2 := by kernel_rfl
  g3 := by kernel_rfl
  m3 := by kernel_rfl
  g4 := by kernel_rfl
  m4 := by kernel_rfl }
def Tryz.lays143_ren : Go.Shelf.Ren := ⟨fun | 143 => 107 | 219 => 126 | 217 => 119 | 225 => 138 | 224 => 139 | 267 => 140 | 266 => 135 | 314 => 146 | n => n, fun | 9 => 9 | 3 => 3 | 4 => 4 | 5 => 5 | 46 => 168 | 146 => 192 | 51 => 60 | n => n, fun | 1 => 2 | n => n⟩
theorem Tryz.lays143 : Go.Proofs.Lays.n143 Tryz.prog Tryz.lays143_ren := {
  mixed := by kernel_rfl
  f143 := Tryz.func107.trans (congrArg some (by kernel_rfl))
  f217 := Tryz.func119.trans (congrArg some (by kernel_rfl))
  f219 := Tryz.func126.trans (congrArg some (by kernel_rfl))
  f224 := Tryz.func139.trans (congrArg some (by kernel_rfl))
  f225 := Tryz.func138.trans (congrArg some (by kernel_rfl))
  f266 := Tryz.func135.trans (congrArg some (by kernel_rfl))
  f267 := Tryz.func140.trans (congrArg some (by kernel_rfl))
  f314 := Tryz.func146.trans (congrArg some (by kernel_rfl))
  t3 := Tryz.underlying3
  a3 := Tryz.isAgg3
  z3 := Tryz.sizeOf3
  v3 := Tryz.zeroValue3
  t4 := Tryz.underlying4
  a4 := Tryz.isAgg4
  z4 := Tryz.sizeOf4
  v4 := Tryz.zeroValue4
  t5 := Tryz.underlying5
  a5 := Tryz.isAgg5
  z5 := Tryz.sizeOf5
  v5 := Tryz.zeroValue5
  t9 := Tryz.underlying9
  a9 := Tryz.isAgg9
  z9 := Tryz.sizeOf9
  v9 := Tryz.zeroValue9
  t46 := Tryz.underlying168
  a46 := Tryz.isAgg168
  z46 := Tryz.sizeOf168
  v46 := Tryz.zeroValue168
  t51 := Tryz.underlying60
  a51 := Tryz.isAgg60
  z51 := Tryz.sizeOf60
  v51 := Tryz.zeroValue60
  t146 := Tryz.underlying192
  a146 := Tryz.isAgg192
  z146 := Tryz.sizeOf192
  v146 := Tryz.zeroValue192
  g1 := by kernel_rfl }
def Tryz.lays100_ren : Go.Shelf.Ren := ⟨fun | 100 => 71 | 207 => 91 | n => n, fun | 9 => 9 | 4 => 4 | 3 => 3 | n => n, fun | n => n⟩
theorem Tryz.lays100 : Go.Proofs.Lays.n100 Tryz.prog Tryz.lays100_ren := {
  mixed := by kernel_rfl
  f100 := Tryz.func71.trans (congrArg some (by kernel_rfl))
  f207 := Tryz.func91.trans (congrArg some (by kernel_rfl))
  t3 := Tryz.underlying3
  a3 := Tryz.isAgg3
  z3 := Tryz.sizeOf3
  v3 := Tryz.zeroValue3
  t4 := Tryz.underlying4
  a4 := Tryz.isAgg4
  z4 := Tryz.sizeOf4
  v4 := Tryz.zeroValue4
  t9 := Tryz.underlying9
  a9 := Tryz.isAgg9
  z9 := Tryz.sizeOf9
  v9 := Tryz.zeroValue9 }
def Tryz.lays157_ren : Go.Shelf.Ren := ⟨fun | 157 => 48 | 229 => 62 | 199 => 78 | 261 => 98 | 311 => 109 | 312 => 110 | n => n, fun | 9 => 9 | 31 => 42 | 3 => 3 | 5 => 5 | 4 => 4 | 119 => 115 | 0 => 0 | 40 => 103 | 152 => 120 | 21 => 21 | 154 => 122 | 51 => 60 | 141 => 134 | 196 => 146 | 193 => 143 | 198 => 149 | 49 => 147 | 194 => 144 | 201 => 152 | 226 => 172 | 46 => 168 | 227 => 173 | n => n, fun | 0 => 0 | 6 => 1 | n => n⟩
theorem Tryz.lays157 : Go.Proofs.Lays.n157 Tryz.prog Tryz.lays157_ren := {
  mixed := by kernel_rfl
  f157 := Tryz.func48.trans (congrArg some (by kernel_rfl))
  f199 := Tryz.func78.trans (congrArg some (by kernel_rfl))
  f229 := Tryz.func62.trans (congrArg some (by kernel_rfl))
  f261 := Tryz.func98.trans (congrArg some (by kernel_rfl))
  f311 := Tryz.func109.trans (congrArg some (by kernel_rfl))
  f312 := Tryz.func110.trans (congrArg some (by kernel_rfl))
  t0 := Tryz.underlying0
  a0 := Tryz.isAgg0
  z0 := Tryz.sizeOf0
  v0 := Tryz.zeroValue0
  t3 := Tryz.underlying3
  a3 := Tryz.isAgg3
  z3 := Tryz.sizeOf3
  v3 := Tryz.zeroValue3
  t4 := Tryz.underlying4
  a4 := Tryz.isAgg4
  z4 := Tryz.sizeOf4
  v4 := Tryz.zeroValue4
  t5 := Tryz.underlying5
  a5 := Tryz.isAgg5
  z5 := Tryz.sizeOf5
  v5 := Tryz.zeroValue5
  t9 := Tryz.underlying9
  a9 := Tryz.isAgg9
  z9 := Tryz.sizeOf9
  v9 := Tryz.zeroValue9
  t21 := Tryz.underlying21
  a21 := Tryz.isAgg21
  z21 := Tryz.sizeOf21
  v21 := Tryz.zeroValue21
  t31 := Tryz.underlying42
  a31 := Tryz.isAgg42
  z31 := Tryz.sizeOf42
  v31 := Tryz.zeroValue42
  t40 := Tryz.underlying103
  a40 := Tryz.isAgg103
  z40 := Tryz.sizeOf103
  v40 := Tryz.zeroValue103
  t46 := Tryz.underlying168
  a46 := Tryz.isAgg168
  z46 := Tryz.sizeOf168
  v46 := Tryz.zeroValue168
  t49 := Tryz.underlying147
  a49 := Tryz.isAgg147
  z49 := Tryz.sizeOf147
  v49 := Tryz.zeroValue147
  t51 := Tryz.underlying60
  a51 := Tryz.isAgg60
  z51 := Tryz.sizeOf60
  v51 := Tryz.zeroValue60
  t119 := Tryz.underlying115
  a119 := Tryz.isAgg115
  z119 := Tryz.sizeOf115
  t141 := Tryz.underlying134
  a141 := Tryz.isAgg134
  z141 := Tryz.sizeOf134
  v141 := Tryz.zeroValue134
  t152 := Tryz.underlying120
  a152 := Tryz.isAgg120
  z152 := Tryz.sizeOf120
  v152 := Tryz.zeroValue120
  t154 := Tryz.underlying122
  a154 := Tryz.isAgg122
  z154 := Tryz.sizeOf122
  v154 := Tryz.zeroValue122
  t193 := Tryz.underlying143
  a193 := Tryz.isAgg143
  z193 := Tryz.sizeOf143
  v193 := Tryz.zeroValue143
  t194 := Tryz.underlying144
  a194 := Tryz.isAgg144
  z194 := Tryz.sizeOf144
  v194 := Tryz.zeroValue144
  t196 := Tryz.underlying146
  a196 := Tryz.isAgg146
  z196 := Tryz.sizeOf146
  v196 := Tryz.zeroValue146
  t198 := Tryz.underlying149
  a198 := Tryz.isAgg149
  z198 := Tryz.sizeOf149
  v198 := Tryz.zeroValue149
  t201 := Tryz.underlying152
  a201 := Tryz.isAgg152
  z201 := Tryz.sizeOf152
  v201 := Tryz.zeroValue152
  t226 := Tryz.underlying172
  a226 := Tryz.isAgg172
  z226 := Tryz.sizeOf172
  v226 := Tryz.zeroValue172
  t227 := Tryz.underlying173
  a227 := Tryz.isAgg173
  z227 := Tryz.sizeOf173
  v227 := Tryz.zeroValue173
  g0 := by kernel_rfl
  g6 := by kernel_rfl }
def Tryz.lays227_ren : Go.Shelf.Ren := ⟨fun | 227 => 116 | n => n, fun | 9 => 9 | 116 => 161 | 4 => 4 | 0 => 0 | 3 => 3 | 5 => 5 | n => n, fun | n => n⟩
theorem Tryz.lays227 : Go.Proofs.Lays.n227 Tryz.prog Tryz.lays227_ren := {
  mixed := by kernel_rfl
  f227 := Tryz.func116.trans (congrArg some (by kernel_rfl))
  t0 := Tryz.underlying0
  a0 := Tryz.isAgg0
  z0 := Tryz.sizeOf0
  v0 := Tryz.zeroValue0
  t3 := Tryz.underlying3
  a3 := Tryz.isAgg3
  z3 := Tryz.sizeOf3
  v3 := Tryz.zeroValue3
  t4 := Tryz.underlying4
  a4 := Tryz.isAgg4
  z4 := Tryz.sizeOf4
  v4 := Tryz.zeroValue4
  t5 := Tryz.underlying5
  a5 := Tryz.isAgg5
  z5 := Tryz.sizeOf5
  v5 := Tryz.zeroValue5
  t9 := Tryz.underlying9
  a9 := Tryz.isAgg9
  z9 := Tryz.sizeOf9
  v9 := Tryz.zeroValue9
  t116 := Tryz.underlying161
  a116 := Tryz.isAgg161
  z116 := Tryz.sizeOf161 }
def Tryz.lays228_ren : Go.Shelf.Ren := ⟨fun | 228 => 132 | n => n, fun | 124 => 165 | 5 => 5 | 4 => 4 | 0 => 0 | 116 => 161 | n => n, fun | n => n⟩
theorem Tryz.lays228 : Go.Proofs.Lays.n228 Tryz.prog Tryz.lays228_ren := {
  mixed := by kernel_rfl
  f228 := Tryz.func132.trans (congrArg some (by kernel_rfl))
  t0 := Tryz.underlying0
  a0 := Tryz.isAgg0
  z0 := Tryz.sizeOf0
  v0 := Tryz.zeroValue0
  t4 := Tryz.underlying4
  a4 := Tryz.isAgg4
  z4 := Tryz.sizeOf4
  v4 := Tryz.zeroValue4
  t5 := Tryz.underlying5
  a5 := Tryz.isAgg5
  z5 := Tryz.sizeOf5
  v5 := Tryz.zeroValue5
  t116 := Tryz.underlying161
  a116 := Tryz.isAgg161
  z116 := Tryz.sizeOf161
  t124 := Tryz.underlying165
  a124 := Tryz.isAgg165
  z124 := Tryz.sizeOf165
  v124 := Tryz.zeroValue165 }
def Tryz.lays229_ren : Go.Shelf.Ren := ⟨fun | 229 => 62 | n => n, fun | 9 => 9 | 40 => 103 | 31 => 42 | 152 => 120 | 3 => 3 | 0 => 0 | 4 => 4 | 21 => 21 | 154 => 122 | n => n, fun | n => n⟩
theorem Tryz.lays229 : Go.Proofs.Lays.n229 Tryz.prog Tryz.lays229_ren := {
  mixed := by kernel_rfl
  f229 := Tryz.func62.trans (congrArg some (by kernel_rfl))
  t0 := Tryz.underlying0
  a0 := Tryz.isAgg0
  z0 := Tryz.sizeOf0
  v0 := Tryz.zeroValue0
  t3 := Tryz.underlying3
  a3 := Tryz.isAgg3
  z3 := Tryz.sizeOf3
  v3 := Tryz.zeroValue3
  t4 := Tryz.underlying4
  a4 := Tryz.isAgg4
  z4 := Tryz.sizeOf4
  v4 := Tryz.zeroValue4
  t9 := Tryz.underlying9
  a9 := Tryz.isAgg9
  z9 := Tryz.sizeOf9
  v9 := Tryz.zeroValue9
  t21 := Tryz.underlying21
  a21 := Tryz.isAgg21
  z21 := Tryz.sizeOf21
  v21 := Tryz.zeroValue21
  t31 := Tryz.underlying42
  a31 := Tryz.isAgg42
  z31 := Tryz.sizeOf42
  v31 := Tryz.zeroValue42
  t40 := Tryz.underlying103
  a40 := Tryz.isAgg103
  z40 := Tryz.sizeOf103
  v40 := Tryz.zeroValue103
  t152 := Tryz.underlying120
  a152 := Tryz.isAgg120
  z152 := Tryz.sizeOf120
  v152 := Tryz.zeroValue120
  t154 := Tryz.underlying122
  a154 := Tryz.isAgg122
  z154 := Tryz.sizeOf122
  v154 := Tryz.zeroValue122 }
def Tryz.lays193_ren : Go.Shelf.Ren := ⟨fun | 193 => 68 | n => n, fun | 31 => 42 | 9 => 9 | 4 => 4 | 3 => 3 | 0 => 0 | n => n, fun | n => n⟩
theorem Tryz.lays193 : Go.Proofs.Lays.n193 Tryz.prog Tryz.lays193_ren := {
  mixed := by kernel_rfl
  f193 := Tryz.func68.trans (congrArg some (by kernel_rfl))
  t0 := Tryz.underlying0
  a0 := Tryz.isAgg0
  z0 := Tryz.sizeOf0
  v0 := Tryz.zeroValue0
  t3 := Tryz.underlying3
  a3 := Tryz.isAgg3
  z3 := Tryz.sizeOf3
  v3 := Tryz.zeroValue3
  t4 := Tryz.underlying4
  a4 := Tryz.isAgg4
  z4 := Tryz.sizeOf4
  v4 := Tryz.zeroValue4
  t9 := Tryz.underlying9
  a9 := Tryz.isAgg9
  z9 := Tryz.sizeOf9
  v9 := Tryz.zeroValue9
  t31 := Tryz.underlying42
  a31 := Tryz.isAgg42
  z31 := Tryz.sizeOf42
  v31 := Tryz.zeroValue42 }
end Go.Proofs
namespace Go.FL
open Go Go.Proofs
theorem TabOK.nil {P : Program} : TabOK P [] := fun _ h => by cases h
theorem TabOK.cons {P : Program} {x : Nat × TI} {r : TyTab} (h : x.2.ok P x.1) (k : TabOK P r) : TabOK P (x :: r) := fun y hy => by
  rcases List.mem_cons.1 hy with rfl | hy
  · exact h
  · exact k y hy
def ti2 : TI := { kind := .sc, desc := .int .i64, size := 1, bytes := 8, zeros := [.int .i64 0] }
theorem ti2_ok : ti2.ok Tryz.prog 2 := ⟨Tryz.underlying2, trivial, by kernel_rfl, rfl, rfl, by decide, fun _ => rfl, by kernel_rfl, by kernel_rfl⟩
def ti3 : TI := { kind := .sc, desc := .int .i64, size := 1, bytes := 8, zeros := [.int .i64 0] }
theorem ti3_ok : ti3.ok Tryz.prog 3 := ⟨Tryz.underlying3, trivial, by kernel_rfl, rfl, rfl, by decide, fun _ => rfl, by kernel_rfl, by kernel_rfl⟩
def ti4 : TI := { kind := .sc, desc := .bool, size := 1, bytes := 1, zeros := [.bool false] }
theorem ti4_ok : ti4.ok Tryz.prog 4 := ⟨Tryz.underlying4, trivial, by kernel_rfl, rfl, rfl, by decide, fun _ => rfl, by kernel_rfl, by kernel_rfl⟩
def ti5 : TI := { kind := .sc, desc := .int .u8, size := 1, bytes := 1, zeros := [.int .u8 0] }
theorem ti5_ok : ti5.ok Tryz.prog 5 := ⟨Tryz.underlying5, trivial, by kernel_rfl, rfl, rfl, by decide, fun _ => rfl, by kernel_rfl, by kernel_rfl⟩
def ti6 : TI := { kind := .sc, desc := .int .u8, size := 1, bytes := 1, zeros := [.int .u8 0] }
theorem ti6_ok : ti6.ok Tryz.prog 6 := ⟨Tryz.underlying6, trivial, by kernel_rfl, rfl, rfl, by decide, fun _ => rfl, by kernel_rfl, by kernel_rfl⟩
def ti7 : TI := { kind := .st [0, 1, 2, 3], desc := .struct #[{ name := "x", type := 2, offset := 0, embedded := false, tag := "", pkgPath := "runtime", byteOffset := 0 }, { name := "y", type := 3, offset := 1, embedded := false, tag := "", pkgPath := "runtime", byteOffset := 8 }, { name := "signed", type := 4, offset := 2, embedded := false, tag := "", pkgPath := "runtime", byteOffset := 16 }, { name := "code", type := 6, offset := 3, embedded := false, tag := "", pkgPath := "runtime", byteOffset := 17 }], size := 4, bytes := 24, zeros := [.int .i64 0, .int .i64 0, .bool false, .int .u8 0], fsz := [1, 1, 1, 1] }
theorem ti7_ok : ti7.ok Tryz.prog 7 := ⟨Tryz.underlying7, rfl, by kernel_rfl, rfl, rfl, by decide, (fun h => by cases h), by kernel_rfl, by kernel_rfl⟩
def ti8 : TI := { kind := .st [0, 1, 2, 3], desc := .struct #[{ name := "x", type := 2, offset := 0, embedded := false, tag := "", pkgPath := "runtime", byteOffset := 0 }, { name := "y", type := 3, offset := 1, embedded := false, tag := "", pkgPath := "runtime", byteOffset := 8 }, { name := "signed", type := 4, offset := 2, embedded := false, tag := "", pkgPath := "runtime", byteOffset := 16 }, { name := "code", type := 6, offset := 3, embedded := false, tag := "", pkgPath := "runtime", byteOffset := 17 }], size := 4, bytes := 24, zeros := [.int .i64 0, .int .i64 0, .bool false, .int .u8 0], fsz := [1, 1, 1, 1] }
theorem ti8_ok : ti8.ok Tryz.prog 8 := ⟨Tryz.underlying8, rfl, by kernel_rfl, rfl, rfl, by decide, (fun h => by cases h), by kernel_rfl, by kernel_rfl⟩
def ti9 : TI := { kind := .sc, desc := .string, size := 1, bytes := 16, zeros := [St []] }
theorem ti9_ok : ti9.ok Tryz.prog 9 := ⟨Tryz.underlying9, trivial, by kernel_rfl, rfl, rfl, by decide, fun _ => rfl, by kernel_rfl, by kernel_rfl⟩
def ti10 : TI := { kind := .sc, desc := .string, size := 1, bytes := 16, zeros := [St []] }
theorem ti10_ok : ti10.ok Tryz.prog 10 := ⟨Tryz.underlying10, trivial, by kernel_rfl, rfl, rfl, by decide, fun _ => rfl, by kernel_rfl, by kernel_rfl⟩
def ti11 : TI := { kind := .sc, desc := .string, size := 1, bytes := 16, zeros := [St []] }
theorem ti11_ok : ti11.ok Tryz.prog 11 := ⟨Tryz.underlying11, trivial, by kernel_rfl, rfl, rfl, by decide, fun _ => rfl, by kernel_rfl, by kernel_rfl⟩
def ti12 : TI := { kind := .sc, desc := .int .u64, size := 1, bytes := 8, zeros := [.int .u64 0] }
theorem ti12_ok : ti12.ok Tryz.prog 12 := ⟨Tryz.underlying12, trivial, by kernel_rfl, rfl, rfl, by decide, fun _ => rfl, by kernel_rfl, by kernel_rfl⟩
def ti13 : TI := { kind := .st [0, 1], desc := .struct #[{ name := "msg", type := 9, offset := 0, embedded := false, tag := "", pkgPath := "runtime", byteOffset := 0 }, { name := "addr", type := 12, offset := 1, embedded := false, tag := "", pkgPath := "runtime", byteOffset := 16 }], size := 2, bytes := 24, zeros := [St [], .int .u64 0], fsz := [1, 1] }
theorem ti13_ok : ti13.ok Tryz.prog 13 := ⟨Tryz.underlying13, rfl, by kernel_rfl, rfl, rfl, by decide, (fun h => by cases h), by kernel_rfl, by kernel_rfl⟩
def ti14 : TI := { kind := .st [0, 1], desc := .struct #[{ name := "msg", type := 9, offset := 0, embedded := false, tag := "", pkgPath := "runtime", byteOffset := 0 }, { name := "addr", type := 12, offset := 1, embedded := false, tag := "", pkgPath := "runtime", byteOffset := 16 }], size := 2, bytes := 24, zeros := [St [], .int .u64 0], fsz := [1, 1] }
theorem ti14_ok : ti14.ok Tryz.prog 14 := ⟨Tryz.underlying14, rfl, by kernel_rfl, rfl, rfl, by decide, (fun h => by cases h), by kernel_rfl, by kernel_rfl⟩
def ti15 : TI := { kind := .sc, desc := .pointer 200, size := 1, bytes := 8, zeros := [.pointer none] }
theorem ti15_ok : ti15.ok Tryz.prog 15 := ⟨Tryz.underlying15, trivial, by kernel_rfl, rfl, rfl, by decide, fun _ => rfl, by kernel_rfl, by kernel_rfl⟩
def ti16 : TI := { kind := .sc, desc := .pointer 203, size := 1, bytes := 8, zeros := [.pointer none] }
theorem ti16_ok : ti16.ok Tryz.prog 16 := ⟨Tryz.underlying16, trivial, by kernel_rfl, rfl, rfl, by decide, fun _ => rfl, by kernel_rfl, by kernel_rfl⟩
def ti17 : TI := { kind := .sc, desc := .pointer 211, size := 1, bytes := 8, zeros := [.pointer none] }
theorem ti17_ok : ti17.ok Tryz.prog 17 := ⟨Tryz.underlying17, trivial, by kernel_rfl, rfl, rfl, by decide, fun _ => rfl, by kernel_rfl, by kernel_rfl⟩
def ti18 : TI := { kind := .st [0], desc := .struct #[{ name := "typ", type := 17, offset := 0, embedded := false, tag := "", pkgPath := "internal/runtime/maps", byteOffset := 0 }], size := 1, bytes := 8, zeros := [.pointer none], fsz := [1] }
theorem ti18_ok : ti18.ok Tryz.prog 18 := ⟨Tryz.underlying18, rfl, by kernel_rfl, rfl, rfl, by decide, (fun h => by cases h), by kernel_rfl, by kernel_rfl⟩
def ti19 : TI := { kind := .st [0], desc := .struct #[{ name := "typ", type := 17, offset := 0, embedded := false, tag := "", pkgPath := "internal/runtime/maps", byteOffset := 0 }], size := 1, bytes := 8, zeros := [.pointer none], fsz := [1] }
theorem ti19_ok : ti19.ok Tryz.prog 19 := ⟨Tryz.underlying19, rfl, by kernel_rfl, rfl, rfl, by decide, (fun h => by cases h), by kernel_rfl, by kernel_rfl⟩
def ti21 : TI := { kind := .sc, desc := .int .i32, size := 1, bytes := 4, zeros := [.int .i32 0] }
theorem ti21_ok : ti21.ok Tryz.prog 21 := ⟨Tryz.underlying21, trivial, by kernel_rfl, rfl, rfl, by decide, fun _ => rfl, by kernel_rfl, by kernel_rfl⟩
def ti22 : TI := { kind := .sl 63, desc := .slice 63, size := 1, bytes := 24, zeros := [.slice none 0 0] }
theorem ti22_ok : ti22.ok Tryz.prog 22 := ⟨Tryz.underlying22, rfl, by kernel_rfl, rfl, rfl, by decide, fun _ => rfl, by kernel_rfl, by kernel_rfl⟩
def ti23 : TI := { kind := .st [0, 1], desc := .struct #[{ name := "Cells", type := 3, offset := 0, embedded := false, tag := "", pkgPath := "", byteOffset := 0 }, { name := "Instructions", type := 22, offset := 1, embedded := false, tag := "", pkgPath := "", byteOffset := 8 }], size := 2, bytes := 32, zeros := [.int .i64 0, .slice none 0 0], fsz := [1, 1] }
theorem ti23_ok : ti23.ok Tryz.prog 23 := ⟨Tryz.underlying23, rfl, by kernel_rfl, rfl, rfl, by decide, (fun h => by cases h), by kernel_rfl, by kernel_rfl⟩
def ti24 : TI := { kind := .st [0, 1], desc := .struct #[{ name := "Cells", type := 3, offset := 0, embedded := false, tag := "", pkgPath := "", byteOffset := 0 }, { name := "Instructions", type := 22, offset := 1, embedded := false, tag := "", pkgPath := "", byteOffset := 8 }], size := 2, bytes := 32, zeros := [.int .i64 0, .slice none 0 0], fsz := [1, 1] }
theorem ti24_ok : ti24.ok Tryz.prog 24 := ⟨Tryz.underlying24, rfl, by kernel_rfl, rfl, rfl, by decide, (fun h => by cases h), by kernel_rfl, by kernel_rfl⟩
def ti25 : TI := { kind := .st [0, 1], desc := .struct #[{ name := "Code", type := 3, offset := 0, embedded := false, tag := "", pkgPath := "", byteOffset := 0 }, { name := "Index", type := 3, offset := 1, embedded := false, tag := "", pkgPath := "", byteOffset := 8 }], size := 2, bytes := 16, zeros := [.int .i64 0, .int .i64 0], fsz := [1, 1] }
theorem ti25_ok : ti25.ok Tryz.prog 25 := ⟨Tryz.underlying25, rfl, by kernel_rfl, rfl, rfl, by decide, (fun h => by cases h), by kernel_rfl, by kernel_rfl⟩
def ti26 : TI := { kind := .st [0, 1], desc := .struct #[{ name := "Code", type := 3, offset := 0, embedded := false, tag := "", pkgPath := "", byteOffset := 0 }, { name := "Index", type := 3, offset := 1, embedded := false, tag := "", pkgPath := "", byteOffset := 8 }], size := 2, bytes := 16, zeros := [.int .i64 0, .int .i64 0], fsz := [1, 1] }
theorem ti26_ok : ti26.ok Tryz.prog 26 := ⟨Tryz.underlying26, rfl, by kernel_rfl, rfl, rfl, by decide, (fun h => by cases h), by kernel_rfl, by kernel_rfl⟩
def ti35 : TI := { kind := .sl 3, desc := .slice 3, size := 1, bytes := 24, zeros := [.slice none 0 0] }
theorem ti35_ok : ti35.ok Tryz.prog 35 := ⟨Tryz.underlying35, rfl, by kernel_rfl, rfl, rfl, by decide, fun _ => rfl, by kernel_rfl, by kernel_rfl⟩
def ti42 : TI := { kind := .sl 9, desc := .slice 9, size := 1, bytes := 24, zeros := [.slice none 0 0] }
theorem ti42_ok : ti42.ok Tryz.prog 42 := ⟨Tryz.underlying42, rfl, by kernel_rfl, rfl, rfl, by decide, fun _ => rfl, by kernel_rfl, by kernel_rfl⟩
def ti48 : TI := { kind := .sl 5, desc := .slice 5, size := 1, bytes := 24, zeros := [.slice none 0 0] }
theorem ti48_ok : ti48.ok Tryz.prog 48 := ⟨Tryz.underlying48, rfl, by kernel_rfl, rfl, rfl, by decide, fun _ => rfl, by kernel_rfl, by kernel_rfl⟩
def ti52 : TI := { kind := .st [0, 1], desc := .struct #[{ name := "Words", type := 42, offset := 0, embedded := false, tag := "", pkgPath := "", byteOffset := 0 }, { name := "Code", type := 3, offset := 1, embedded := false, tag := "", pkgPath := "", byteOffset := 24 }], size := 2, bytes := 32, zeros := [.slice none 0 0, .int .i64 0], fsz := [1, 1] }
theorem ti52_ok : ti52.ok Tryz.prog 52 := ⟨Tryz.underlying52, rfl, by kernel_rfl, rfl, rfl, by decide, (fun h => by cases h), by kernel_rfl, by kernel_rfl⟩
def ti53 : TI := { kind := .st [0, 1], desc := .struct #[{ name := "Words", type := 42, offset := 0, embedded := false, tag := "", pkgPath := "", byteOffset := 0 }, { name := "Code", type := 3, offset := 1, embedded := false, tag := "", pkgPath := "", byteOffset := 24 }], size := 2, bytes := 32, zeros := [.slice none 0 0, .int .i64 0], fsz := [1, 1] }
theorem ti53_ok : ti53.ok Tryz.prog 53 := ⟨Tryz.underlying53, rfl, by kernel_rfl, rfl, rfl, by decide, (fun h => by cases h), by kernel_rfl, by kernel_rfl⟩
def ti54 : TI := { kind := .sl 53, desc := .slice 53, size := 1, bytes := 24, zeros := [.slice none 0 0] }
theorem ti54_ok : ti54.ok Tryz.prog 54 := ⟨Tryz.underlying54, rfl, by kernel_rfl, rfl, rfl, by decide, fun _ => rfl, by kernel_rfl, by kernel_rfl⟩
def ti57 : TI := { kind := .sl 42, desc := .slice 42, size := 1, bytes := 24, zeros := [.slice none 0 0] }
theorem ti57_ok : ti57.ok Tryz.prog 57 := ⟨Tryz.underlying57, rfl, by kernel_rfl, rfl, rfl, by decide, fun _ => rfl, by kernel_rfl, by kernel_rfl⟩
def ti60 : TI := { kind := .sc, desc := .int .u32, size := 1, bytes := 4, zeros := [.int .u32 0] }
theorem ti60_ok : ti60.ok Tryz.prog 60 := ⟨Tryz.underlying60, trivial, by kernel_rfl, rfl, rfl, by decide, fun _ => rfl, by kernel_rfl, by kernel_rfl⟩
def ti61 : TI := { kind := .sl 68, desc := .slice 68, size := 1, bytes := 24, zeros := [.slice none 0 0] }
theorem ti61_ok : ti61.ok Tryz.prog 61 := ⟨Tryz.underlying61, rfl, by kernel_rfl, rfl, rfl, by decide, fun _ => rfl, by kernel_rfl, by kernel_rfl⟩
def ti62 : TI := { kind := .st [0, 1, 2, 3], desc := .struct #[{ name := "Name", type := 9, offset := 0, embedded := false, tag := "", pkgPath := "", byteOffset := 0 }, { name := "Code", type := 60, offset := 1, embedded := false, tag := "", pkgPath := "", byteOffset := 16 }, { name := "Operand", type := 4, offset := 2, embedded := false, tag := "", pkgPath := "", byteOffset := 20 }, { name := "Actions", type := 61, offset := 3, embedded := false, tag := "", pkgPath := "", byteOffset := 24 }], size := 4, bytes := 48, zeros := [St [], .int .u32 0, .bool false, .slice none 0 0], fsz := [1, 1, 1, 1] }
theorem ti62_ok : ti62.ok Tryz.prog 62 := ⟨Tryz.underlying62, rfl, by kernel_rfl, rfl, rfl, by decide, (fun h => by cases h), by kernel_rfl, by kernel_rfl⟩
def ti63 : TI := { kind := .st [0, 1, 2, 3], desc := .struct #[{ name := "Name", type := 9, offset := 0, embedded := false, tag := "", pkgPath := "", byteOffset := 0 }, { name := "Code", type := 60, offset := 1, embedded := false, tag := "", pkgPath := "", byteOffset := 16 }, { name := "Operand", type := 4, offset := 2, embedded := false, tag := "", pkgPath := "", byteOffset := 20 }, { name := "Actions", type := 61, offset := 3, embedded := false, tag := "", pkgPath := "", byteOffset := 24 }], size := 4, bytes := 48, zeros := [St [], .int .u32 0, .bool false, .slice none 0 0], fsz := [1, 1, 1, 1] }
theorem ti63_ok : ti63.ok Tryz.prog 63 := ⟨Tryz.underlying63, rfl, by kernel_rfl, rfl, rfl, by decide, (fun h => by cases h), by kernel_rfl, by kernel_rfl⟩
def ti65 : TI := { kind := .st [0, 1], desc := .struct #[{ name := "Kind", type := 3, offset := 0, embedded := false, tag := "", pkgPath := "", byteOffset := 0 }, { name := "Value", type := 60, offset := 1, embedded := false, tag := "", pkgPath := "", byteOffset := 8 }], size := 2, bytes := 16, zeros := [.int .i64 0, .int .u32 0], fsz := [1, 1] }
theorem ti65_ok : ti65.ok Tryz.prog 65 := ⟨Tryz.underlying65, rfl, by kernel_rfl, rfl, rfl, by decide, (fun h => by cases h), by kernel_rfl, by kernel_rfl⟩
def ti66 : TI := { kind := .st [0, 1], desc := .struct #[{ name := "Kind", type := 3, offset := 0, embedded := false, tag := "", pkgPath := "", byteOffset := 0 }, { name := "Value", type := 60, offset := 1, embedded := false, tag := "", pkgPath := "", byteOffset := 8 }], size := 2, bytes := 16, zeros := [.int .i64 0, .int .u32 0], fsz := [1, 1] }
theorem ti66_ok : ti66.ok Tryz.prog 66 := ⟨Tryz.underlying66, rfl, by kernel_rfl, rfl, rfl, by decide, (fun h => by cases h), by kernel_rfl, by kernel_rfl⟩
def ti67 : TI := { kind := .st [0, 1, 2, 4], desc := .struct #[{ name := "Kind", type := 3, offset := 0, embedded := false, tag := "", pkgPath := "", byteOffset := 0 }, { name := "To", type := 3, offset := 1, embedded := false, tag := "", pkgPath := "", byteOffset := 8 }, { name := "X", type := 66, offset := 2, embedded := false, tag := "", pkgPath := "", byteOffset := 16 }, { name := "Y", type := 66, offset := 4, embedded := false, tag := "", pkgPath := "", byteOffset := 32 }], size := 6, bytes := 48, zeros := [.int .i64 0, .int .i64 0, .int .i64 0, .int .u32 0, .int .i64 0, .int .u32 0], fsz := [1, 1, 2, 2] }
theorem ti67_ok : ti67.ok Tryz.prog 67 := ⟨Tryz.underlying67, rfl, by kernel_rfl, rfl, rfl, by decide, (fun h => by cases h), by kernel_rfl, by kernel_rfl⟩
def ti68 : TI := { kind := .st [0, 1, 2, 4], desc := .struct #[{ name := "Kind", type := 3, offset := 0, embedded := false, tag := "", pkgPath := "", byteOffset := 0 }, { name := "To", type := 3, offset := 1, embedded := false, tag := "", pkgPath := "", byteOffset := 8 }, { name := "X", type := 66, offset := 2, embedded := false, tag := "", pkgPath := "", byteOffset := 16 }, { name := "Y", type := 66, offset := 4, embedded := false, tag := "", pkgPath := "", byteOffset := 32 }], size := 6, bytes := 48, zeros := [.int .i64 0, .int .i64 0, .int .i64 0, .int .u32 0, .int .i64 0, .int .u32 0], fsz := [1, 1, 2, 2] }
theorem ti68_ok : ti68.ok Tryz.prog 68 := ⟨Tryz.underlying68, rfl, by kernel_rfl, rfl, rfl, by decide, (fun h => by cases h), by kernel_rfl, by kernel_rfl⟩
def ti88 : TI := { kind := .sc, desc := .pointer 90, size := 1, bytes := 8, zeros := [.pointer none] }
theorem ti88_ok : ti88.ok Tryz.prog 88 := ⟨Tryz.underlying88, trivial, by kernel_rfl, rfl, rfl, by decide, fun _ => rfl, by kernel_rfl, by kernel_rfl⟩
def ti89 : TI := { kind := .st [0, 1], desc := .struct #[{ name := "addr", type := 88, offset := 0, embedded := false, tag := "", pkgPath := "strings", byteOffset := 0 }, { name := "buf", type := 48, offset := 1, embedded := false, tag := "", pkgPath := "strings", byteOffset := 8 }], size := 2, bytes := 32, zeros := [.pointer none, .slice none 0 0], fsz := [1, 1] }
theorem ti89_ok : ti89.ok Tryz.prog 89 := ⟨Tryz.underlying89, rfl, by kernel_rfl, rfl, rfl, by decide, (fun h => by cases h), by kernel_rfl, by kernel_rfl⟩
def ti90 : TI := { kind := .st [0, 1], desc := .struct #[{ name := "addr", type := 88, offset := 0, embedded := false, tag := "", pkgPath := "strings", byteOffset := 0 }, { name := "buf", type := 48, offset := 1, embedded := false, tag := "", pkgPath := "strings", byteOffset := 8 }], size := 2, bytes := 32, zeros := [.pointer none, .slice none 0 0], fsz := [1, 1] }
theorem ti90_ok : ti90.ok Tryz.prog 90 := ⟨Tryz.underlying90, rfl, by kernel_rfl, rfl, rfl, by decide, (fun h => by cases h), by kernel_rfl, by kernel_rfl⟩
def ti115 : TI := { kind := .ar 256 5, desc := .array 256 5, size := 256, bytes := 256, zeros := [.int .u8 0, .int .u8 0, .int .u8 0, .int .u8 0, .int .u8 0, .int .u8 0, .int .u8 0, .int .u8 0, .int .u8 0, .int .u8 0, .int .u8 0, .int .u8 0, .int .u8 0, .int .u8 0, .int .u8 0, .int .u8 0, .int .u8 0, .int .u8 0, .int .u8 0, .int .u8 0, .int .u8 0, .int .u8 0, .int .u8 0, .int .u8 0, .int .u8 0, .int .u8 0, .int .u8 0, .int .u8 0, .int .u8 0, .int .u8 0, .int .u8 0, .int .u8 0, .int .u8 0, .int .u8 0, .int .u8 0, .int .u8 0, .int .u8 0, .int .u8 0, .int .u8 0, .int .u8 0, .int .u8 0, .int .u8 0, .int .u8 0, .int .u8 0, .int .u8 0, .int .u8 0, .int .u8 0, .int .u8 0, .int .u8 0, .int .u8 0, .int .u8 0, .int .u8 0, .int .u8 0, .int .u8 0, .int .u8 0, .int .u8 0, .int .u8 0, .int .u8 0, .int .u8 0, .int .u8 0, .int .u8 0, .int .u8 0, .int .u8 0, .int .u8 0, .int .u8 0, .int .u8 0, .int .u8 0, .int .u8 0, .int .u8 0, .int .u8 0, .int .u8 0, .int .u8 0, .int .u8 0, .int .u8 0, .int .u8 0, .int .u8 0, .int .u8 0, .int .u8 0, .int .u8 0, .int .u8 0, .int .u8 0, .int .u8 0, .int .u8 0, .int .u8 0, .int .u8 0, .int .u8 0, .int .u8 0, .int .u8 0, .int .u8 0, .int .u8 0, .int .u8 0, .int .u8 0, .int .u8 0, .int .u8 0, .int .u8 0, .int .u8 0, .int .u8 0, .int .u8 0, .int .u8 0, .int .u8 0, .int .u8 0, .int .u8 0, .int .u8 0, .int .u8 0, .int .u8 0, .int .u8 0, .int .u8 0, .int .u8 0, .int .u8 0, .int .u8 0, .int .u8 0, .int .u8 0, .int .u8 0, .int .u8 0, .int .u8 0, .int .u8 0, .int .u8 0, .int .u8 0, .int .u8 0, .int .u8 0, .int .u8 0, .int .u8 0, .int .u8 0, .int .u8 0, .int .u8 0, .int .u8 0, .int .u8 0, .int .u8 0, .int .u8 0, .int .u8 0, .int .u8 0, .int .u8 0, .int .u8 0, .int .u8 0, .int .u8 0, .int .u8 0, .int .u8 0, .int .u8 0, .int .u8 0, .int .u8 0, .int .u8 0, .int .u8 0, .int .u8 0, .int .u8 0, .int .u8 0, .int .u8 0, .int .u8 0, .int .u8 0, .int .u8 0, .int .u8 0, .int .u8 0, .int .u8 0, .int .u8 0, .int .u8 0, .int .u8 0, .int .u8 0, .int .u8 0, .int .u8 0, .int .u8 0, .int .u8 0, .int .u8 0, .int .u8 0, .int .u8 0, .int .u8 0, .int .u8 0, .int .u8 0, .int .u8 0, .int .u8 0, .int .u8 0, .int .u8 0, .int .u8 0, .int .u8 0, .int .u8 0, .int .u8 0, .int .u8 0, .int .u8 0, .int .u8 0, .int .u8 0, .int .u8 0, .int .u8 0, .int .u8 0, .int .u8 0, .int .u8 0, .int .u8 0, .int .u8 0, .int .u8 0, .int .u8 0, .int .u8 0, .int .u8 0, .int .u8 0, .int .u8 0, .int .u8 0, .int .u8 0, .int .u8 0, .int .u8 0, .int .u8 0, .int .u8 0, .int .u8 0, .int .u8 0, .int .u8 0, .int .u8 0, .int .u8 0, .int .u8 0, .int .u8 0, .int .u8 0, .int .u8 0, .int .u8 0, .int .u8 0, .int .u8 0, .int .u8 0, .int .u8 0, .int .u8 0, .int .u8 0, .int .u8 0, .int .u8 0, .int .u8 0, .int .u8 0, .int .u8 0, .int .u8 0, .int .u8 0, .int .u8 0, .int .u8 0, .int .u8 0, .int .u8 0, .int .u8 0, .int .u8 0, .int .u8 0, .int .u8 0, .int .u8 0, .int .u8 0, .int .u8 0, .int .u8 0, .int .u8 0, .int .u8 0, .int .u8 0, .int .u8 0, .int .u8 0, .int .u8 0, .int .u8 0, .int .u8 0, .int .u8 0, .int .u8 0, .int .u8 0, .int .u8 0, .int .u8 0, .int .u8 0, .int .u8 0, .int .u8 0, .int .u8 0, .int .u8 0, .int .u8 0, .int .u8 0, .int .u8 0, .int .u8 0, .int .u8 0, .int .u8 0] }
set_option maxRecDepth 100000 in
theorem ti115_ok : ti115.ok Tryz.prog 115 := ⟨Tryz.underlying115, rfl, by kernel_rfl, by kernel_rfl, by kernel_rfl, by decide, (fun h => by cases h), by kernel_rfl, by kernel_rfl⟩
def ti119 : TI := { kind := .sc, desc := .pointer 5, size := 1, bytes := 8, zeros := [.pointer none] }
theorem ti119_ok : ti119.ok Tryz.prog 119 := ⟨Tryz.underlying119, trivial, by kernel_rfl, rfl, rfl, by decide, fun _ => rfl, by kernel_rfl, by kernel_rfl⟩
def ti120 : TI := { kind := .sl 122, desc := .slice 122, size := 1, bytes := 24, zeros := [.slice none 0 0] }
theorem ti120_ok : ti120.ok Tryz.prog 120 := ⟨Tryz.underlying120, rfl, by kernel_rfl, rfl, rfl, by decide, fun _ => rfl, by kernel_rfl, by kernel_rfl⟩
def ti121 : TI := { kind := .st [0, 1], desc := .struct #[{ name := "start", type := 3, offset := 0, embedded := false, tag := "", pkgPath := "strings", byteOffset := 0 }, { name := "end", type := 3, offset := 1, embedded := false, tag := "", pkgPath := "strings", byteOffset := 8 }], size := 2, bytes := 16, zeros := [.int .i64 0, .int .i64 0], fsz := [1, 1] }
theorem ti121_ok : ti121.ok Tryz.prog 121 := ⟨Tryz.underlying121, rfl, by kernel_rfl, rfl, rfl, by decide, (fun h => by cases h), by kernel_rfl, by kernel_rfl⟩
def ti122 : TI := { kind := .st [0, 1], desc := .struct #[{ name := "start", type := 3, offset := 0, embedded := false, tag := "", pkgPath := "strings", byteOffset := 0 }, { name := "end", type := 3, offset := 1, embedded := false, tag := "", pkgPath := "strings", byteOffset := 8 }], size := 2, bytes := 16, zeros := [.int .i64 0, .int .i64 0], fsz := [1, 1] }
theorem ti122_ok : ti122.ok Tryz.prog 122 := ⟨Tryz.underlying122, rfl, by kernel_rfl, rfl, rfl, by decide, (fun h => by cases h), by kernel_rfl, by kernel_rfl⟩
def ti123 : TI := { kind := .sc, desc := .int .u64, size := 1, bytes := 8, zeros := [.int .u64 0] }
theorem ti123_ok : ti123.ok Tryz.prog 123 := ⟨Tryz.underlying123, trivial, by kernel_rfl, rfl, rfl, by decide, fun _ => rfl, by kernel_rfl, by kernel_rfl⟩
def ti129 : TI := { kind := .sl 66, desc := .slice 66, size := 1, bytes := 24, zeros := [.slice none 0 0] }
theorem ti129_ok : ti129.ok Tryz.prog 129 := ⟨Tryz.underlying129, rfl, by kernel_rfl, rfl, rfl, by decide, fun _ => rfl, by kernel_rfl, by kernel_rfl⟩
def ti134 : TI := { kind := .sc, desc := .pointer 146, size := 1, bytes := 8, zeros := [.pointer none] }
theorem ti134_ok : ti134.ok Tryz.prog 134 := ⟨Tryz.underlying134, trivial, by kernel_rfl, rfl, rfl, by decide, fun _ => rfl, by kernel_rfl, by kernel_rfl⟩
def ti136 : TI := { kind := .ar 20 9, desc := .array 20 9, size := 20, bytes := 320, zeros := [St [], St [], St [], St [], St [], St [], St [], St [], St [], St [], St [], St [], St [], St [], St [], St [], St [], St [], St [], St []] }
theorem ti136_ok : ti136.ok Tryz.prog 136 := ⟨Tryz.underlying136, rfl, by kernel_rfl, rfl, rfl, by decide, (fun h => by cases h), by kernel_rfl, by kernel_rfl⟩
def ti143 : TI := { kind := .sl 149, desc := .slice 149, size := 1, bytes := 24, zeros := [.slice none 0 0] }
theorem ti143_ok : ti143.ok Tryz.prog 143 := ⟨Tryz.underlying143, rfl, by kernel_rfl, rfl, rfl, by decide, fun _ => rfl, by kernel_rfl, by kernel_rfl⟩
def ti144 : TI := { kind := .sl 152, desc := .slice 152, size := 1, bytes := 24, zeros := [.slice none 0 0] }
theorem ti144_ok : ti144.ok Tryz.prog 144 := ⟨Tryz.underlying144, rfl, by kernel_rfl, rfl, rfl, by decide, fun _ => rfl, by kernel_rfl, by kernel_rfl⟩
def ti145 : TI := { kind := .st [0, 1, 2], desc := .struct #[{ name := "R16", type := 143, offset := 0, embedded := false, tag := "", pkgPath := "", byteOffset := 0 }, { name := "R32", type := 144, offset := 1, embedded := false, tag := "", pkgPath := "", byteOffset := 24 }, { name := "LatinOffset", type := 3, offset := 2, embedded := false, tag := "", pkgPath := "", byteOffset := 48 }], size := 3, bytes := 56, zeros := [.slice none 0 0, .slice none 0 0, .int .i64 0], fsz := [1, 1, 1] }
theorem ti145_ok : ti145.ok Tryz.prog 145 := ⟨Tryz.underlying145, rfl, by kernel_rfl, rfl, rfl, by decide, (fun h => by cases h), by kernel_rfl, by kernel_rfl⟩
def ti146 : TI := { kind := .st [0, 1, 2], desc := .struct #[{ name := "R16", type := 143, offset := 0, embedded := false, tag := "", pkgPath := "", byteOffset := 0 }, { name := "R32", type := 144, offset := 1, embedded := false, tag := "", pkgPath := "", byteOffset := 24 }, { name := "LatinOffset", type := 3, offset := 2, embedded := false, tag := "", pkgPath := "", byteOffset := 48 }], size := 3, bytes := 56, zeros := [.slice none 0 0, .slice none 0 0, .int .i64 0], fsz := [1, 1, 1] }
theorem ti146_ok : ti146.ok Tryz.prog 146 := ⟨Tryz.underlying146, rfl, by kernel_rfl, rfl, rfl, by decide, (fun h => by cases h), by kernel_rfl, by kernel_rfl⟩
def ti147 : TI := { kind := .sc, desc := .int .u16, size := 1, bytes := 2, zeros := [.int .u16 0] }
theorem ti147_ok : ti147.ok Tryz.prog 147 := ⟨Tryz.underlying147, trivial, by kernel_rfl, rfl, rfl, by decide, fun _ => rfl, by kernel_rfl, by kernel_rfl⟩
def ti148 : TI := { kind := .st [0, 1, 2], desc := .struct #[{ name := "Lo", type := 147, offset := 0, embedded := false, tag := "", pkgPath := "", byteOffset := 0 }, { name := "Hi", type := 147, offset := 1, embedded := false, tag := "", pkgPath := "", byteOffset := 2 }, { name := "Stride", type := 147, offset := 2, embedded := false, tag := "", pkgPath := "", byteOffset := 4 }], size := 3, bytes := 6, zeros := [.int .u16 0, .int .u16 0, .int .u16 0], fsz := [1, 1, 1] }
theorem ti148_ok : ti148.ok Tryz.prog 148 := ⟨Tryz.underlying148, rfl, by kernel_rfl, rfl, rfl, by decide, (fun h => by cases h), by kernel_rfl, by kernel_rfl⟩
def ti149 : TI := { kind := .st [0, 1, 2], desc := .struct #[{ name := "Lo", type := 147, offset := 0, embedded := false, tag := "", pkgPath := "", byteOffset := 0 }, { name := "Hi", type := 147, offset := 1, embedded := false, tag := "", pkgPath := "", byteOffset := 2 }, { name := "Stride", type := 147, offset := 2, embedded := false, tag := "", pkgPath := "", byteOffset := 4 }], size := 3, bytes := 6, zeros := [.int .u16 0, .int .u16 0, .int .u16 0], fsz := [1, 1, 1] }
theorem ti149_ok : ti149.ok Tryz.prog 149 := ⟨Tryz.underlying149, rfl, by kernel_rfl, rfl, rfl, by decide, (fun h => by cases h), by kernel_rfl, by kernel_rfl⟩
def ti151 : TI := { kind := .st [0, 1, 2], desc := .struct #[{ name := "Lo", type := 60, offset := 0, embedded := false, tag := "", pkgPath := "", byteOffset := 0 }, { name := "Hi", type := 60, offset := 1, embedded := false, tag := "", pkgPath := "", byteOffset := 4 }, { name := "Stride", type := 60, offset := 2, embedded := false, tag := "", pkgPath := "", byteOffset := 8 }], size := 3, bytes := 12, zeros := [.int .u32 0, .int .u32 0, .int .u32 0], fsz := [1, 1, 1] }
theorem ti151_ok : ti151.ok Tryz.prog 151 := ⟨Tryz.underlying151, rfl, by kernel_rfl, rfl, rfl, by decide, (fun h => by cases h), by kernel_rfl, by kernel_rfl⟩
def ti152 : TI := { kind := .st [0, 1, 2], desc := .struct #[{ name := "Lo", type := 60, offset := 0, embedded := false, tag := "", pkgPath := "", byteOffset := 0 }, { name := "Hi", type := 60, offset := 1, embedded := false, tag := "", pkgPath := "", byteOffset := 4 }, { name := "Stride", type := 60, offset := 2, embedded := false, tag := "", pkgPath := "", byteOffset := 8 }], size := 3, bytes := 12, zeros := [.int .u32 0, .int .u32 0, .int .u32 0], fsz := [1, 1, 1] }
theorem ti152_ok : ti152.ok Tryz.prog 152 := ⟨Tryz.underlying152, rfl, by kernel_rfl, rfl, rfl, by decide, (fun h => by cases h), by kernel_rfl, by kernel_rfl⟩
def ti154 : TI := { kind := .ar 24 5, desc := .array 24 5, size := 24, bytes := 24, zeros := [.int .u8 0, .int .u8 0, .int .u8 0, .int .u8 0, .int .u8 0, .int .u8 0, .int .u8 0, .int .u8 0, .int .u8 0, .int .u8 0, .int .u8 0, .int .u8 0, .int .u8 0, .int .u8 0, .int .u8 0, .int .u8 0, .int .u8 0, .int .u8 0, .int .u8 0, .int .u8 0, .int .u8 0, .int .u8 0, .int .u8 0, .int .u8 0] }
theorem ti154_ok : ti154.ok Tryz.prog 154 := ⟨Tryz.underlying154, rfl, by kernel_rfl, rfl, rfl, by decide, (fun h => by cases h), by kernel_rfl, by kernel_rfl⟩
def ti160 : TI := { kind := .ar 256 4, desc := .array 256 4, size := 256, bytes := 256, zeros := [.bool false, .bool false, .bool false, .bool false, .bool false, .bool false, .bool false, .bool false, .bool false, .bool false, .bool false, .bool false, .bool false, .bool false, .bool false, .bool false, .bool false, .bool false, .bool false, .bool false, .bool false, .bool false, .bool false, .bool false, .bool false, .bool false, .bool false, .bool false, .bool false, .bool false, .bool false, .bool false, .bool false, .bool false, .bool false, .bool false, .bool false, .bool false, .bool false, .bool false, .bool false, .bool false, .bool false, .bool false, .bool false, .bool false, .bool false, .bool false, .bool false, .bool false, .bool false, .bool false, .bool false, .bool false, .bool false, .bool false, .bool false, .bool false, .bool false, .bool false, .bool false, .bool false, .bool false, .bool false, .bool false, .bool false, .bool false, .bool false, .bool false, .bool false, .bool false, .bool false, .bool false, .bool false, .bool false, .bool false, .bool false, .bool false, .bool false, .bool false, .bool false, .bool false, .bool false, .bool false, .bool false, .bool false, .bool false, .bool false, .bool false, .bool false, .bool false, .bool false, .bool false, .bool false, .bool false, .bool false, .bool false, .bool false, .bool false, .bool false, .bool false, .bool false, .bool false, .bool false, .bool false, .bool false, .bool false, .bool false, .bool false, .bool false, .bool false, .bool false, .bool false, .bool false, .bool false, .bool false, .bool false, .bool false, .bool false, .bool false, .bool false, .bool false, .bool false, .bool false, .bool false, .bool false, .bool false, .bool false, .bool false, .bool false, .bool false, .bool false, .bool false, .bool false, .bool false, .bool false, .bool false, .bool false, .bool false, .bool false, .bool false, .bool false, .bool false, .bool false, .bool false, .bool false, .bool false, .bool false, .bool false, .bool false, .bool false, .bool false, .bool false, .bool false, .bool false, .bool false, .bool false, .bool false, .bool false, .bool false, .bool false, .bool false, .bool false, .bool false, .bool false, .bool false, .bool false, .bool false, .bool false, .bool false, .bool false, .bool false, .bool false, .bool false, .bool false, .bool false, .bool false, .bool false, .bool false, .bool false, .bool false, .bool false, .bool false, .bool false, .bool false, .bool false, .bool false, .bool false, .bool false, .bool false, .bool false, .bool false, .bool false, .bool false, .bool false, .bool false, .bool false, .bool false, .bool false, .bool false, .bool false, .bool false, .bool false, .bool false, .bool false, .bool false, .bool false, .bool false, .bool false, .bool false, .bool false, .bool false, .bool false, .bool false, .bool false, .bool false, .bool false, .bool false, .bool false, .bool false, .bool false, .bool false, .bool false, .bool false, .bool false, .bool false, .bool false, .bool false, .bool false, .bool false, .bool false, .bool false, .bool false, .bool false, .bool false, .bool false, .bool false, .bool false, .bool false, .bool false, .bool false, .bool false, .bool false, .bool false, .bool false, .bool false, .bool false, .bool false, .bool false, .bool false, .bool false, .bool false, .bool false, .bool false, .bool false, .bool false] }
set_option maxRecDepth 100000 in
theorem ti160_ok : ti160.ok Tryz.prog 160 := ⟨Tryz.underlying160, rfl, by kernel_rfl, by kernel_rfl, by kernel_rfl, by decide, (fun h => by cases h), by kernel_rfl, by kernel_rfl⟩
def ti161 : TI := { kind := .ar 256 4, desc := .array 256 4, size := 256, bytes := 256, zeros := [.bool false, .bool false, .bool false, .bool false, .bool false, .bool false, .bool false, .bool false, .bool false, .bool false, .bool false, .bool false, .bool false, .bool false, .bool false, .bool false, .bool false, .bool false, .bool false, .bool false, .bool false, .bool false, .bool false, .bool false, .bool false, .bool false, .bool false, .bool false, .bool false, .bool false, .bool false, .bool false, .bool false, .bool false, .bool false, .bool false, .bool false, .bool false, .bool false, .bool false, .bool false, .bool false, .bool false, .bool false, .bool false, .bool false, .bool false, .bool false, .bool false, .bool false, .bool false, .bool false, .bool false, .bool false, .bool false, .bool false, .bool false, .bool false, .bool false, .bool false, .bool false, .bool false, .bool false, .bool false, .bool false, .bool false, .bool false, .bool false, .bool false, .bool false, .bool false, .bool false, .bool false, .bool false, .bool false, .bool false, .bool false, .bool false, .bool false, .bool false, .bool false, .bool false, .bool false, .bool false, .bool false, .bool false, .bool false, .bool false, .bool false, .bool false, .bool false, .bool false, .bool false, .bool false, .bool false, .bool false, .bool false, .bool false, .bool false, .bool false, .bool false, .bool false, .bool false, .bool false, .bool false, .bool false, .bool false, .bool false, .bool false, .bool false, .bool false, .bool false, .bool false, .bool false, .bool false, .bool false, .bool false, .bool false, .bool false, .bool false, .bool false, .bool false, .bool false, .bool false, .bool false, .bool false, .bool false, .bool false, .bool false, .bool false, .bool false, .bool false, .bool false, .bool false, .bool false, .bool false, .bool false, .bool false, .bool false, .bool false, .bool false, .bool false, .bool false, .bool false, .bool false, .bool false, .bool false, .bool false, .bool false, .bool false, .bool false, .bool false, .bool false, .bool false, .bool false, .bool false, .bool false, .bool false, .bool false, .bool false, .bool false, .bool false, .bool false, .bool false, .bool false, .bool false, .bool false, .bool false, .bool false, .bool false, .bool false, .bool false, .bool false, .bool false, .bool false, .bool false, .bool false, .bool false, .bool false, .bool false, .bool false, .bool false, .bool false, .bool false, .bool false, .bool false, .bool false, .bool false, .bool false, .bool false, .bool false, .bool false, .bool false, .bool false, .bool false, .bool false, .bool false, .bool false, .bool false, .bool false, .bool false, .bool false, .bool false, .bool false, .bool false, .bool false, .bool false, .bool false, .bool false, .bool false, .bool false, .bool false, .bool false, .bool false, .bool false, .bool false, .bool false, .bool false, .bool false, .bool false, .bool false, .bool false, .bool false, .bool false, .bool false, .bool false, .bool false, .bool false, .bool false, .bool false, .bool false, .bool false, .bool false, .bool false, .bool false, .bool false, .bool false, .bool false, .bool false, .bool false, .bool false, .bool false, .bool false, .bool false, .bool false, .bool false, .bool false, .bool false, .bool false, .bool false, .bool false, .bool false, .bool false, .bool false, .bool false, .bool false] }
set_option maxRecDepth 100000 in
theorem ti161_ok : ti161.ok Tryz.prog 161 := ⟨Tryz.underlying161, rfl, by kernel_rfl, by kernel_rfl, by kernel_rfl, by decide, (fun h => by cases h), by kernel_rfl, by kernel_rfl⟩
def ti165 : TI := { kind := .sc, desc := .pointer 161, size := 1, bytes := 8, zeros := [.pointer none] }
theorem ti165_ok : ti165.ok Tryz.prog 165 := ⟨Tryz.underlying165, trivial, by kernel_rfl, rfl, rfl, by decide, fun _ => rfl, by kernel_rfl, by kernel_rfl⟩
def ti166 : TI := { kind := .sc, desc := .int .i64, size := 1, bytes := 8, zeros := [.int .i64 0] }
theorem ti166_ok : ti166.ok Tryz.prog 166 := ⟨Tryz.underlying166, trivial, by kernel_rfl, rfl, rfl, by decide, fun _ => rfl, by kernel_rfl, by kernel_rfl⟩
def ti168 : TI := { kind := .sc, desc := .int .u64, size := 1, bytes := 8, zeros := [.int .u64 0] }
theorem ti168_ok : ti168.ok Tryz.prog 168 := ⟨Tryz.underlying168, trivial, by kernel_rfl, rfl, rfl, by decide, fun _ => rfl, by kernel_rfl, by kernel_rfl⟩
def ti169 : TI := { kind := .sc, desc := .pointer 185, size := 1, bytes := 8, zeros := [.pointer none] }
theorem ti169_ok : ti169.ok Tryz.prog 169 := ⟨Tryz.underlying169, trivial, by kernel_rfl, rfl, rfl, by decide, fun _ => rfl, by kernel_rfl, by kernel_rfl⟩
def ti172 : TI := { kind := .sc, desc := .pointer 149, size := 1, bytes := 8, zeros := [.pointer none] }
theorem ti172_ok : ti172.ok Tryz.prog 172 := ⟨Tryz.underlying172, trivial, by kernel_rfl, rfl, rfl, by decide, fun _ => rfl, by kernel_rfl, by kernel_rfl⟩
def ti173 : TI := { kind := .sc, desc := .pointer 152, size := 1, bytes := 8, zeros := [.pointer none] }
theorem ti173_ok : ti173.ok Tryz.prog 173 := ⟨Tryz.underlying173, trivial, by kernel_rfl, rfl, rfl, by decide, fun _ => rfl, by kernel_rfl, by kernel_rfl⟩
def ti176 : TI := { kind := .ar 20 123, desc := .array 20 123, size := 20, bytes := 160, zeros := [.int .u64 0, .int .u64 0, .int .u64 0, .int .u64 0, .int .u64 0, .int .u64 0, .int .u64 0, .int .u64 0, .int .u64 0, .int .u64 0, .int .u64 0, .int .u64 0, .int .u64 0, .int .u64 0, .int .u64 0, .int .u64 0, .int .u64 0, .int .u64 0, .int .u64 0, .int .u64 0] }
theorem ti176_ok : ti176.ok Tryz.prog 176 := ⟨Tryz.underlying176, rfl, by kernel_rfl, rfl, rfl, by decide, (fun h => by cases h), by kernel_rfl, by kernel_rfl⟩
def ti177 : TI := { kind := .ar 65 5, desc := .array 65 5, size := 65, bytes := 65, zeros := [.int .u8 0, .int .u8 0, .int .u8 0, .int .u8 0, .int .u8 0, .int .u8 0, .int .u8 0, .int .u8 0, .int .u8 0, .int .u8 0, .int .u8 0, .int .u8 0, .int .u8 0, .int .u8 0, .int .u8 0, .int .u8 0, .int .u8 0, .int .u8 0, .int .u8 0, .int .u8 0, .int .u8 0, .int .u8 0, .int .u8 0, .int .u8 0, .int .u8 0, .int .u8 0, .int .u8 0, .int .u8 0, .int .u8 0, .int .u8 0, .int .u8 0, .int .u8 0, .int .u8 0, .int .u8 0, .int .u8 0, .int .u8 0, .int .u8 0, .int .u8 0, .int .u8 0, .int .u8 0, .int .u8 0, .int .u8 0, .int .u8 0, .int .u8 0, .int .u8 0, .int .u8 0, .int .u8 0, .int .u8 0, .int .u8 0, .int .u8 0, .int .u8 0, .int .u8 0, .int .u8 0, .int .u8 0, .int .u8 0, .int .u8 0, .int .u8 0, .int .u8 0, .int .u8 0, .int .u8 0, .int .u8 0, .int .u8 0, .int .u8 0, .int .u8 0, .int .u8 0] }
set_option maxRecDepth 100000 in
theorem ti177_ok : ti177.ok Tryz.prog 177 := ⟨Tryz.underlying177, rfl, by kernel_rfl, by kernel_rfl, by kernel_rfl, by decide, (fun h => by cases h), by kernel_rfl, by kernel_rfl⟩
def ti184 : TI := { kind := .st [0, 1, 2], desc := .struct #[{ name := "Func", type := 9, offset := 0, embedded := false, tag := "", pkgPath := "", byteOffset := 0 }, { name := "Num", type := 9, offset := 1, embedded := false, tag := "", pkgPath := "", byteOffset := 16 }, { name := "Err", type := 93, offset := 2, embedded := false, tag := "", pkgPath := "", byteOffset := 32 }], size := 3, bytes := 48, zeros := [St [], St [], .nilIface], fsz := [1, 1, 1] }
theorem ti184_ok : ti184.ok Tryz.prog 184 := ⟨Tryz.underlying184, rfl, by kernel_rfl, rfl, rfl, by decide, (fun h => by cases h), by kernel_rfl, by kernel_rfl⟩
def ti185 : TI := { kind := .st [0, 1, 2], desc := .struct #[{ name := "Func", type := 9, offset := 0, embedded := false, tag := "", pkgPath := "", byteOffset := 0 }, { name := "Num", type := 9, offset := 1, embedded := false, tag := "", pkgPath := "", byteOffset := 16 }, { name := "Err", type := 93, offset := 2, embedded := false, tag := "", pkgPath := "", byteOffset := 32 }], size := 3, bytes := 48, zeros := [St [], St [], .nilIface], fsz := [1, 1, 1] }
theorem ti185_ok : ti185.ok Tryz.prog 185 := ⟨Tryz.underlying185, rfl, by kernel_rfl, rfl, rfl, by decide, (fun h => by cases h), by kernel_rfl, by kernel_rfl⟩
def ti189 : TI := { kind := .sc, desc := .pointer 191, size := 1, bytes := 8, zeros := [.pointer none] }
theorem ti189_ok : ti189.ok Tryz.prog 189 := ⟨Tryz.underlying189, trivial, by kernel_rfl, rfl, rfl, by decide, fun _ => rfl, by kernel_rfl, by kernel_rfl⟩
def ti190 : TI := { kind := .st [0], desc := .struct #[{ name := "s", type := 9, offset := 0, embedded := false, tag := "", pkgPath := "errors", byteOffset := 0 }], size := 1, bytes := 16, zeros := [St []], fsz := [1] }
theorem ti190_ok : ti190.ok Tryz.prog 190 := ⟨Tryz.underlying190, rfl, by kernel_rfl, rfl, rfl, by decide, (fun h => by cases h), by kernel_rfl, by kernel_rfl⟩
def ti191 : TI := { kind := .st [0], desc := .struct #[{ name := "s", type := 9, offset := 0, embedded := false, tag := "", pkgPath := "errors", byteOffset := 0 }], size := 1, bytes := 16, zeros := [St []], fsz := [1] }
theorem ti191_ok : ti191.ok Tryz.prog 191 := ⟨Tryz.underlying191, rfl, by kernel_rfl, rfl, rfl, by decide, (fun h => by cases h), by kernel_rfl, by kernel_rfl⟩
def ti194 : TI := { kind := .ar 32 5, desc := .array 32 5, size := 32, bytes := 32, zeros := [.int .u8 0, .int .u8 0, .int .u8 0, .int .u8 0, .int .u8 0, .int .u8 0, .int .u8 0, .int .u8 0, .int .u8 0, .int .u8 0, .int .u8 0, .int .u8 0, .int .u8 0, .int .u8 0, .int .u8 0, .int .u8 0, .int .u8 0, .int .u8 0, .int .u8 0, .int .u8 0, .int .u8 0, .int .u8 0, .int .u8 0, .int .u8 0, .int .u8 0, .int .u8 0, .int .u8 0, .int .u8 0, .int .u8 0, .int .u8 0, .int .u8 0, .int .u8 0] }
theorem ti194_ok : ti194.ok Tryz.prog 194 := ⟨Tryz.underlying194, rfl, by kernel_rfl, rfl, rfl, by decide, (fun h => by cases h), by kernel_rfl, by kernel_rfl⟩
def ti195 : TI := { kind := .ar 64 5, desc := .array 64 5, size := 64, bytes := 64, zeros := [.int .u8 0, .int .u8 0, .int .u8 0, .int .u8 0, .int .u8 0, .int .u8 0, .int .u8 0, .int .u8 0, .int .u8 0, .int .u8 0, .int .u8 0, .int .u8 0, .int .u8 0, .int .u8 0, .int .u8 0, .int .u8 0, .int .u8 0, .int .u8 0, .int .u8 0, .int .u8 0, .int .u8 0, .int .u8 0, .int .u8 0, .int .u8 0, .int .u8 0, .int .u8 0, .int .u8 0, .int .u8 0, .int .u8 0, .int .u8 0, .int .u8 0, .int .u8 0, .int .u8 0, .int .u8 0, .int .u8 0, .int .u8 0, .int .u8 0, .int .u8 0, .int .u8 0, .int .u8 0, .int .u8 0, .int .u8 0, .int .u8 0, .int .u8 0, .int .u8 0, .int .u8 0, .int .u8 0, .int .u8 0, .int .u8 0, .int .u8 0, .int .u8 0, .int .u8 0, .int .u8 0, .int .u8 0, .int .u8 0, .int .u8 0, .int .u8 0, .int .u8 0, .int .u8 0, .int .u8 0, .int .u8 0, .int .u8 0, .int .u8 0, .int .u8 0] }
set_option maxRecDepth 100000 in
theorem ti195_ok : ti195.ok Tryz.prog 195 := ⟨Tryz.underlying195, rfl, by kernel_rfl, by kernel_rfl, by kernel_rfl, by decide, (fun h => by cases h), by kernel_rfl, by kernel_rfl⟩
def ti196 : TI := { kind := .st [0, 1], desc := .struct #[{ name := "lo", type := 5, offset := 0, embedded := false, tag := "", pkgPath := "unicode/utf8", byteOffset := 0 }, { name := "hi", type := 5, offset := 1, embedded := false, tag := "", pkgPath := "unicode/utf8", byteOffset := 1 }], size := 2, bytes := 2, zeros := [.int .u8 0, .int .u8 0], fsz := [1, 1] }
theorem ti196_ok : ti196.ok Tryz.prog 196 := ⟨Tryz.underlying196, rfl, by kernel_rfl, rfl, rfl, by decide, (fun h => by cases h), by kernel_rfl, by kernel_rfl⟩
def ti197 : TI := { kind := .st [0, 1], desc := .struct #[{ name := "lo", type := 5, offset := 0, embedded := false, tag := "", pkgPath := "unicode/utf8", byteOffset := 0 }, { name := "hi", type := 5, offset := 1, embedded := false, tag := "", pkgPath := "unicode/utf8", byteOffset := 1 }], size := 2, bytes := 2, zeros := [.int .u8 0, .int .u8 0], fsz := [1, 1] }
theorem ti197_ok : ti197.ok Tryz.prog 197 := ⟨Tryz.underlying197, rfl, by kernel_rfl, rfl, rfl, by decide, (fun h => by cases h), by kernel_rfl, by kernel_rfl⟩
def ti198 : TI := { kind := .ar 16 197, desc := .array 16 197, size := 32, bytes := 32, zeros := [.int .u8 0, .int .u8 0, .int .u8 0, .int .u8 0, .int .u8 0, .int .u8 0, .int .u8 0, .int .u8 0, .int .u8 0, .int .u8 0, .int .u8 0, .int .u8 0, .int .u8 0, .int .u8 0, .int .u8 0, .int .u8 0, .int .u8 0, .int .u8 0, .int .u8 0, .int .u8 0, .int .u8 0, .int .u8 0, .int .u8 0, .int .u8 0, .int .u8 0, .int .u8 0, .int .u8 0, .int .u8 0, .int .u8 0, .int .u8 0, .int .u8 0, .int .u8 0] }
theorem ti198_ok : ti198.ok Tryz.prog 198 := ⟨Tryz.underlying198, rfl, by kernel_rfl, rfl, rfl, by decide, (fun h => by cases h), by kernel_rfl, by kernel_rfl⟩
def ti199 : TI := { kind := .st [0, 1, 2, 3], desc := .struct #[{ name := "_interface", type := 17, offset := 0, embedded := false, tag := "", pkgPath := "runtime", byteOffset := 0 }, { name := "concrete", type := 17, offset := 1, embedded := false, tag := "", pkgPath := "runtime", byteOffset := 8 }, { name := "asserted", type := 17, offset := 2, embedded := false, tag := "", pkgPath := "runtime", byteOffset := 16 }, { name := "missingMethod", type := 9, offset := 3, embedded := false, tag := "", pkgPath := "runtime", byteOffset := 24 }], size := 4, bytes := 40, zeros := [.pointer none, .pointer none, .pointer none, St []], fsz := [1, 1, 1, 1] }
theorem ti199_ok : ti199.ok Tryz.prog 199 := ⟨Tryz.underlying199, rfl, by kernel_rfl, rfl, rfl, by decide, (fun h => by cases h), by kernel_rfl, by kernel_rfl⟩
def ti200 : TI := { kind := .st [0, 1, 2, 3], desc := .struct #[{ name := "_interface", type := 17, offset := 0, embedded := false, tag := "", pkgPath := "runtime", byteOffset := 0 }, { name := "concrete", type := 17, offset := 1, embedded := false, tag := "", pkgPath := "runtime", byteOffset := 8 }, { name := "asserted", type := 17, offset := 2, embedded := false, tag := "", pkgPath := "runtime", byteOffset := 16 }, { name := "missingMethod", type := 9, offset := 3, embedded := false, tag := "", pkgPath := "runtime", byteOffset := 24 }], size := 4, bytes := 40, zeros := [.pointer none, .pointer none, .pointer none, St []], fsz := [1, 1, 1, 1] }
theorem ti200_ok : ti200.ok Tryz.prog 200 := ⟨Tryz.underlying200, rfl, by kernel_rfl, rfl, rfl, by decide, (fun h => by cases h), by kernel_rfl, by kernel_rfl⟩
def ti205 : TI := { kind := .sc, desc := .int .u8, size := 1, bytes := 1, zeros := [.int .u8 0] }
theorem ti205_ok : ti205.ok Tryz.prog 205 := ⟨Tryz.underlying205, trivial, by kernel_rfl, rfl, rfl, by decide, fun _ => rfl, by kernel_rfl, by kernel_rfl⟩
def ti206 : TI := { kind := .sc, desc := .int .u8, size := 1, bytes := 1, zeros := [.int .u8 0] }
theorem ti206_ok : ti206.ok Tryz.prog 206 := ⟨Tryz.underlying206, trivial, by kernel_rfl, rfl, rfl, by decide, fun _ => rfl, by kernel_rfl, by kernel_rfl⟩
def ti208 : TI := { kind := .sc, desc := .int .i32, size := 1, bytes := 4, zeros := [.int .i32 0] }
theorem ti208_ok : ti208.ok Tryz.prog 208 := ⟨Tryz.underlying208, trivial, by kernel_rfl, rfl, rfl, by decide, fun _ => rfl, by kernel_rfl, by kernel_rfl⟩
def ti209 : TI := { kind := .sc, desc := .int .i32, size := 1, bytes := 4, zeros := [.int .i32 0] }
theorem ti209_ok : ti209.ok Tryz.prog 209 := ⟨Tryz.underlying209, trivial, by kernel_rfl, rfl, rfl, by decide, fun _ => rfl, by kernel_rfl, by kernel_rfl⟩
def ti210 : TI := { kind := .st [0, 1, 2, 3, 4, 5, 6, 7, 8, 9, 10], desc := .struct #[{ name := "Size_", type := 12, offset := 0, embedded := false, tag := "", pkgPath := "", byteOffset := 0 }, { name := "PtrBytes", type := 12, offset := 1, embedded := false, tag := "", pkgPath := "", byteOffset := 8 }, { name := "Hash", type := 60, offset := 2, embedded := false, tag := "", pkgPath := "", byteOffset := 16 }, { name := "TFlag", type := 205, offset := 3, embedded := false, tag := "", pkgPath := "", byteOffset := 20 }, { name := "Align_", type := 5, offset := 4, embedded := false, tag := "", pkgPath := "", byteOffset := 21 }, { name := "FieldAlign_", type := 5, offset := 5, embedded := false, tag := "", pkgPath := "", byteOffset := 22 }, { name := "Kind_", type := 206, offset := 6, embedded := false, tag := "", pkgPath := "", byteOffset := 23 }, { name := "Equal", type := 207, offset := 7, embedded := false, tag := "", pkgPath := "", byteOffset := 24 }, { name := "GCData", type := 119, offset := 8, embedded := false, tag := "", pkgPath := "", byteOffset := 32 }, { name := "Str", type := 208, offset := 9, embedded := false, tag := "", pkgPath := "", byteOffset := 40 }, { name := "PtrToThis", type := 209, offset := 10, embedded := false, tag := "", pkgPath := "", byteOffset := 44 }], size := 11, bytes := 48, zeros := [.int .u64 0, .int .u64 0, .int .u32 0, .int .u8 0, .int .u8 0, .int .u8 0, .int .u8 0, .nilFunc, .pointer none, .int .i32 0, .int .i32 0], fsz := [1, 1, 1, 1, 1, 1, 1, 1, 1, 1, 1] }
theorem ti210_ok : ti210.ok Tryz.prog 210 := ⟨Tryz.underlying210, rfl, by kernel_rfl, rfl, rfl, by decide, (fun h => by cases h), by kernel_rfl, by kernel_rfl⟩
def ti211 : TI := { kind := .st [0, 1, 2, 3, 4, 5, 6, 7, 8, 9, 10], desc := .struct #[{ name := "Size_", type := 12, offset := 0, embedded := false, tag := "", pkgPath := "", byteOffset := 0 }, { name := "PtrBytes", type := 12, offset := 1, embedded := false, tag := "", pkgPath := "", byteOffset := 8 }, { name := "Hash", type := 60, offset := 2, embedded := false, tag := "", pkgPath := "", byteOffset := 16 }, { name := "TFlag", type := 205, offset := 3, embedded := false, tag := "", pkgPath := "", byteOffset := 20 }, { name := "Align_", type := 5, offset := 4, embedded := false, tag := "", pkgPath := "", byteOffset := 21 }, { name := "FieldAlign_", type := 5, offset := 5, embedded := false, tag := "", pkgPath := "", byteOffset := 22 }, { name := "Kind_", type := 206, offset := 6, embedded := false, tag := "", pkgPath := "", byteOffset := 23 }, { name := "Equal", type := 207, offset := 7, embedded := false, tag := "", pkgPath := "", byteOffset := 24 }, { name := "GCData", type := 119, offset := 8, embedded := false, tag := "", pkgPath := "", byteOffset := 32 }, { name := "Str", type := 208, offset := 9, embedded := false, tag := "", pkgPath := "", byteOffset := 40 }, { name := "PtrToThis", type := 209, offset := 10, embedded := false, tag := "", pkgPath := "", byteOffset := 44 }], size := 11, bytes := 48, zeros := [.int .u64 0, .int .u64 0, .int .u32 0, .int .u8 0, .int .u8 0, .int .u8 0, .int .u8 0, .nilFunc, .pointer none, .int .i32 0, .int .i32 0], fsz := [1, 1, 1, 1, 1, 1, 1, 1, 1, 1, 1] }
theorem ti211_ok : ti211.ok Tryz.prog 211 := ⟨Tryz.underlying211, rfl, by kernel_rfl, rfl, rfl, by decide, (fun h => by cases h), by kernel_rfl, by kernel_rfl⟩
def TT : TyTab := [(2, ti2), (3, ti3), (4, ti4), (5, ti5), (6, ti6), (7, ti7), (8, ti8), (9, ti9), (10, ti10), (11, ti11), (12, ti12), (13, ti13), (14, ti14), (15, ti15), (16, ti16), (17, ti17), (18, ti18), (19, ti19), (21, ti21), (22, ti22), (23, ti23), (24, ti24), (25, ti25), (26, ti26), (35, ti35), (42, ti42), (48, ti48), (52, ti52), (53, ti53), (54, ti54), (57, ti57), (60, ti60), (61, ti61), (62, ti62), (63, ti63), (65, ti65), (66, ti66), (67, ti67), (68, ti68), (88, ti88), (89, ti89), (90, ti90), (115, ti115), (119, ti119), (120, ti120), (121, ti121), (122, ti122), (123, ti123), (129, ti129), (134, ti134), (136, ti136), (143, ti143), (144, ti144), (145, ti145), (146, ti146), (147, ti147), (148, ti148), (149, ti149), (151, ti151), (152, ti152), (154, ti154), (160, ti160), (161, ti161), (165, ti165), (166, ti166), (168, ti168), (169, ti169), (172, ti172), (173, ti173), (176, ti176), (177, ti177), (184, ti184), (185, ti185), (189, ti189), (190, ti190), (191, ti191), (194, ti194), (195, ti195), (196, ti196), (197, ti197), (198, ti198), (199, ti199), (200, ti200), (205, ti205), (206, ti206), (208, ti208), (209, ti209), (210, ti210), (211, ti211)]
theorem TT_ok : TabOK Tryz.prog TT := TabOK.cons ti2_ok (TabOK.cons ti3_ok (TabOK.cons ti4_ok (TabOK.cons ti5_ok (TabOK.cons ti6_ok (TabOK.cons ti7_ok (TabOK.cons ti8_ok (TabOK.cons ti9_ok (TabOK.cons ti10_ok (TabOK.cons ti11_ok (TabOK.cons ti12_ok (TabOK.cons ti13_ok (TabOK.cons ti14_ok (TabOK.cons ti15_ok (TabOK.cons ti16_ok (TabOK.cons ti17_ok (TabOK.cons ti18_ok (TabOK.cons ti19_ok (TabOK.cons ti21_ok (TabOK.cons ti22_ok (TabOK.cons ti23_ok (TabOK.cons ti24_ok (TabOK.cons ti25_ok (TabOK.cons ti26_ok (TabOK.cons ti35_ok (TabOK.cons ti42_ok (TabOK.cons ti48_ok (TabOK.cons ti52_ok (TabOK.cons ti53_ok (TabOK.cons ti54_ok (TabOK.cons ti57_ok (TabOK.cons ti60_ok (TabOK.cons ti61_ok (TabOK.cons ti62_ok (TabOK.cons ti63_ok (TabOK.cons ti65_ok (TabOK.cons ti66_ok (TabOK.cons ti67_ok (TabOK.cons ti68_ok (TabOK.cons ti88_ok (TabOK.cons ti89_ok (TabOK.cons ti90_ok (TabOK.cons ti115_ok (TabOK.cons ti119_ok (TabOK.cons ti120_ok (TabOK.cons ti121_ok (TabOK.cons ti122_ok (TabOK.cons ti123_ok (TabOK.cons ti129_ok (TabOK.cons ti134_ok (TabOK.cons ti136_ok (TabOK.cons ti143_ok (TabOK.cons ti144_ok (TabOK.cons ti145_ok (TabOK.cons ti146_ok (TabOK.cons ti147_ok (TabOK.cons ti148_ok (TabOK.cons ti149_ok (TabOK.cons ti151_ok (TabOK.cons ti152_ok (TabOK.cons ti154_ok (TabOK.cons ti160_ok (TabOK.cons ti161_ok (TabOK.cons ti165_ok (TabOK.cons ti166_ok (TabOK.cons ti168_ok (TabOK.cons ti169_ok (TabOK.cons ti172_ok (TabOK.cons ti173_ok (TabOK.cons ti176_ok (TabOK.cons ti177_ok (TabOK.cons ti184_ok (TabOK.cons ti185_ok (TabOK.cons ti189_ok (TabOK.cons ti190_ok (TabOK.cons ti191_ok (TabOK.cons ti194_ok (TabOK.cons ti195_ok (TabOK.cons ti196_ok (TabOK.cons ti197_ok (TabOK.cons ti198_ok (TabOK.cons ti199_ok (TabOK.cons ti200_ok (TabOK.cons ti205_ok (TabOK.cons ti206_ok (TabOK.cons ti208_ok (TabOK.cons ti209_ok (TabOK.cons ti210_ok (TabOK.cons ti211_ok ( TabOK.nil)))))))))))))))))))))))))))))))))))))))))))))))))))))))))))))))))))))))))))))))))))))))))
theorem drawsMixed : Tryz.prog.follows .mixedOrders = true := by kernel_rfl
end Go.FL
namespace Go.Proofs.YtoeeblegplghmaaGreatDoor
open Go Go.FL
theorem aggOne {P : Program} {t : Nat} {ti : TI} (h : ti.ok P t) (hk : isOne ti.kind = true) (w : World) : (isAgg t).run P w = .ok false w := by rw [run_isAgg' h, hk]; rfl
theorem aggTwo {P : Program} {t : Nat} {ti : TI} (h : ti.ok P t) (hk : isOne ti.kind = false) (w : World) : (isAgg t).run P w = .ok true w := by rw [run_isAgg' h, hk]; rfl
theorem eqTermIn (d : Nat) (a b c e : Int) (w : World) : (Op.equalIn (d + 2) 66 (.agg #[.int .i64 a, .int .u32 b]) (.agg #[.int .i64 c, .int .u32 e])).run Tryz.prog w = .ok (decide (a = c) && decide (b = e)) w := by
  rw [run_equalIn_agg w (d + 1) 66 _ _ (by kernel_rfl) (by kernel_rfl)]
  simp only [Program.fieldsOf, Tryz.underlying66, Op.eqFields, part]
  simp [aggOne ti3_ok rfl, aggOne ti60_ok rfl, run_equalIn_int w d 3 .i64 .i64 _ _ Tryz.underlying3, run_equalIn_int w d 60 .u32 .u32 _ _ Tryz.underlying60]
  by_cases h1 : a = c <;> by_cases h2 : b = e <;> simp [h1, h2]
theorem eqTerm (a b c d : Int) : EqA Tryz.prog 66 [.int .i64 a, .int .u32 b] [.int .i64 c, .int .u32 d] (decide (a = c) && decide (b = d)) := ⟨by kernel_rfl, fun w => eqTermIn 9998 a b c d w⟩
theorem eqFault (a b c d : Int) : EqA Tryz.prog 26 [.int .i64 a, .int .i64 b] [.int .i64 c, .int .i64 d] (decide (a = c ∧ b = d)) := ⟨by kernel_rfl, fun w => by
  show (Op.equalIn (9998 + 2) 26 _ _).run Tryz.prog w = _
  rw [run_equalIn_agg w 9999 26 _ _ (by kernel_rfl) (by kernel_rfl)]
  simp only [Program.fieldsOf, Tryz.underlying26, Op.eqFields, part]
  simp [aggOne ti3_ok rfl, run_equalIn_int w 9998 3 .i64 .i64 _ _ Tryz.underlying3]
  by_cases h1 : a = c <;> by_cases h2 : b = d <;> simp [h1, h2]⟩
theorem sizeTwo (w : World) : (sizeOf 66).run Tryz.prog w = .ok 2 w := run_sizeOf' ti66_ok w
theorem eqAction (a b : Ac) : EqA Tryz.prog 68 [.int .i64 a.kind, .int .i64 a.tgt, .int .i64 a.x.kind, .int .u32 a.x.val, .int .i64 a.y.kind, .int .u32 a.y.val] [.int .i64 b.kind, .int .i64 b.tgt, .int .i64 b.x.kind, .int .u32 b.x.val, .int .i64 b.y.kind, .int .u32 b.y.val] (decide (a = b)) := ⟨by kernel_rfl, fun w => by
  obtain ⟨ak, at_, ⟨ax1, ax2⟩, ⟨ay1, ay2⟩⟩ := a
  obtain ⟨bk, bt, ⟨bx1, bx2⟩, ⟨by1, by2⟩⟩ := b
  show (Op.equalIn (9998 + 2) 68 _ _).run Tryz.prog w = _
  rw [run_equalIn_agg w 9999 68 _ _ (by kernel_rfl) (by kernel_rfl)]
  simp only [Program.fieldsOf, Tryz.underlying68, Op.eqFields, part]
  simp [aggOne ti3_ok rfl, aggTwo ti66_ok rfl, sizeTwo, run_equalIn_int w 9998 3 .i64 .i64 _ _ Tryz.underlying3, eqTermIn 9997]
  by_cases h1 : ak = bk <;> by_cases h2 : at_ = bt <;> by_cases h3 : ax1 = bx1 <;> by_cases h4 : ax2 = bx2 <;> by_cases h5 : ay1 = by1 <;> by_cases h6 : ay2 = by2 <;> simp [h1, h2, h3, h4, h5, h6]⟩
end Go.Proofs.YtoeeblegplghmaaGreatDoor
namespace Go.Proofs.YtoeeblegplghmaaGreatDoor
open Go.FL
attribute [local irreducible] JC JO JA JB thenQ blockQ retQ AC fill CellsAt QE Ev Mid
set_option maxHeartbeats 1000000 in
set_option maxRecDepth 100000 in
theorem fault_ac (D : Nat) (L : Hl) (s : World) (c i : Int) : AC Tryz.prog D 44 [.int .i64 c, .int .i64 i] L s fun v L' _ => v = .agg #[.int .i64 c, .int .i64 i] ∧ L = L' := by
 refine AC_enter (TT := TT) (fn := Tryz.f44) TT_ok Tryz.func44 (by kernel_rfl) rfl Tryz.ntmps44 rfl (rs := [.cell 4 26]) rfl [(0, _), (1, _)] rfl ?_
 refine JC_seq ?_
 refine JC_region ?_
 refine JO_allocZ rfl [_, _] rfl rfl ?_
 intro β1 s1 h1
 refine JO_nil ?_
 refine thenQ_n ?_
 refine JC_seq ?_
 refine JC_region ?_
 refine JO_q (QE_mv rfl) rfl ?_
 refine JO_q (QE_mv rfl) rfl ?_
 refine JO_q (QE_build [(_, _), (_, _)] [_, _] rfl rfl rfl rfl rfl rfl) rfl ?_
 refine JO_st 0 [_, _] rfl rfl rfl rfl rfl rfl rfl rfl rfl ?_
 refine JO_nil ?_
 refine thenQ_n ?_
 refine JC_ret ?_
 refine retQ_mk [_] L (.inr rfl) (.agg (us := [_, _]) 0 rfl rfl rfl rfl rfl (.nil)) rfl h1 (fun sR hS2 => ?_)
 exact ⟨rfl, rfl⟩
set_option maxHeartbeats 1000000 in
set_option maxRecDepth 100000 in
theorem uses_ac (D : Nat) (L : Hl) (s : World) (k : Int) : AC Tryz.prog D 96 [.int .i64 k] L s fun v L' _ => v = .tuple #[.bool (usesT k), .bool (usesX k), .bool (usesY k)] ∧ L = L' := by
 refine AC_enter (TT := TT) (fn := Tryz.f96) TT_ok Tryz.func96 (by kernel_rfl) rfl Tryz.ntmps96 rfl (rs := [.tmp 2, .tmp 3, .tmp 4]) rfl [(0, _)] rfl ?_
 refine JC_seq ?_
 refine JC_region ?_
 refine JO_q (QE_as rfl) rfl ?_
 refine JO_q (QE_as rfl) rfl ?_
 refine JO_q (QE_as rfl) rfl ?_
 refine JO_nil ?_
 refine thenQ_n ?_
 refine JC_seq ?_
 refine JC_region ?_
 refine JO_q (QE_as rfl) rfl ?_
 refine JO_q (QE_as rfl) rfl ?_
 refine JO_q (QE_as rfl) rfl ?_
 refine JO_nil ?_
 refine thenQ_n ?_
 refine JC_seq ?_
 refine JC_seq ?_
 refine JC_region ?_
 refine JO_q (QE_mv rfl) rfl ?_
 refine JO_nil ?_
 refine thenQ_n ?_
 refine JC_block ?_
 refine JC_seq ?_
 refine JC_seq ?_
 refine JC_region ?_
 refine JO_q (QE_eq rfl rfl) rfl ?_
 refine JO_q (QE_as rfl) rfl ?_
 refine JO_nil ?_
 refine thenQ_n ?_
 refine JC_ifD rfl (fun c1 => ?_) (fun c1 => ?_)
 ·
  refine JC_skip ?_
  refine thenQ_n ?_
  refine JC_ifD rfl (fun c2 => ?_) (fun c2 => ?_)
  ·
   refine JC_region ?_
   refine JO_q (QE_as rfl) rfl ?_
   refine JO_nil ?_
   refine blockQ_n ?_
   refine thenQ_n ?_
   refine JC_seq ?_
   refine JC_region ?_
   refine JO_q (QE_mv rfl) rfl ?_
   refine JO_q (QE_mv rfl) rfl ?_
   refine JO_q (QE_mv rfl) rfl ?_
   refine JO_q (QE_as rfl) rfl ?_
   refine JO_q (QE_as rfl) rfl ?_
   refine JO_q (QE_as rfl) rfl ?_
   refine JO_nil ?_
   refine thenQ_n ?_
   refine JC_ret ?_
   refine retQ_mk [] L (.inr rfl) (.tmp rfl (.tmp rfl (.tmp rfl (.nil)))) rfl (Le.refl (D := D) _) (fun sR hS2 => ?_)
   exact ⟨by simp_all [resV, usesT, usesX, usesY], rfl⟩
  ·
   refine JC_seq ?_
   refine JC_seq ?_
   refine JC_region ?_
   refine JO_q (QE_eq rfl rfl) rfl ?_
   refine JO_q (QE_as rfl) rfl ?_
   refine JO_nil ?_
   refine thenQ_n ?_
   refine JC_ifD rfl (fun c3 => ?_) (fun c3 => ?_)
   ·
    refine JC_skip ?_
    refine thenQ_n ?_
    refine JC_ifD rfl (fun c4 => ?_) (fun c4 => ?_)
    ·
     refine JC_region ?_
     refine JO_q (QE_as rfl) rfl ?_
     refine JO_q (QE_as rfl) rfl ?_
     refine JO_nil ?_
     refine blockQ_n ?_
     refine thenQ_n ?_
     refine JC_seq ?_
     refine JC_region ?_
     refine JO_q (QE_mv rfl) rfl ?_
     refine JO_q (QE_mv rfl) rfl ?_
     refine JO_q (QE_mv rfl) rfl ?_
     refine JO_q (QE_as rfl) rfl ?_
     refine JO_q (QE_as rfl) rfl ?_
     refine JO_q (QE_as rfl) rfl ?_
     refine JO_nil ?_
     refine thenQ_n ?_
     refine JC_ret ?_
     refine retQ_mk [] L (.inr rfl) (.tmp rfl (.tmp rfl (.tmp rfl (.nil)))) rfl (Le.refl (D := D) _) (fun sR hS2 => ?_)
     exact ⟨by simp_all [resV, usesT, usesX, usesY], rfl⟩
    ·
     refine JC_seq ?_
     refine JC_region ?_
     refine JO_q (QE_eq rfl rfl) rfl ?_
     refine JO_q (QE_as rfl) rfl ?_
     refine JO_nil ?_
     refine thenQ_n ?_
     refine JC_ifD rfl (fun c5 => ?_) (fun c5 => ?_)
     ·
      refine JC_region ?_
      refine JO_q (QE_as rfl) rfl ?_
      refine JO_q (QE_as rfl) rfl ?_
      refine JO_nil ?_
      refine blockQ_n ?_
      refine thenQ_n ?_
      refine JC_seq ?_
      refine JC_region ?_
      refine JO_q (QE_mv rfl) rfl ?_
      refine JO_q (QE_mv rfl) rfl ?_
      refine JO_q (QE_mv rfl) rfl ?_
      refine JO_q (QE_as rfl) rfl ?_
      refine JO_q (QE_as rfl) rfl ?_
      refine JO_q (QE_as rfl) rfl ?_
      refine JO_nil ?_
      refine thenQ_n ?_
      refine JC_ret ?_
      refine retQ_mk [] L (.inr rfl) (.tmp rfl (.tmp rfl (.tmp rfl (.nil)))) rfl (Le.refl (D := D) _) (fun sR hS2 => ?_)
      exact ⟨by simp_all [resV, usesT, usesX, usesY], rfl⟩
     ·
      refine JC_seq ?_
      refine JC_seq ?_
      refine JC_region ?_
      refine JO_q (QE_eq rfl rfl) rfl ?_
      refine JO_q (QE_as rfl) rfl ?_
      refine JO_nil ?_
      refine thenQ_n ?_
      refine JC_ifD rfl (fun c6 => ?_) (fun c6 => ?_)
      ·
       refine JC_skip ?_
       refine thenQ_n ?_
       refine JC_ifD rfl (fun c7 => ?_) (fun c7 => ?_)
       ·
        refine JC_region ?_
        refine JO_q (QE_as rfl) rfl ?_
        refine JO_nil ?_
        refine blockQ_n ?_
        refine thenQ_n ?_
        refine JC_seq ?_
        refine JC_region ?_
        refine JO_q (QE_mv rfl) rfl ?_
        refine JO_q (QE_mv rfl) rfl ?_
        refine JO_q (QE_mv rfl) rfl ?_
        refine JO_q (QE_as rfl) rfl ?_
        refine JO_q (QE_as rfl) rfl ?_
        refine JO_q (QE_as rfl) rfl ?_
        refine JO_nil ?_
        refine thenQ_n ?_
        refine JC_ret ?_
        refine retQ_mk [] L (.inr rfl) (.tmp rfl (.tmp rfl (.tmp rfl (.nil)))) rfl (Le.refl (D := D) _) (fun sR hS2 => ?_)
        exact ⟨by simp_all [resV, usesT, usesX, usesY], rfl⟩
       ·
        refine JC_skip ?_
        refine blockQ_n ?_
        refine thenQ_n ?_
        refine JC_seq ?_
        refine JC_region ?_
        refine JO_q (QE_mv rfl) rfl ?_
        refine JO_q (QE_mv rfl) rfl ?_
        refine JO_q (QE_mv rfl) rfl ?_
        refine JO_q (QE_as rfl) rfl ?_
        refine JO_q (QE_as rfl) rfl ?_
        refine JO_q (QE_as rfl) rfl ?_
        refine JO_nil ?_
        refine thenQ_n ?_
        refine JC_ret ?_
        refine retQ_mk [] L (.inr rfl) (.tmp rfl (.tmp rfl (.tmp rfl (.nil)))) rfl (Le.refl (D := D) _) (fun sR hS2 => ?_)
        exact ⟨by simp_all [resV, usesT, usesX, usesY], rfl⟩
      ·
       refine JC_region ?_
       refine JO_q (QE_eq rfl rfl) rfl ?_
       refine JO_q (QE_as rfl) rfl ?_
       refine JO_nil ?_
       refine thenQ_n ?_
       refine JC_ifD rfl (fun c8 => ?_) (fun c8 => ?_)
       ·
        refine JC_region ?_
        refine JO_q (QE_as rfl) rfl ?_
        refine JO_nil ?_
        refine blockQ_n ?_
        refine thenQ_n ?_
        refine JC_seq ?_
        refine JC_region ?_
        refine JO_q (QE_mv rfl) rfl ?_
        refine JO_q (QE_mv rfl) rfl ?_
        refine JO_q (QE_mv rfl) rfl ?_
        refine JO_q (QE_as rfl) rfl ?_
        refine JO_q (QE_as rfl) rfl ?_
        refine JO_q (QE_as rfl) rfl ?_
        refine JO_nil ?_
        refine thenQ_n ?_
        refine JC_ret ?_
        refine retQ_mk [] L (.inr rfl) (.tmp rfl (.tmp rfl (.tmp rfl (.nil)))) rfl (Le.refl (D := D) _) (fun sR hS2 => ?_)
        exact ⟨by simp_all [resV, usesT, usesX, usesY], rfl⟩
       ·
        refine JC_skip ?_
        refine blockQ_n ?_
        refine thenQ_n ?_
        refine JC_seq ?_
        refine JC_region ?_
        refine JO_q (QE_mv rfl) rfl ?_
        refine JO_q (QE_mv rfl) rfl ?_
        refine JO_q (QE_mv rfl) rfl ?_
        refine JO_q (QE_as rfl) rfl ?_
        refine JO_q (QE_as rfl) rfl ?_
        refine JO_q (QE_as rfl) rfl ?_
        refine JO_nil ?_
        refine thenQ_n ?_
        refine JC_ret ?_
        refine retQ_mk [] L (.inr rfl) (.tmp rfl (.tmp rfl (.tmp rfl (.nil)))) rfl (Le.refl (D := D) _) (fun sR hS2 => ?_)
        exact ⟨by simp_all [resV, usesT, usesX, usesY], rfl⟩
   ·
    refine JC_region ?_
    refine JO_q (QE_eq rfl rfl) rfl ?_
    refine JO_q (QE_as rfl) rfl ?_
    refine JO_nil ?_
    refine thenQ_n ?_
    refine JC_ifD rfl (fun c9 => ?_) (fun c9 => ?_)
    ·
     refine JC_region ?_
     refine JO_q (QE_as rfl) rfl ?_
     refine JO_q (QE_as rfl) rfl ?_
     refine JO_nil ?_
     refine blockQ_n ?_
     refine thenQ_n ?_
     refine JC_seq ?_
     refine JC_region ?_
     refine JO_q (QE_mv rfl) rfl ?_
     refine JO_q (QE_mv rfl) rfl ?_
     refine JO_q (QE_mv rfl) rfl ?_
     refine JO_q (QE_as rfl) rfl ?_
     refine JO_q (QE_as rfl) rfl ?_
     refine JO_q (QE_as rfl) rfl ?_
     refine JO_nil ?_
     refine thenQ_n ?_
     refine JC_ret ?_
     refine retQ_mk [] L (.inr rfl) (.tmp rfl (.tmp rfl (.tmp rfl (.nil)))) rfl (Le.refl (D := D) _) (fun sR hS2 => ?_)
     exact ⟨by simp_all [resV, usesT, usesX, usesY], rfl⟩
    ·
     refine JC_seq ?_
     refine JC_region ?_
     refine JO_q (QE_eq rfl rfl) rfl ?_
     refine JO_q (QE_as rfl) rfl ?_
     refine JO_nil ?_
     refine thenQ_n ?_
     refine JC_ifD rfl (fun c10 => ?_) (fun c10 => ?_)
     ·
      refine JC_region ?_
      refine JO_q (QE_as rfl) rfl ?_
      refine JO_q (QE_as rfl) rfl ?_
      refine JO_nil ?_
      refine blockQ_n ?_
      refine thenQ_n ?_
      refine JC_seq ?_
      refine JC_region ?_
      refine JO_q (QE_mv rfl) rfl ?_
      refine JO_q (QE_mv rfl) rfl ?_
      refine JO_q (QE_mv rfl) rfl ?_
      refine JO_q (QE_as rfl) rfl ?_
      refine JO_q (QE_as rfl) rfl ?_
      refine JO_q (QE_as rfl) rfl ?_
      refine JO_nil ?_
      refine thenQ_n ?_
      refine JC_ret ?_
      refine retQ_mk [] L (.inr rfl) (.tmp rfl (.tmp rfl (.tmp rfl (.nil)))) rfl (Le.refl (D := D) _) (fun sR hS2 => ?_)
      exact ⟨by simp_all [resV, usesT, usesX, usesY], rfl⟩
     ·
      refine JC_seq ?_
      refine JC_seq ?_
      refine JC_region ?_
      refine JO_q (QE_eq rfl rfl) rfl ?_
      refine JO_q (QE_as rfl) rfl ?_
      refine JO_nil ?_
      refine thenQ_n ?_
      refine JC_ifD rfl (fun c11 => ?_) (fun c11 => ?_)
      ·
       refine JC_skip ?_
       refine thenQ_n ?_
       refine JC_ifD rfl (fun c12 => ?_) (fun c12 => ?_)
       ·
        refine JC_region ?_
        refine JO_q (QE_as rfl) rfl ?_
        refine JO_nil ?_
        refine blockQ_n ?_
        refine thenQ_n ?_
        refine JC_seq ?_
        refine JC_region ?_
        refine JO_q (QE_mv rfl) rfl ?_
        refine JO_q (QE_mv rfl) rfl ?_
        refine JO_q (QE_mv rfl) rfl ?_
        refine JO_q (QE_as rfl) rfl ?_
        refine JO_q (QE_as rfl) rfl ?_
        refine JO_q (QE_as rfl) rfl ?_
        refine JO_nil ?_
        refine thenQ_n ?_
        refine JC_ret ?_
        refine retQ_mk [] L (.inr rfl) (.tmp rfl (.tmp rfl (.tmp rfl (.nil)))) rfl (Le.refl (D := D) _) (fun sR hS2 => ?_)
        exact ⟨by simp_all [resV, usesT, usesX, usesY], rfl⟩
       ·
        refine JC_skip ?_
        refine blockQ_n ?_
        refine thenQ_n ?_
        refine JC_seq ?_
        refine JC_region ?_
        refine JO_q (QE_mv rfl) rfl ?_
        refine JO_q (QE_mv rfl) rfl ?_
        refine JO_q (QE_mv rfl) rfl ?_
        refine JO_q (QE_as rfl) rfl ?_
        refine JO_q (QE_as rfl) rfl ?_
        refine JO_q (QE_as rfl) rfl ?_
        refine JO_nil ?_
        refine thenQ_n ?_
        refine JC_ret ?_
        refine retQ_mk [] L (.inr rfl) (.tmp rfl (.tmp rfl (.tmp rfl (.nil)))) rfl (Le.refl (D := D) _) (fun sR hS2 => ?_)
        exact ⟨by simp_all [resV, usesT, usesX, usesY], rfl⟩
      ·
       refine JC_region ?_
       refine JO_q (QE_eq rfl rfl) rfl ?_
       refine JO_q (QE_as rfl) rfl ?_
       refine JO_nil ?_
       refine thenQ_n ?_
       refine JC_ifD rfl (fun c13 => ?_) (fun c13 => ?_)
       ·
        refine JC_region ?_
        refine JO_q (QE_as rfl) rfl ?_
        refine JO_nil ?_
        refine blockQ_n ?_
        refine thenQ_n ?_
        refine JC_seq ?_
        refine JC_region ?_
        refine JO_q (QE_mv rfl) rfl ?_
        refine JO_q (QE_mv rfl) rfl ?_
        refine JO_q (QE_mv rfl) rfl ?_
        refine JO_q (QE_as rfl) rfl ?_
        refine JO_q (QE_as rfl) rfl ?_
        refine JO_q (QE_as rfl) rfl ?_
        refine JO_nil ?_
        refine thenQ_n ?_
        refine JC_ret ?_
        refine retQ_mk [] L (.inr rfl) (.tmp rfl (.tmp rfl (.tmp rfl (.nil)))) rfl (Le.refl (D := D) _) (fun sR hS2 => ?_)
        exact ⟨by simp_all [resV, usesT, usesX, usesY], rfl⟩
       ·
        refine JC_skip ?_
        refine blockQ_n ?_
        refine thenQ_n ?_
        refine JC_seq ?_
        refine JC_region ?_
        refine JO_q (QE_mv rfl) rfl ?_
        refine JO_q (QE_mv rfl) rfl ?_
        refine JO_q (QE_mv rfl) rfl ?_
        refine JO_q (QE_as rfl) rfl ?_
        refine JO_q (QE_as rfl) rfl ?_
        refine JO_q (QE_as rfl) rfl ?_
        refine JO_nil ?_
        refine thenQ_n ?_
        refine JC_ret ?_
        refine retQ_mk [] L (.inr rfl) (.tmp rfl (.tmp rfl (.tmp rfl (.nil)))) rfl (Le.refl (D := D) _) (fun sR hS2 => ?_)
        exact ⟨by simp_all [resV, usesT, usesX, usesY], rfl⟩
 ·
  refine JC_region ?_
  refine JO_q (QE_eq rfl rfl) rfl ?_
  refine JO_q (QE_as rfl) rfl ?_
  refine JO_nil ?_
  refine thenQ_n ?_
  refine JC_ifD rfl (fun c14 => ?_) (fun c14 => ?_)
  ·
   refine JC_region ?_
   refine JO_q (QE_as rfl) rfl ?_
   refine JO_nil ?_
   refine blockQ_n ?_
   refine thenQ_n ?_
   refine JC_seq ?_
   refine JC_region ?_
   refine JO_q (QE_mv rfl) rfl ?_
   refine JO_q (QE_mv rfl) rfl ?_
   refine JO_q (QE_mv rfl) rfl ?_
   refine JO_q (QE_as rfl) rfl ?_
   refine JO_q (QE_as rfl) rfl ?_
   refine JO_q (QE_as rfl) rfl ?_
   refine JO_nil ?_
   refine thenQ_n ?_
   refine JC_ret ?_
   refine retQ_mk [] L (.inr rfl) (.tmp rfl (.tmp rfl (.tmp rfl (.nil)))) rfl (Le.refl (D := D) _) (fun sR hS2 => ?_)
   exact ⟨by simp_all [resV, usesT, usesX, usesY], rfl⟩
  ·
   refine JC_seq ?_
   refine JC_seq ?_
   refine JC_region ?_
   refine JO_q (QE_eq rfl rfl) rfl ?_
   refine JO_q (QE_as rfl) rfl ?_
   refine JO_nil ?_
   refine thenQ_n ?_
   refine JC_ifD rfl (fun c15 => ?_) (fun c15 => ?_)
   ·
    refine JC_skip ?_
    refine thenQ_n ?_
    refine JC_ifD rfl (fun c16 => ?_) (fun c16 => ?_)
    ·
     refine JC_region ?_
     refine JO_q (QE_as rfl) rfl ?_
     refine JO_q (QE_as rfl) rfl ?_
     refine JO_nil ?_
     refine blockQ_n ?_
     refine thenQ_n ?_
     refine JC_seq ?_
     refine JC_region ?_
     refine JO_q (QE_mv rfl) rfl ?_
     refine JO_q (QE_mv rfl) rfl ?_
     refine JO_q (QE_mv rfl) rfl ?_
     refine JO_q (QE_as rfl) rfl ?_
     refine JO_q (QE_as rfl) rfl ?_
     refine JO_q (QE_as rfl) rfl ?_
     refine JO_nil ?_
     refine thenQ_n ?_
     refine JC_ret ?_
     refine retQ_mk [] L (.inr rfl) (.tmp rfl (.tmp rfl (.tmp rfl (.nil)))) rfl (Le.refl (D := D) _) (fun sR hS2 => ?_)
     exact ⟨by simp_all [resV, usesT, usesX, usesY], rfl⟩
    ·
     refine JC_seq ?_
     refine JC_region ?_
     refine JO_q (QE_eq rfl rfl) rfl ?_
     refine JO_q (QE_as rfl) rfl ?_
     refine JO_nil ?_
     refine thenQ_n ?_
     refine JC_ifD rfl (fun c17 => ?_) (fun c17 => ?_)
     ·
      refine JC_region ?_
      refine JO_q (QE_as rfl) rfl ?_
      refine JO_q (QE_as rfl) rfl ?_
      refine JO_nil ?_
      refine blockQ_n ?_
      refine thenQ_n ?_
      refine JC_seq ?_
      refine JC_region ?_
      refine JO_q (QE_mv rfl) rfl ?_
      refine JO_q (QE_mv rfl) rfl ?_
      refine JO_q (QE_mv rfl) rfl ?_
      refine JO_q (QE_as rfl) rfl ?_
      refine JO_q (QE_as rfl) rfl ?_
      refine JO_q (QE_as rfl) rfl ?_
      refine JO_nil ?_
      refine thenQ_n ?_
      refine JC_ret ?_
      refine retQ_mk [] L (.inr rfl) (.tmp rfl (.tmp rfl (.tmp rfl (.nil)))) rfl (Le.refl (D := D) _) (fun sR hS2 => ?_)
      exact ⟨by simp_all [resV, usesT, usesX, usesY], rfl⟩
     ·
      refine JC_seq ?_
      refine JC_seq ?_
      refine JC_region ?_
      refine JO_q (QE_eq rfl rfl) rfl ?_
      refine JO_q (QE_as rfl) rfl ?_
      refine JO_nil ?_
      refine thenQ_n ?_
      refine JC_ifD rfl (fun c18 => ?_) (fun c18 => ?_)
      ·
       refine JC_skip ?_
       refine thenQ_n ?_
       refine JC_ifD rfl (fun c19 => ?_) (fun c19 => ?_)
       ·
        refine JC_region ?_
        refine JO_q (QE_as rfl) rfl ?_
        refine JO_nil ?_
        refine blockQ_n ?_
        refine thenQ_n ?_
        refine JC_seq ?_
        refine JC_region ?_
        refine JO_q (QE_mv rfl) rfl ?_
        refine JO_q (QE_mv rfl) rfl ?_
        refine JO_q (QE_mv rfl) rfl ?_
        refine JO_q (QE_as rfl) rfl ?_
        refine JO_q (QE_as rfl) rfl ?_
        refine JO_q (QE_as rfl) rfl ?_
        refine JO_nil ?_
        refine thenQ_n ?_
        refine JC_ret ?_
        refine retQ_mk [] L (.inr rfl) (.tmp rfl (.tmp rfl (.tmp rfl (.nil)))) rfl (Le.refl (D := D) _) (fun sR hS2 => ?_)
        exact ⟨by simp_all [resV, usesT, usesX, usesY], rfl⟩
       ·
        refine JC_skip ?_
        refine blockQ_n ?_
        refine thenQ_n ?_
        refine JC_seq ?_
        refine JC_region ?_
        refine JO_q (QE_mv rfl) rfl ?_
        refine JO_q (QE_mv rfl) rfl ?_
        refine JO_q (QE_mv rfl) rfl ?_
        refine JO_q (QE_as rfl) rfl ?_
        refine JO_q (QE_as rfl) rfl ?_
        refine JO_q (QE_as rfl) rfl ?_
        refine JO_nil ?_
        refine thenQ_n ?_
        refine JC_ret ?_
        refine retQ_mk [] L (.inr rfl) (.tmp rfl (.tmp rfl (.tmp rfl (.nil)))) rfl (Le.refl (D := D) _) (fun sR hS2 => ?_)
        exact ⟨by simp_all [resV, usesT, usesX, usesY], rfl⟩
      ·
       refine JC_region ?_
       refine JO_q (QE_eq rfl rfl) rfl ?_
       refine JO_q (QE_as rfl) rfl ?_
       refine JO_nil ?_
       refine thenQ_n ?_
       refine JC_ifD rfl (fun c20 => ?_) (fun c20 => ?_)
       ·
        refine JC_region ?_
        refine JO_q (QE_as rfl) rfl ?_
        refine JO_nil ?_
        refine blockQ_n ?_
        refine thenQ_n ?_
        refine JC_seq ?_
        refine JC_region ?_
        refine JO_q (QE_mv rfl) rfl ?_
        refine JO_q (QE_mv rfl) rfl ?_
        refine JO_q (QE_mv rfl) rfl ?_
        refine JO_q (QE_as rfl) rfl ?_
        refine JO_q (QE_as rfl) rfl ?_
        refine JO_q (QE_as rfl) rfl ?_
        refine JO_nil ?_
        refine thenQ_n ?_
        refine JC_ret ?_
        refine retQ_mk [] L (.inr rfl) (.tmp rfl (.tmp rfl (.tmp rfl (.nil)))) rfl (Le.refl (D := D) _) (fun sR hS2 => ?_)
        exact ⟨by simp_all [resV, usesT, usesX, usesY], rfl⟩
       ·
        refine JC_skip ?_
        refine blockQ_n ?_
        refine thenQ_n ?_
        refine JC_seq ?_
        refine JC_region ?_
        refine JO_q (QE_mv rfl) rfl ?_
        refine JO_q (QE_mv rfl) rfl ?_
        refine JO_q (QE_mv rfl) rfl ?_
        refine JO_q (QE_as rfl) rfl ?_
        refine JO_q (QE_as rfl) rfl ?_
        refine JO_q (QE_as rfl) rfl ?_
        refine JO_nil ?_
        refine thenQ_n ?_
        refine JC_ret ?_
        refine retQ_mk [] L (.inr rfl) (.tmp rfl (.tmp rfl (.tmp rfl (.nil)))) rfl (Le.refl (D := D) _) (fun sR hS2 => ?_)
        exact ⟨by simp_all [resV, usesT, usesX, usesY], rfl⟩
   ·
    refine JC_region ?_
    refine JO_q (QE_eq rfl rfl) rfl ?_
    refine JO_q (QE_as rfl) rfl ?_
    refine JO_nil ?_
    refine thenQ_n ?_
    refine JC_ifD rfl (fun c21 => ?_) (fun c21 => ?_)
    ·
     refine JC_region ?_
     refine JO_q (QE_as rfl) rfl ?_
     refine JO_q (QE_as rfl) rfl ?_
     refine JO_nil ?_
     refine blockQ_n ?_
     refine thenQ_n ?_
     refine JC_seq ?_
     refine JC_region ?_
     refine JO_q (QE_mv rfl) rfl ?_
     refine JO_q (QE_mv rfl) rfl ?_
     refine JO_q (QE_mv rfl) rfl ?_
     refine JO_q (QE_as rfl) rfl ?_
     refine JO_q (QE_as rfl) rfl ?_
     refine JO_q (QE_as rfl) rfl ?_
     refine JO_nil ?_
     refine thenQ_n ?_
     refine JC_ret ?_
     refine retQ_mk [] L (.inr rfl) (.tmp rfl (.tmp rfl (.tmp rfl (.nil)))) rfl (Le.refl (D := D) _) (fun sR hS2 => ?_)
     exact ⟨by simp_all [resV, usesT, usesX, usesY], rfl⟩
    ·
     refine JC_seq ?_
     refine JC_region ?_
     refine JO_q (QE_eq rfl rfl) rfl ?_
     refine JO_q (QE_as rfl) rfl ?_
     refine JO_nil ?_
     refine thenQ_n ?_
     refine JC_ifD rfl (fun c22 => ?_) (fun c22 => ?_)
     ·
      refine JC_region ?_
      refine JO_q (QE_as rfl) rfl ?_
      refine JO_q (QE_as rfl) rfl ?_
      refine JO_nil ?_
      refine blockQ_n ?_
      refine thenQ_n ?_
      refine JC_seq ?_
      refine JC_region ?_
      refine JO_q (QE_mv rfl) rfl ?_
      refine JO_q (QE_mv rfl) rfl ?_
      refine JO_q (QE_mv rfl) rfl ?_
      refine JO_q (QE_as rfl) rfl ?_
      refine JO_q (QE_as rfl) rfl ?_
      refine JO_q (QE_as rfl) rfl ?_
      refine JO_nil ?_
      refine thenQ_n ?_
      refine JC_ret ?_
      refine retQ_mk [] L (.inr rfl) (.tmp rfl (.tmp rfl (.tmp rfl (.nil)))) rfl (Le.refl (D := D) _) (fun sR hS2 => ?_)
      exact ⟨by simp_all [resV, usesT, usesX, usesY], rfl⟩
     ·
      refine JC_seq ?_
      refine JC_seq ?_
      refine JC_region ?_
      refine JO_q (QE_eq rfl rfl) rfl ?_
      refine JO_q (QE_as rfl) rfl ?_
      refine JO_nil ?_
      refine thenQ_n ?_
      refine JC_ifD rfl (fun c23 => ?_) (fun c23 => ?_)
      ·
       refine JC_skip ?_
       refine thenQ_n ?_
       refine JC_ifD rfl (fun c24 => ?_) (fun c24 => ?_)
       ·
        refine JC_region ?_
        refine JO_q (QE_as rfl) rfl ?_
        refine JO_nil ?_
        refine blockQ_n ?_
        refine thenQ_n ?_
        refine JC_seq ?_
        refine JC_region ?_
        refine JO_q (QE_mv rfl) rfl ?_
        refine JO_q (QE_mv rfl) rfl ?_
        refine JO_q (QE_mv rfl) rfl ?_
        refine JO_q (QE_as rfl) rfl ?_
        refine JO_q (QE_as rfl) rfl ?_
        refine JO_q (QE_as rfl) rfl ?_
        refine JO_nil ?_
        refine thenQ_n ?_
        refine JC_ret ?_
        refine retQ_mk [] L (.inr rfl) (.tmp rfl (.tmp rfl (.tmp rfl (.nil)))) rfl (Le.refl (D := D) _) (fun sR hS2 => ?_)
        exact ⟨by simp_all [resV, usesT, usesX, usesY], rfl⟩
       ·
        refine JC_skip ?_
        refine blockQ_n ?_
        refine thenQ_n ?_
        refine JC_seq ?_
        refine JC_region ?_
        refine JO_q (QE_mv rfl) rfl ?_
        refine JO_q (QE_mv rfl) rfl ?_
        refine JO_q (QE_mv rfl) rfl ?_
        refine JO_q (QE_as rfl) rfl ?_
        refine JO_q (QE_as rfl) rfl ?_
        refine JO_q (QE_as rfl) rfl ?_
        refine JO_nil ?_
        refine thenQ_n ?_
        refine JC_ret ?_
        refine retQ_mk [] L (.inr rfl) (.tmp rfl (.tmp rfl (.tmp rfl (.nil)))) rfl (Le.refl (D := D) _) (fun sR hS2 => ?_)
        exact ⟨by simp_all [resV, usesT, usesX, usesY], rfl⟩
      ·
       refine JC_region ?_
       refine JO_q (QE_eq rfl rfl) rfl ?_
       refine JO_q (QE_as rfl) rfl ?_
       refine JO_nil ?_
       refine thenQ_n ?_
       refine JC_ifD rfl (fun c25 => ?_) (fun c25 => ?_)
       ·
        refine JC_region ?_
        refine JO_q (QE_as rfl) rfl ?_
        refine JO_nil ?_
        refine blockQ_n ?_
        refine thenQ_n ?_
        refine JC_seq ?_
        refine JC_region ?_
        refine JO_q (QE_mv rfl) rfl ?_
        refine JO_q (QE_mv rfl) rfl ?_
        refine JO_q (QE_mv rfl) rfl ?_
        refine JO_q (QE_as rfl) rfl ?_
        refine JO_q (QE_as rfl) rfl ?_
        refine JO_q (QE_as rfl) rfl ?_
        refine JO_nil ?_
        refine thenQ_n ?_
        refine JC_ret ?_
        refine retQ_mk [] L (.inr rfl) (.tmp rfl (.tmp rfl (.tmp rfl (.nil)))) rfl (Le.refl (D := D) _) (fun sR hS2 => ?_)
        exact ⟨by simp_all [resV, usesT, usesX, usesY], rfl⟩
       ·
        refine JC_skip ?_
        refine blockQ_n ?_
        refine thenQ_n ?_
        refine JC_seq ?_
        refine JC_region ?_
        refine JO_q (QE_mv rfl) rfl ?_
        refine JO_q (QE_mv rfl) rfl ?_
        refine JO_q (QE_mv rfl) rfl ?_
        refine JO_q (QE_as rfl) rfl ?_
        refine JO_q (QE_as rfl) rfl ?_
        refine JO_q (QE_as rfl) rfl ?_
        refine JO_nil ?_
        refine thenQ_n ?_
        refine JC_ret ?_
        refine retQ_mk [] L (.inr rfl) (.tmp rfl (.tmp rfl (.tmp rfl (.nil)))) rfl (Le.refl (D := D) _) (fun sR hS2 => ?_)
        exact ⟨by simp_all [resV, usesT, usesX, usesY], rfl⟩
set_option maxHeartbeats 1000000 in
set_option maxRecDepth 100000 in
theorem validTerm_ac (D : Nat) (L : Hl) (s : World) (x : Tm) (u o : Bool) : AC Tryz.prog D 97 [.agg #[.int .i64 x.kind, .int .u32 x.val], .bool u, .bool o] L s fun v L' _ => v = .bool (termB x u o) ∧ L = L' := by
 refine AC_enter (TT := TT) (fn := Tryz.f97) TT_ok Tryz.func97 (by kernel_rfl) rfl Tryz.ntmps97 rfl (rs := [.tmp 6]) rfl [(0, _), (1, _), (2, _)] rfl ?_
 refine JC_seq ?_
 refine JC_region ?_
 refine JO_boxA rfl rfl ?_
 intro β1 s1 h1
 refine JO_q (QE_as rfl) rfl ?_
 refine JO_nil ?_
 refine thenQ_n ?_
 refine JC_seq ?_
 refine JC_block ?_
 refine JC_seq ?_
 refine JC_region ?_
 refine JO_q (QE_mv rfl) rfl ?_
 refine JO_q (QE_not rfl) rfl ?_
 refine JO_q (QE_as rfl) rfl ?_
 refine JO_nil ?_
 refine thenQ_n ?_
 refine JC_ifM rfl (fun c2 => ?_) (fun c2 => ?_)
 ·
  refine JC_seq ?_
  refine JC_region ?_
  refine JO_q (QE_ldA 0 [_, _] rfl rfl rfl rfl rfl) rfl ?_
  refine JO_q (QE_build [] [_, _] rfl rfl rfl rfl rfl rfl) rfl ?_
  refine JO_q (QE_aeq rfl rfl (eqTerm _ _ _ _)) rfl ?_
  refine JO_q (QE_as rfl) rfl ?_
  refine JO_nil ?_
  refine thenQ_n ?_
  refine JC_ret ?_
  refine blockQ_r ?_
  refine thenQ_r ?_
  refine retQ_mk [_] L (.inr rfl) (.tmp rfl (.nil)) rfl h1 (fun sR hS2 => ?_)
  exact ⟨by simp_all [resV, termB], rfl⟩
 ·
  refine JC_seq ?_
  refine JC_region ?_
  refine JO_q (QE_fa0 rfl rfl rfl rfl) rfl ?_
  refine JO_q (QE_ld1 0 rfl rfl rfl rfl rfl) rfl ?_
  refine JO_q (QE_eq rfl rfl) rfl ?_
  refine JO_q (QE_as rfl) rfl ?_
  refine JO_nil ?_
  refine thenQ_n ?_
  refine JC_ifD rfl (fun c3 => ?_) (fun c3 => ?_)
  ·
   refine JC_seq ?_
   refine JC_region ?_
   refine JO_q (QE_as rfl) rfl ?_
   refine JO_nil ?_
   refine thenQ_n ?_
   refine JC_ret ?_
   refine blockQ_r ?_
   refine thenQ_r ?_
   refine retQ_mk [_] L (.inr rfl) (.tmp rfl (.nil)) rfl h1 (fun sR hS2 => ?_)
   exact ⟨by simp_all [resV, termB], rfl⟩
  ·
   refine JC_seq ?_
   refine JC_region ?_
   refine JO_q (QE_fa0 rfl rfl rfl rfl) rfl ?_
   refine JO_q (QE_ld1 0 rfl rfl rfl rfl rfl) rfl ?_
   refine JO_q (QE_eq rfl rfl) rfl ?_
   refine JO_q (QE_as rfl) rfl ?_
   refine JO_nil ?_
   refine thenQ_n ?_
   refine JC_ifD rfl (fun c4 => ?_) (fun c4 => ?_)
   ·
    refine JC_seq ?_
    refine JC_region ?_
    refine JO_q (QE_faB rfl rfl rfl rfl) rfl ?_
    refine JO_q (QE_ld1 0 rfl rfl rfl rfl rfl) rfl ?_
    refine JO_q (QE_le rfl rfl) rfl ?_
    refine JO_q (QE_as rfl) rfl ?_
    refine JO_nil ?_
    refine thenQ_n ?_
    refine JC_ret ?_
    refine blockQ_r ?_
    refine thenQ_r ?_
    refine retQ_mk [_] L (.inr rfl) (.tmp rfl (.nil)) rfl h1 (fun sR hS2 => ?_)
    exact ⟨by simp_all [resV, termB], rfl⟩
   ·
    refine JC_skip ?_
    refine blockQ_n ?_
    refine thenQ_n ?_
    refine JC_seq ?_
    refine JC_region ?_
    refine JO_q (QE_fa0 rfl rfl rfl rfl) rfl ?_
    refine JO_q (QE_ld1 0 rfl rfl rfl rfl rfl) rfl ?_
    refine JO_q (QE_eq rfl rfl) rfl ?_
    refine JO_q (QE_mv rfl) rfl ?_
    refine JO_caseD (t := 27) rfl (fun c5 => ?_) (fun c5 => ?_)
    ·
     refine JO_gT rfl rfl ?_
     refine JO_q (QE_faB rfl rfl rfl rfl) rfl ?_
     refine JO_gT rfl rfl ?_
     refine JO_q (QE_ld1 0 rfl rfl rfl rfl rfl) rfl ?_
     refine JO_gT rfl rfl ?_
     refine JO_q (QE_eq rfl rfl) rfl ?_
     refine JO_q (QE_pickT rfl rfl) rfl ?_
     refine JO_q (QE_mv rfl) rfl ?_
     refine JO_caseD (t := 32) rfl (fun c6 => ?_) (fun c6 => ?_)
     ·
      refine JO_gT rfl rfl ?_
      refine JO_q (QE_mv rfl) rfl ?_
      refine JO_q (QE_pickT rfl rfl) rfl ?_
      refine JO_q (QE_as rfl) rfl ?_
      refine JO_nil ?_
      refine thenQ_n ?_
      refine JC_ret ?_
      refine retQ_mk [_] L (.inr rfl) (.tmp rfl (.nil)) rfl h1 (fun sR hS2 => ?_)
      exact ⟨by simp_all [resV, termB], rfl⟩
     ·
      refine JO_gF rfl rfl rfl rfl ?_
      refine JO_q (QE_pickF rfl rfl) rfl ?_
      refine JO_q (QE_as rfl) rfl ?_
      refine JO_nil ?_
      refine thenQ_n ?_
      refine JC_ret ?_
      refine retQ_mk [_] L (.inr rfl) (.tmp rfl (.nil)) rfl h1 (fun sR hS2 => ?_)
      exact ⟨by simp_all [resV, termB], rfl⟩
    ·
     refine JO_gF rfl rfl rfl rfl ?_
     refine JO_gF rfl rfl rfl rfl ?_
     refine JO_gF rfl rfl rfl rfl ?_
     refine JO_q (QE_pickF rfl rfl) rfl ?_
     refine JO_q (QE_mv rfl) rfl ?_
     refine JO_gF rfl rfl rfl rfl ?_
     refine JO_q (QE_pickF rfl rfl) rfl ?_
     refine JO_q (QE_as rfl) rfl ?_
     refine JO_nil ?_
     refine thenQ_n ?_
     refine JC_ret ?_
     refine retQ_mk [_] L (.inr rfl) (.tmp rfl (.nil)) rfl h1 (fun sR hS2 => ?_)
     exact ⟨by simp_all [resV, termB], rfl⟩
set_option maxHeartbeats 1000000 in
set_option maxRecDepth 100000 in
theorem checkAction_ac (D : Nat) (L : Hl) (s : World) (a : Ac) (o : Bool) : AC Tryz.prog D 76 [.agg #[.int .i64 a.kind, .int .i64 a.tgt, .int .i64 a.x.kind, .int .u32 a.x.val, .int .i64 a.y.kind, .int .u32 a.y.val], .bool o] L s fun v L' _ => v = .int .i64 (actCode a o) ∧ L = L' := by
 refine AC_enter (TT := TT) (fn := Tryz.f76) TT_ok Tryz.func76 (by kernel_rfl) rfl Tryz.ntmps76 rfl (rs := [.tmp 4]) rfl [(0, _), (1, _)] rfl ?_
 refine JC_seq ?_
 refine JC_region ?_
 refine JO_boxA rfl rfl ?_
 intro β1 s1 h1
 refine JO_q (QE_as rfl) rfl ?_
 refine JO_nil ?_
 refine thenQ_n ?_
 refine JC_seq ?_
 refine JC_block ?_
 refine JC_seq ?_
 refine JC_region ?_
 refine JO_q (QE_fa0 rfl rfl rfl rfl) rfl ?_
 refine JO_q (QE_ld1 0 rfl rfl rfl rfl rfl) rfl ?_
 refine JO_q (QE_lt rfl rfl) rfl ?_
 refine JO_q (QE_mv rfl) rfl ?_
 refine JO_caseD (t := 12) rfl (fun c2 => ?_) (fun c2 => ?_)
 ·
  refine JO_gF rfl rfl rfl rfl ?_
  refine JO_gF rfl rfl rfl rfl ?_
  refine JO_gF rfl rfl rfl rfl ?_
  refine JO_q (QE_pickT rfl rfl) rfl ?_
  refine JO_q (QE_as rfl) rfl ?_
  refine JO_nil ?_
  refine thenQ_n ?_
  refine JC_ifT rfl ?_
  refine JC_seq ?_
  refine JC_region ?_
  refine JO_q (QE_as rfl) rfl ?_
  refine JO_nil ?_
  refine thenQ_n ?_
  refine JC_ret ?_
  refine blockQ_r ?_
  refine thenQ_r ?_
  refine retQ_mk [_] L (.inr rfl) (.tmp rfl (.nil)) rfl h1 (fun sR hS2 => ?_)
  exact ⟨by (try simp_all [resV, actCode]) <;> grind, rfl⟩
 ·
  refine JO_gT rfl rfl ?_
  refine JO_q (QE_fa0 rfl rfl rfl rfl) rfl ?_
  refine JO_gT rfl rfl ?_
  refine JO_q (QE_ld1 0 rfl rfl rfl rfl rfl) rfl ?_
  refine JO_gT rfl rfl ?_
  refine JO_q (QE_ge rfl rfl) rfl ?_
  refine JO_q (QE_pickF rfl rfl) rfl ?_
  refine JO_q (QE_as rfl) rfl ?_
  refine JO_nil ?_
  refine thenQ_n ?_
  refine JC_ifD rfl (fun c3 => ?_) (fun c3 => ?_)
  ·
   refine JC_seq ?_
   refine JC_region ?_
   refine JO_q (QE_as rfl) rfl ?_
   refine JO_nil ?_
   refine thenQ_n ?_
   refine JC_ret ?_
   refine blockQ_r ?_
   refine thenQ_r ?_
   refine retQ_mk [_] L (.inr rfl) (.tmp rfl (.nil)) rfl h1 (fun sR hS2 => ?_)
   exact ⟨by (try simp_all [resV, actCode]) <;> grind, rfl⟩
  ·
   refine JC_seq ?_
   refine JC_region ?_
   refine JO_q (QE_faB rfl rfl rfl rfl) rfl ?_
   refine JO_q (QE_ld1 0 rfl rfl rfl rfl rfl) rfl ?_
   refine JO_q (QE_lt rfl rfl) rfl ?_
   refine JO_q (QE_mv rfl) rfl ?_
   refine JO_caseD (t := 21) rfl (fun c4 => ?_) (fun c4 => ?_)
   ·
    refine JO_gF rfl rfl rfl rfl ?_
    refine JO_gF rfl rfl rfl rfl ?_
    refine JO_gF rfl rfl rfl rfl ?_
    refine JO_q (QE_pickT rfl rfl) rfl ?_
    refine JO_q (QE_as rfl) rfl ?_
    refine JO_nil ?_
    refine thenQ_n ?_
    refine JC_ifT rfl ?_
    refine JC_seq ?_
    refine JC_region ?_
    refine JO_q (QE_as rfl) rfl ?_
    refine JO_nil ?_
    refine thenQ_n ?_
    refine JC_ret ?_
    refine blockQ_r ?_
    refine thenQ_r ?_
    refine retQ_mk [_] L (.inr rfl) (.tmp rfl (.nil)) rfl h1 (fun sR hS2 => ?_)
    exact ⟨by (try simp_all [resV, actCode]) <;> grind, rfl⟩
   ·
    refine JO_gT rfl rfl ?_
    refine JO_q (QE_faB rfl rfl rfl rfl) rfl ?_
    refine JO_gT rfl rfl ?_
    refine JO_q (QE_ld1 0 rfl rfl rfl rfl rfl) rfl ?_
    refine JO_gT rfl rfl ?_
    refine JO_q (QE_gt rfl rfl) rfl ?_
    refine JO_q (QE_pickF rfl rfl) rfl ?_
    refine JO_q (QE_as rfl) rfl ?_
    refine JO_nil ?_
    refine thenQ_n ?_
    refine JC_ifD rfl (fun c5 => ?_) (fun c5 => ?_)
    ·
     refine JC_seq ?_
     refine JC_region ?_
     refine JO_q (QE_as rfl) rfl ?_
     refine JO_nil ?_
     refine thenQ_n ?_
     refine JC_ret ?_
     refine blockQ_r ?_
     refine thenQ_r ?_
     refine retQ_mk [_] L (.inr rfl) (.tmp rfl (.nil)) rfl h1 (fun sR hS2 => ?_)
     exact ⟨by (try simp_all [resV, actCode]) <;> grind, rfl⟩
    ·
     refine JC_skip ?_
     refine blockQ_n ?_
     refine thenQ_n ?_
     refine JC_seq ?_
     refine JC_region ?_
     refine JO_q (QE_fa0 rfl rfl rfl rfl) rfl ?_
     refine JO_q (QE_ld1 0 rfl rfl rfl rfl rfl) rfl ?_
     refine JO_call (first := []) (captured := []) rfl rfl rfl (uses_ac D _ _ _) ?_
     rintro _ _ s6 h6 ⟨rfl, rfl⟩
     refine JO_q (QE_mv rfl) rfl ?_
     refine JO_q (QE_ext rfl rfl) rfl ?_
     refine JO_q (QE_ext rfl rfl) rfl ?_
     refine JO_q (QE_ext rfl rfl) rfl ?_
     refine JO_q (QE_as rfl) rfl ?_
     refine JO_q (QE_as rfl) rfl ?_
     refine JO_q (QE_as rfl) rfl ?_
     refine JO_nil ?_
     refine thenQ_n ?_
     refine JC_seq ?_
     refine JC_seq ?_
     refine JC_region ?_
     refine JO_q (QE_mv rfl) rfl ?_
     refine JO_q (QE_not rfl) rfl ?_
     refine JO_q (QE_mv rfl) rfl ?_
     refine JO_caseM (t := 35) rfl (fun c7 => ?_) (fun c7 => ?_)
     ·
      refine JO_gT rfl rfl ?_
      refine JO_q (QE_faB rfl rfl rfl rfl) rfl ?_
      refine JO_gT rfl rfl ?_
      refine JO_q (QE_ld1 0 rfl rfl rfl rfl rfl) rfl ?_
      refine JO_gT rfl rfl ?_
      refine JO_q (QE_ne rfl rfl) rfl ?_
      refine JO_q (QE_pickT rfl rfl) rfl ?_
      refine JO_q (QE_mv rfl) rfl ?_
      refine JO_caseN (t := 40) rfl (fun c8 => ?_) (fun c8 => ?_)
      ·
       refine JO_gF rfl rfl rfl rfl ?_
       refine JO_gF rfl rfl rfl rfl ?_
       refine JO_gF rfl rfl rfl rfl ?_
       refine JO_gF rfl rfl rfl rfl ?_
       refine JO_gF rfl rfl rfl rfl ?_
       refine JO_gF rfl rfl rfl rfl ?_
       refine JO_q (QE_pickT rfl rfl) rfl ?_
       refine JO_q (QE_mv rfl) rfl ?_
       refine JO_gF rfl rfl rfl rfl ?_
       refine JO_gF rfl rfl rfl rfl ?_
       refine JO_gF rfl rfl rfl rfl ?_
       refine JO_gF rfl rfl rfl rfl ?_
       refine JO_gF rfl rfl rfl rfl ?_
       refine JO_gF rfl rfl rfl rfl ?_
       refine JO_q (QE_pickT rfl rfl) rfl ?_
       refine JO_nil ?_
       refine thenQ_n ?_
       refine JC_ifT rfl ?_
       refine JC_seq ?_
       refine JC_region ?_
       refine JO_q (QE_as rfl) rfl ?_
       refine JO_nil ?_
       refine thenQ_n ?_
       refine JC_ret ?_
       refine thenQ_r ?_
       refine retQ_mk [_] L (.inr rfl) (.tmp rfl (.nil)) rfl (Le.trans h1 h6) (fun sR hS2 => ?_)
       exact ⟨by (try simp_all [resV, actCode]) <;> grind, rfl⟩
      ·
       refine JO_gT rfl rfl ?_
       refine JO_q (QE_faB rfl rfl rfl rfl) rfl ?_
       refine JO_gT rfl rfl ?_
       refine JO_q (QE_ldA 0 [_, _] rfl rfl rfl rfl rfl) rfl ?_
       refine JO_gT rfl rfl ?_
       refine JO_q (QE_mv rfl) rfl ?_
       refine JO_gT rfl rfl ?_
       refine JO_q (QE_mv rfl) rfl ?_
       refine JO_gT rfl rfl ?_
       refine JO_call (first := []) (captured := []) rfl rfl rfl (validTerm_ac D _ _ _ _ _) ?_
       rintro _ _ s9 h9 ⟨rfl, rfl⟩
       refine JO_gT rfl rfl ?_
       refine JO_q (QE_not rfl) rfl ?_
       refine JO_q (QE_pickF rfl rfl) rfl ?_
       refine JO_q (QE_mv rfl) rfl ?_
       refine JO_caseM (t := 48) rfl (fun c10 => ?_) (fun c10 => ?_)
       ·
        refine JO_gF rfl rfl rfl rfl ?_
        refine JO_gF rfl rfl rfl rfl ?_
        refine JO_gF rfl rfl rfl rfl ?_
        refine JO_gF rfl rfl rfl rfl ?_
        refine JO_gF rfl rfl rfl rfl ?_
        refine JO_gF rfl rfl rfl rfl ?_
        refine JO_q (QE_pickT rfl rfl) rfl ?_
        refine JO_nil ?_
        refine thenQ_n ?_
        refine JC_ifT rfl ?_
        refine JC_seq ?_
        refine JC_region ?_
        refine JO_q (QE_as rfl) rfl ?_
        refine JO_nil ?_
        refine thenQ_n ?_
        refine JC_ret ?_
        refine thenQ_r ?_
        refine retQ_mk [_] L (.inr rfl) (.tmp rfl (.nil)) rfl (Le.trans (Le.trans h1 h6) h9) (fun sR hS2 => ?_)
        exact ⟨by (try simp_all [resV, actCode]) <;> grind, rfl⟩
       ·
        refine JO_gT rfl rfl ?_
        refine JO_q (QE_faB rfl rfl rfl rfl) rfl ?_
        refine JO_gT rfl rfl ?_
        refine JO_q (QE_ldA 0 [_, _] rfl rfl rfl rfl rfl) rfl ?_
        refine JO_gT rfl rfl ?_
        refine JO_q (QE_mv rfl) rfl ?_
        refine JO_gT rfl rfl ?_
        refine JO_q (QE_mv rfl) rfl ?_
        refine JO_gT rfl rfl ?_
        refine JO_call (first := []) (captured := []) rfl rfl rfl (validTerm_ac D _ _ _ _ _) ?_
        rintro _ _ s11 h11 ⟨rfl, rfl⟩
        refine JO_gT rfl rfl ?_
        refine JO_q (QE_not rfl) rfl ?_
        refine JO_q (QE_pickF rfl rfl) rfl ?_
        refine JO_nil ?_
        refine thenQ_n ?_
        refine JC_ifM rfl (fun c12 => ?_) (fun c12 => ?_)
        ·
         refine JC_seq ?_
         refine JC_region ?_
         refine JO_q (QE_as rfl) rfl ?_
         refine JO_nil ?_
         refine thenQ_n ?_
         refine JC_ret ?_
         refine thenQ_r ?_
         refine retQ_mk [_] L (.inr rfl) (.tmp rfl (.nil)) rfl (Le.trans (Le.trans (Le.trans h1 h6) h9) h11) (fun sR hS2 => ?_)
         exact ⟨by (try simp_all [resV, actCode]) <;> grind, rfl⟩
        ·
         refine JC_skip ?_
         refine thenQ_n ?_
         refine JC_seq ?_
         refine JC_region ?_
         refine JO_q (QE_as rfl) rfl ?_
         refine JO_nil ?_
         refine thenQ_n ?_
         refine JC_ret ?_
         refine retQ_mk [_] L (.inr rfl) (.tmp rfl (.nil)) rfl (Le.trans (Le.trans (Le.trans h1 h6) h9) h11) (fun sR hS2 => ?_)
         exact ⟨by (try simp_all [resV, actCode]) <;> grind, rfl⟩
     ·
      refine JO_gF rfl rfl rfl rfl ?_
      refine JO_gF rfl rfl rfl rfl ?_
      refine JO_gF rfl rfl rfl rfl ?_
      refine JO_q (QE_pickF rfl rfl) rfl ?_
      refine JO_q (QE_mv rfl) rfl ?_
      refine JO_gT rfl rfl ?_
      refine JO_q (QE_faB rfl rfl rfl rfl) rfl ?_
      refine JO_gT rfl rfl ?_
      refine JO_q (QE_ldA 0 [_, _] rfl rfl rfl rfl rfl) rfl ?_
      refine JO_gT rfl rfl ?_
      refine JO_q (QE_mv rfl) rfl ?_
      refine JO_gT rfl rfl ?_
      refine JO_q (QE_mv rfl) rfl ?_
      refine JO_gT rfl rfl ?_
      refine JO_call (first := []) (captured := []) rfl rfl rfl (validTerm_ac D _ _ _ _ _) ?_
      rintro _ _ s13 h13 ⟨rfl, rfl⟩
      refine JO_gT rfl rfl ?_
      refine JO_q (QE_not rfl) rfl ?_
      refine JO_q (QE_pickF rfl rfl) rfl ?_
      refine JO_q (QE_mv rfl) rfl ?_
      refine JO_caseM (t := 48) rfl (fun c14 => ?_) (fun c14 => ?_)
      ·
       refine JO_gF rfl rfl rfl rfl ?_
       refine JO_gF rfl rfl rfl rfl ?_
       refine JO_gF rfl rfl rfl rfl ?_
       refine JO_gF rfl rfl rfl rfl ?_
       refine JO_gF rfl rfl rfl rfl ?_
       refine JO_gF rfl rfl rfl rfl ?_
       refine JO_q (QE_pickT rfl rfl) rfl ?_
       refine JO_nil ?_
       refine thenQ_n ?_
       refine JC_ifT rfl ?_
       refine JC_seq ?_
       refine JC_region ?_
       refine JO_q (QE_as rfl) rfl ?_
       refine JO_nil ?_
       refine thenQ_n ?_
       refine JC_ret ?_
       refine thenQ_r ?_
       refine retQ_mk [_] L (.inr rfl) (.tmp rfl (.nil)) rfl (Le.trans (Le.trans h1 h6) h13) (fun sR hS2 => ?_)
       exact ⟨by (try simp_all [resV, actCode]) <;> grind, rfl⟩
      ·
       refine JO_gT rfl rfl ?_
       refine JO_q (QE_faB rfl rfl rfl rfl) rfl ?_
       refine JO_gT rfl rfl ?_
       refine JO_q (QE_ldA 0 [_, _] rfl rfl rfl rfl rfl) rfl ?_
       refine JO_gT rfl rfl ?_
       refine JO_q (QE_mv rfl) rfl ?_
       refine JO_gT rfl rfl ?_
       refine JO_q (QE_mv rfl) rfl ?_
       refine JO_gT rfl rfl ?_
       refine JO_call (first := []) (captured := []) rfl rfl rfl (validTerm_ac D _ _ _ _ _) ?_
       rintro _ _ s15 h15 ⟨rfl, rfl⟩
       refine JO_gT rfl rfl ?_
       refine JO_q (QE_not rfl) rfl ?_
       refine JO_q (QE_pickF rfl rfl) rfl ?_
       refine JO_nil ?_
       refine thenQ_n ?_
       refine JC_ifM rfl (fun c16 => ?_) (fun c16 => ?_)
       ·
        refine JC_seq ?_
        refine JC_region ?_
        refine JO_q (QE_as rfl) rfl ?_
        refine JO_nil ?_
        refine thenQ_n ?_
        refine JC_ret ?_
        refine thenQ_r ?_
        refine retQ_mk [_] L (.inr rfl) (.tmp rfl (.nil)) rfl (Le.trans (Le.trans (Le.trans h1 h6) h13) h15) (fun sR hS2 => ?_)
        exact ⟨by (try simp_all [resV, actCode]) <;> grind, rfl⟩
       ·
        refine JC_skip ?_
        refine thenQ_n ?_
        refine JC_seq ?_
        refine JC_region ?_
        refine JO_q (QE_as rfl) rfl ?_
        refine JO_nil ?_
        refine thenQ_n ?_
        refine JC_ret ?_
        refine retQ_mk [_] L (.inr rfl) (.tmp rfl (.nil)) rfl (Le.trans (Le.trans (Le.trans h1 h6) h13) h15) (fun sR hS2 => ?_)
        exact ⟨by (try simp_all [resV, actCode]) <;> grind, rfl⟩
set_option maxHeartbeats 1000000 in
set_option maxRecDepth 100000 in
theorem isMnemonic_ac (D : Nat) (L : Hl) (s : World) (l : List UInt8) : AC Tryz.prog D 75 [St l] L s fun v L' _ => v = .bool (mnemB l) ∧ L = L' := by
 refine AC_enter (TT := TT) (fn := Tryz.f75) TT_ok Tryz.func75 (by kernel_rfl) rfl Tryz.ntmps75 rfl (rs := [.tmp 2]) rfl [(0, _)] rfl ?_
 refine JC_seq ?_
 refine JC_region ?_
 refine JO_q (QE_as rfl) rfl ?_
 refine JO_nil ?_
 refine thenQ_n ?_
 refine JC_seq ?_
 refine JC_seq ?_
 refine JC_region ?_
 refine JO_q (QE_mv rfl) rfl ?_
 refine JO_q (QE_seq rfl rfl) rfl ?_
 refine JO_q (QE_mv rfl) rfl ?_
 refine JO_caseD (t := 8) rfl (fun c1 => ?_) (fun c1 => ?_)
 ·
  refine JO_gF rfl rfl rfl rfl ?_
  refine JO_gF rfl rfl rfl rfl ?_
  refine JO_gF rfl rfl rfl rfl ?_
  refine JO_q (QE_pickT rfl rfl) rfl ?_
  refine JO_q (QE_mv rfl) rfl ?_
  refine JO_gF rfl rfl rfl rfl ?_
  refine JO_gF rfl rfl rfl rfl ?_
  refine JO_q (QE_pickT rfl rfl) rfl ?_
  refine JO_q (QE_mv rfl) rfl ?_
  refine JO_gF rfl rfl rfl rfl ?_
  refine JO_gF rfl rfl rfl rfl ?_
  refine JO_q (QE_pickT rfl rfl) rfl ?_
  refine JO_nil ?_
  refine thenQ_n ?_
  refine JC_ifT rfl ?_
  refine JC_seq ?_
  refine JC_region ?_
  refine JO_q (QE_as rfl) rfl ?_
  refine JO_nil ?_
  refine thenQ_n ?_
  refine JC_ret ?_
  refine thenQ_r ?_
  refine retQ_mk [] L (.inr rfl) (.tmp rfl (.nil)) rfl (Le.refl (D := D) _) (fun sR hS2 => ?_)
  refine ⟨?_, rfl⟩
  simp [resV, mnemB, labelB, *]; done
 ·
  refine JO_gT rfl rfl ?_
  refine JO_q (QE_mv rfl) rfl ?_
  refine JO_gT rfl rfl ?_
  refine JO_q (QE_lenT rfl rfl rfl) rfl ?_
  refine JO_gT rfl rfl ?_
  refine JO_q (QE_gt rfl rfl) rfl ?_
  refine JO_q (QE_pickF rfl rfl) rfl ?_
  refine JO_q (QE_mv rfl) rfl ?_
  refine JO_caseD (t := 13) rfl (fun c2 => ?_) (fun c2 => ?_)
  ·
   refine JO_gF rfl rfl rfl rfl ?_
   refine JO_gF rfl rfl rfl rfl ?_
   refine JO_q (QE_pickT rfl rfl) rfl ?_
   refine JO_q (QE_mv rfl) rfl ?_
   refine JO_gF rfl rfl rfl rfl ?_
   refine JO_gF rfl rfl rfl rfl ?_
   refine JO_q (QE_pickT rfl rfl) rfl ?_
   refine JO_nil ?_
   refine thenQ_n ?_
   refine JC_ifT rfl ?_
   refine JC_seq ?_
   refine JC_region ?_
   refine JO_q (QE_as rfl) rfl ?_
   refine JO_nil ?_
   refine thenQ_n ?_
   refine JC_ret ?_
   refine thenQ_r ?_
   refine retQ_mk [] L (.inr rfl) (.tmp rfl (.nil)) rfl (Le.refl (D := D) _) (fun sR hS2 => ?_)
   refine ⟨?_, rfl⟩
   have h6 : ¬ l.length ≤ 6 := by omega
   simp [resV, mnemB, labelB, h6]; done
  ·
   refine JO_gT rfl rfl ?_
   refine JO_q (QE_mv rfl) rfl ?_
   refine JO_gT rfl rfl ?_
   refine JO_q (QE_seq rfl rfl) rfl ?_
   refine JO_q (QE_pickF rfl rfl) rfl ?_
   refine JO_q (QE_mv rfl) rfl ?_
   refine JO_caseD (t := 17) rfl (fun c3 => ?_) (fun c3 => ?_)
   ·
    refine JO_gF rfl rfl rfl rfl ?_
    refine JO_gF rfl rfl rfl rfl ?_
    refine JO_q (QE_pickT rfl rfl) rfl ?_
    refine JO_nil ?_
    refine thenQ_n ?_
    refine JC_ifT rfl ?_
    refine JC_seq ?_
    refine JC_region ?_
    refine JO_q (QE_as rfl) rfl ?_
    refine JO_nil ?_
    refine thenQ_n ?_
    refine JC_ret ?_
    refine thenQ_r ?_
    refine retQ_mk [] L (.inr rfl) (.tmp rfl (.nil)) rfl (Le.refl (D := D) _) (fun sR hS2 => ?_)
    refine ⟨?_, rfl⟩
    simp [resV, mnemB, labelB, *]; done
   ·
    refine JO_gT rfl rfl ?_
    refine JO_q (QE_mv rfl) rfl ?_
    refine JO_gT rfl rfl ?_
    refine JO_q (QE_seq rfl rfl) rfl ?_
    refine JO_q (QE_pickF rfl rfl) rfl ?_
    refine JO_nil ?_
    refine thenQ_n ?_
    refine JC_ifD rfl (fun c4 => ?_) (fun c4 => ?_)
    ·
     refine JC_seq ?_
     refine JC_region ?_
     refine JO_q (QE_as rfl) rfl ?_
     refine JO_nil ?_
     refine thenQ_n ?_
     refine JC_ret ?_
     refine thenQ_r ?_
     refine retQ_mk [] L (.inr rfl) (.tmp rfl (.nil)) rfl (Le.refl (D := D) _) (fun sR hS2 => ?_)
     refine ⟨?_, rfl⟩
     simp [resV, mnemB, labelB, *]; done
    ·
     refine JC_skip ?_
     refine thenQ_n ?_
     refine JC_seq ?_
     refine JC_seq ?_
     refine JC_region ?_
     refine JO_q (QE_mv rfl) rfl ?_
     refine JO_q (QE_lenT rfl rfl rfl) rfl ?_
     refine JO_q (QE_mv rfl) rfl ?_
     refine JO_nil ?_
     refine thenQ_n ?_
     refine JC_block ?_
     refine JC_loop (γ := Nat) (fun k => [(0, _), (2, _), (22, _), (23, .int .i64 (k : Int))]) (fun _ => _) (fun k tw => Le D s tw ∧ (k ≤ l.length ∧ ∀ i c, i < k → l[i]? = some c → chOK i c = true)) (fun k => l.length - k) (fun _ _ _ h hl => ⟨h.1.trans hl, h.2⟩) 0 (Keeps.cons rfl (Keeps.cons rfl (Keeps.cons rfl (Keeps.cons rfl (Keeps.nil _))))) rfl ⟨Le.refl _, ⟨Nat.zero_le _, fun i c hi => by omega⟩⟩ ?_
     intro k s5 I5
     have hk0 := I5.2.1
     have hI := I5.2.2
     refine JC_seq ?_
     refine JC_region ?_
     refine JO_q (QE_lt rfl rfl) rfl ?_
     refine JO_nil ?_
     refine thenQ_n ?_
     refine JC_seq ?_
     refine JC_ifD rfl (fun c6 => ?_) (fun c6 => ?_)
     ·
      have hk : k < l.length := by omega
      obtain ⟨ch, hch⟩ : ∃ ch, l[k]? = some ch := ⟨_, List.getElem?_eq_getElem hk⟩
      refine JC_skip ?_
      refine thenQ_n ?_
      refine JC_seq ?_
      refine JC_block ?_
      refine JC_seq ?_
      refine JC_region ?_
      refine JO_q (QE_mv rfl) rfl ?_
      refine JO_q (QE_as rfl) rfl ?_
      refine JO_nil ?_
      refine thenQ_n ?_
      refine JC_seq ?_
      refine JC_draw drawsMixed 22 rfl _ (fun _ h => h) ?_
      intro s7 h7
      refine JA_q 0 rfl (by kernel_rfl) (by kernel_rfl) (by kernel_rfl) trivial (QE_mv rfl) rfl ?_
      refine JA_q 1 rfl (by kernel_rfl) (by kernel_rfl) (by kernel_rfl) trivial (QE_mv rfl) rfl ?_
      refine JA_q 2 rfl (by kernel_rfl) (by kernel_rfl) (by kernel_rfl) trivial (QE_ix rfl rfl rfl rfl hch) rfl ?_
      refine JA_q 3 rfl (by kernel_rfl) (by kernel_rfl) (by kernel_rfl) trivial (QE_ge rfl rfl) rfl ?_
      refine JA_q 4 rfl (by kernel_rfl) (by kernel_rfl) (by kernel_rfl) trivial (QE_mv rfl) rfl ?_
      refine JA_caseD (t := 30) rfl (fun c8 => ?_) (fun c8 => ?_)
      ·
       refine JA_q 5 rfl (by kernel_rfl) (by kernel_rfl) (by kernel_rfl) ⟨_, rfl, rfl⟩ (QE_mv rfl) rfl ?_
       refine JA_q 6 rfl (by kernel_rfl) (by kernel_rfl) (by kernel_rfl) ⟨_, rfl, rfl⟩ (QE_mv rfl) rfl ?_
       refine JA_q 7 rfl (by kernel_rfl) (by kernel_rfl) (by kernel_rfl) ⟨_, rfl, rfl⟩ (QE_ix rfl rfl rfl rfl hch) rfl ?_
       refine JA_q 8 rfl (by kernel_rfl) (by kernel_rfl) (by kernel_rfl) ⟨_, rfl, rfl⟩ (QE_le rfl rfl) rfl ?_
       refine JA_q 9 rfl (by kernel_rfl) (by kernel_rfl) (by kernel_rfl) trivial (QE_pickT rfl rfl) rfl ?_
       refine JA_q 10 rfl (by kernel_rfl) (by kernel_rfl) (by kernel_rfl) trivial (QE_mv rfl) rfl ?_
       refine JA_q 11 rfl (by kernel_rfl) (by kernel_rfl) (by kernel_rfl) trivial (QE_mv rfl) rfl ?_
       refine JA_q 12 rfl (by kernel_rfl) (by kernel_rfl) (by kernel_rfl) trivial (QE_ix rfl rfl rfl rfl hch) rfl ?_
       refine JA_q 13 rfl (by kernel_rfl) (by kernel_rfl) (by kernel_rfl) trivial (QE_ge rfl rfl) rfl ?_
       refine JA_q 14 rfl (by kernel_rfl) (by kernel_rfl) (by kernel_rfl) trivial (QE_mv rfl) rfl ?_
       refine JA_caseD (t := 40) rfl (fun c9 => ?_) (fun c9 => ?_)
       ·
        refine JA_q 15 rfl (by kernel_rfl) (by kernel_rfl) (by kernel_rfl) ⟨_, rfl, rfl⟩ (QE_mv rfl) rfl ?_
        refine JA_q 16 rfl (by kernel_rfl) (by kernel_rfl) (by kernel_rfl) ⟨_, rfl, rfl⟩ (QE_mv rfl) rfl ?_
        refine JA_q 17 rfl (by kernel_rfl) (by kernel_rfl) (by kernel_rfl) ⟨_, rfl, rfl⟩ (QE_ix rfl rfl rfl rfl hch) rfl ?_
        refine JA_q 18 rfl (by kernel_rfl) (by kernel_rfl) (by kernel_rfl) ⟨_, rfl, rfl⟩ (QE_le rfl rfl) rfl ?_
        refine JA_q 19 rfl (by kernel_rfl) (by kernel_rfl) (by kernel_rfl) trivial (QE_pickT rfl rfl) rfl ?_
        refine JA_q 20 rfl (by kernel_rfl) (by kernel_rfl) (by kernel_rfl) trivial (QE_as rfl) rfl ?_
        refine JA_q 21 rfl (by kernel_rfl) (by kernel_rfl) (by kernel_rfl) trivial (QE_as rfl) rfl ?_
        refine JA_done (by kernel_rfl) ?_
        refine thenQ_n ?_
        refine JC_seq ?_
        refine JC_region ?_
        refine JO_q (QE_mv rfl) rfl ?_
        refine JO_q (QE_not rfl) rfl ?_
        refine JO_q (QE_mv rfl) rfl ?_
        refine JO_caseN (t := 48) rfl (fun c10 => ?_) (fun c10 => ?_)
        ·
         refine JO_gT rfl rfl ?_
         refine JO_q (QE_mv rfl) rfl ?_
         refine JO_gT rfl rfl ?_
         refine JO_q (QE_not rfl) rfl ?_
         refine JO_gT rfl rfl ?_
         refine JO_q (QE_mv rfl) rfl ?_
         refine JO_caseN (t := 51) rfl (fun c11 => ?_) (fun c11 => ?_)
         ·
          refine JO_gF rfl rfl rfl rfl ?_
          refine JO_gF rfl rfl rfl rfl ?_
          refine JO_gT rfl rfl ?_
          refine JO_q (QE_pickT rfl rfl) rfl ?_
          refine JO_q (QE_pickT rfl rfl) rfl ?_
          refine JO_nil ?_
          refine thenQ_n ?_
          refine JC_ifT rfl ?_
          refine JC_seq ?_
          refine JC_region ?_
          refine JO_q (QE_as rfl) rfl ?_
          refine JO_nil ?_
          refine thenQ_n ?_
          refine JC_ret ?_
          refine blockQ_r ?_
          refine thenQ_r ?_
          refine thenQ_r ?_
          refine blockQ_r ?_
          refine thenQ_r ?_
          refine retQ_mk [] L (.inr rfl) (.tmp rfl (.nil)) rfl (Le.trans I5.1 h7) (fun sR hS2 => ?_)
          refine ⟨?_, rfl⟩
          have hb : chOK k ch = false := by
            rw [Bool.eq_false_iff]; simp only [chOK, letB, digB, Bool.or_eq_true, Bool.and_eq_true, decide_eq_true_eq, ne_eq]; omega
          simp [resV, mnemB, labelB, chars_not hch hb]; done
         ·
          refine JO_gT rfl rfl ?_
          refine JO_q (QE_mv rfl) rfl ?_
          refine JO_gT rfl rfl ?_
          refine JO_q (QE_eq rfl rfl) rfl ?_
          refine JO_gT rfl rfl ?_
          refine JO_q (QE_pickF rfl rfl) rfl ?_
          refine JO_q (QE_pickT rfl rfl) rfl ?_
          refine JO_nil ?_
          refine thenQ_n ?_
          refine JC_ifD rfl (fun c12 => ?_) (fun c12 => ?_)
          ·
           refine JC_seq ?_
           refine JC_region ?_
           refine JO_q (QE_as rfl) rfl ?_
           refine JO_nil ?_
           refine thenQ_n ?_
           refine JC_ret ?_
           refine blockQ_r ?_
           refine thenQ_r ?_
           refine thenQ_r ?_
           refine blockQ_r ?_
           refine thenQ_r ?_
           refine retQ_mk [] L (.inr rfl) (.tmp rfl (.nil)) rfl (Le.trans I5.1 h7) (fun sR hS2 => ?_)
           refine ⟨?_, rfl⟩
           have hb : chOK k ch = false := by
             rw [Bool.eq_false_iff]; simp only [chOK, letB, digB, Bool.or_eq_true, Bool.and_eq_true, decide_eq_true_eq, ne_eq]; omega
           simp [resV, mnemB, labelB, chars_not hch hb]; done
          ·
           refine JC_skip ?_
           refine blockQ_n ?_
           refine thenQ_n ?_
           refine JC_region ?_
           refine JO_q (QE_add' rfl rfl (w64 (by omega) (by omega))) rfl ?_
           refine JO_q (QE_mv rfl) rfl ?_
           refine JO_nil ?_
           have hOK : chOK k ch = true := by simp only [chOK, letB, digB, Bool.or_eq_true, Bool.and_eq_true, decide_eq_true_eq, ne_eq]; omega
           refine thenQ_n ⟨(k + 1), [], (Keeps.cons rfl (Keeps.cons rfl (Keeps.cons rfl (Keeps.cons rfl (Keeps.nil _))))), rfl, ⟨(Le.trans I5.1 h7), ⟨by omega, below_succ hI hch hOK⟩⟩, (by omega)⟩
        ·
         refine JO_gF rfl rfl rfl rfl ?_
         refine JO_gF rfl rfl rfl rfl ?_
         refine JO_gF rfl rfl rfl rfl ?_
         refine JO_gU rfl rfl rfl ?_
         refine JO_gU rfl rfl rfl ?_
         refine JO_gF rfl rfl rfl rfl ?_
         refine JO_q (QE_pickF rfl rfl) rfl ?_
         refine JO_nil ?_
         refine thenQ_n ?_
         refine JC_ifF rfl ?_
         refine JC_skip ?_
         refine blockQ_n ?_
         refine thenQ_n ?_
         refine JC_region ?_
         refine JO_q (QE_add' rfl rfl (w64 (by omega) (by omega))) rfl ?_
         refine JO_q (QE_mv rfl) rfl ?_
         refine JO_nil ?_
         have hOK : chOK k ch = true := by simp only [chOK, letB, digB, Bool.or_eq_true, Bool.and_eq_true, decide_eq_true_eq, ne_eq]; omega
         refine thenQ_n ⟨(k + 1), [], (Keeps.cons rfl (Keeps.cons rfl (Keeps.cons rfl (Keeps.cons rfl (Keeps.nil _))))), rfl, ⟨(Le.trans I5.1 h7), ⟨by omega, below_succ hI hch hOK⟩⟩, (by omega)⟩
       ·
        refine JA_no 15 rfl (by kernel_rfl) (by kernel_rfl) (by kernel_rfl) rfl rfl rfl rfl ?_
        refine JA_no 16 rfl (by kernel_rfl) (by kernel_rfl) (by kernel_rfl) rfl rfl rfl rfl ?_
        refine JA_no 17 rfl (by kernel_rfl) (by kernel_rfl) (by kernel_rfl) rfl rfl rfl rfl ?_
        refine JA_no 18 rfl (by kernel_rfl) (by kernel_rfl) (by kernel_rfl) rfl rfl rfl rfl ?_
        refine JA_q 19 rfl (by kernel_rfl) (by kernel_rfl) (by kernel_rfl) trivial (QE_pickF rfl rfl) rfl ?_
        refine JA_q 20 rfl (by kernel_rfl) (by kernel_rfl) (by kernel_rfl) trivial (QE_as rfl) rfl ?_
        refine JA_q 21 rfl (by kernel_rfl) (by kernel_rfl) (by kernel_rfl) trivial (QE_as rfl) rfl ?_
        refine JA_done (by kernel_rfl) ?_
        refine thenQ_n ?_
        refine JC_seq ?_
        refine JC_region ?_
        refine JO_q (QE_mv rfl) rfl ?_
        refine JO_q (QE_not rfl) rfl ?_
        refine JO_q (QE_mv rfl) rfl ?_
        refine JO_caseN (t := 48) rfl (fun c13 => ?_) (fun c13 => ?_)
        ·
         refine JO_gT rfl rfl ?_
         refine JO_q (QE_mv rfl) rfl ?_
         refine JO_gT rfl rfl ?_
         refine JO_q (QE_notF rfl) rfl ?_
         refine JO_gT rfl rfl ?_
         refine JO_q (QE_mv rfl) rfl ?_
         refine JO_gF rfl rfl rfl rfl ?_
         refine JO_gF rfl rfl rfl rfl ?_
         refine JO_gT rfl rfl ?_
         refine JO_q (QE_pickT rfl rfl) rfl ?_
         refine JO_q (QE_pickT rfl rfl) rfl ?_
         refine JO_nil ?_
         refine thenQ_n ?_
         refine JC_ifT rfl ?_
         refine JC_seq ?_
         refine JC_region ?_
         refine JO_q (QE_as rfl) rfl ?_
         refine JO_nil ?_
         refine thenQ_n ?_
         refine JC_ret ?_
         refine blockQ_r ?_
         refine thenQ_r ?_
         refine thenQ_r ?_
         refine blockQ_r ?_
         refine thenQ_r ?_
         refine retQ_mk [] L (.inr rfl) (.tmp rfl (.nil)) rfl (Le.trans I5.1 h7) (fun sR hS2 => ?_)
         refine ⟨?_, rfl⟩
         have hb : chOK k ch = false := by
           rw [Bool.eq_false_iff]; simp only [chOK, letB, digB, Bool.or_eq_true, Bool.and_eq_true, decide_eq_true_eq, ne_eq]; omega
         simp [resV, mnemB, labelB, chars_not hch hb]; done
        ·
         refine JO_gF rfl rfl rfl rfl ?_
         refine JO_gF rfl rfl rfl rfl ?_
         refine JO_gF rfl rfl rfl rfl ?_
         refine JO_gU rfl rfl rfl ?_
         refine JO_gU rfl rfl rfl ?_
         refine JO_gF rfl rfl rfl rfl ?_
         refine JO_q (QE_pickF rfl rfl) rfl ?_
         refine JO_nil ?_
         refine thenQ_n ?_
         refine JC_ifF rfl ?_
         refine JC_skip ?_
         refine blockQ_n ?_
         refine thenQ_n ?_
         refine JC_region ?_
         refine JO_q (QE_add' rfl rfl (w64 (by omega) (by omega))) rfl ?_
         refine JO_q (QE_mv rfl) rfl ?_
         refine JO_nil ?_
         have hOK : chOK k ch = true := by simp only [chOK, letB, digB, Bool.or_eq_true, Bool.and_eq_true, decide_eq_true_eq, ne_eq]; omega
         refine thenQ_n ⟨(k + 1), [], (Keeps.cons rfl (Keeps.cons rfl (Keeps.cons rfl (Keeps.cons rfl (Keeps.nil _))))), rfl, ⟨(Le.trans I5.1 h7), ⟨by omega, below_succ hI hch hOK⟩⟩, (by omega)⟩
      ·
       refine JA_no 5 rfl (by kernel_rfl) (by kernel_rfl) (by kernel_rfl) rfl rfl rfl rfl ?_
       refine JA_no 6 rfl (by kernel_rfl) (by kernel_rfl) (by kernel_rfl) rfl rfl rfl rfl ?_
       refine JA_no 7 rfl (by kernel_rfl) (by kernel_rfl) (by kernel_rfl) rfl rfl rfl rfl ?_
       refine JA_no 8 rfl (by kernel_rfl) (by kernel_rfl) (by kernel_rfl) rfl rfl rfl rfl ?_
       refine JA_q 9 rfl (by kernel_rfl) (by kernel_rfl) (by kernel_rfl) trivial (QE_pickF rfl rfl) rfl ?_
       refine JA_q 10 rfl (by kernel_rfl) (by kernel_rfl) (by kernel_rfl) trivial (QE_mv rfl) rfl ?_
       refine JA_q 11 rfl (by kernel_rfl) (by kernel_rfl) (by kernel_rfl) trivial (QE_mv rfl) rfl ?_
       refine JA_q 12 rfl (by kernel_rfl) (by kernel_rfl) (by kernel_rfl) trivial (QE_ix rfl rfl rfl rfl hch) rfl ?_
       refine JA_q 13 rfl (by kernel_rfl) (by kernel_rfl) (by kernel_rfl) trivial (QE_ge rfl rfl) rfl ?_
       refine JA_q 14 rfl (by kernel_rfl) (by kernel_rfl) (by kernel_rfl) trivial (QE_mv rfl) rfl ?_
       refine JA_caseD (t := 40) rfl (fun c14 => ?_) (fun c14 => ?_)
       ·
        refine JA_q 15 rfl (by kernel_rfl) (by kernel_rfl) (by kernel_rfl) ⟨_, rfl, rfl⟩ (QE_mv rfl) rfl ?_
        refine JA_q 16 rfl (by kernel_rfl) (by kernel_rfl) (by kernel_rfl) ⟨_, rfl, rfl⟩ (QE_mv rfl) rfl ?_
        refine JA_q 17 rfl (by kernel_rfl) (by kernel_rfl) (by kernel_rfl) ⟨_, rfl, rfl⟩ (QE_ix rfl rfl rfl rfl hch) rfl ?_
        refine JA_q 18 rfl (by kernel_rfl) (by kernel_rfl) (by kernel_rfl) ⟨_, rfl, rfl⟩ (QE_le rfl rfl) rfl ?_
        refine JA_q 19 rfl (by kernel_rfl) (by kernel_rfl) (by kernel_rfl) trivial (QE_pickT rfl rfl) rfl ?_
        refine JA_q 20 rfl (by kernel_rfl) (by kernel_rfl) (by kernel_rfl) trivial (QE_as rfl) rfl ?_
        refine JA_q 21 rfl (by kernel_rfl) (by kernel_rfl) (by kernel_rfl) trivial (QE_as rfl) rfl ?_
        refine JA_done (by kernel_rfl) ?_
        refine thenQ_n ?_
        refine JC_seq ?_
        refine JC_region ?_
        refine JO_q (QE_mv rfl) rfl ?_
        refine JO_q (QE_notF rfl) rfl ?_
        refine JO_q (QE_mv rfl) rfl ?_
        refine JO_gT rfl rfl ?_
        refine JO_q (QE_mv rfl) rfl ?_
        refine JO_gT rfl rfl ?_
        refine JO_q (QE_not rfl) rfl ?_
        refine JO_gT rfl rfl ?_
        refine JO_q (QE_mv rfl) rfl ?_
        refine JO_caseN (t := 51) rfl (fun c15 => ?_) (fun c15 => ?_)
        ·
         refine JO_gF rfl rfl rfl rfl ?_
         refine JO_gF rfl rfl rfl rfl ?_
         refine JO_gT rfl rfl ?_
         refine JO_q (QE_pickT rfl rfl) rfl ?_
         refine JO_q (QE_pickT rfl rfl) rfl ?_
         refine JO_nil ?_
         refine thenQ_n ?_
         refine JC_ifT rfl ?_
         refine JC_seq ?_
         refine JC_region ?_
         refine JO_q (QE_as rfl) rfl ?_
         refine JO_nil ?_
         refine thenQ_n ?_
         refine JC_ret ?_
         refine blockQ_r ?_
         refine thenQ_r ?_
         refine thenQ_r ?_
         refine blockQ_r ?_
         refine thenQ_r ?_
         refine retQ_mk [] L (.inr rfl) (.tmp rfl (.nil)) rfl (Le.trans I5.1 h7) (fun sR hS2 => ?_)
         refine ⟨?_, rfl⟩
         have hb : chOK k ch = false := by
           rw [Bool.eq_false_iff]; simp only [chOK, letB, digB, Bool.or_eq_true, Bool.and_eq_true, decide_eq_true_eq, ne_eq]; omega
         simp [resV, mnemB, labelB, chars_not hch hb]; done
        ·
         refine JO_gT rfl rfl ?_
         refine JO_q (QE_mv rfl) rfl ?_
         refine JO_gT rfl rfl ?_
         refine JO_q (QE_eq rfl rfl) rfl ?_
         refine JO_gT rfl rfl ?_
         refine JO_q (QE_pickF rfl rfl) rfl ?_
         refine JO_q (QE_pickT rfl rfl) rfl ?_
         refine JO_nil ?_
         refine thenQ_n ?_
         refine JC_ifD rfl (fun c16 => ?_) (fun c16 => ?_)
         ·
          refine JC_seq ?_
          refine JC_region ?_
          refine JO_q (QE_as rfl) rfl ?_
          refine JO_nil ?_
          refine thenQ_n ?_
          refine JC_ret ?_
          refine blockQ_r ?_
          refine thenQ_r ?_
          refine thenQ_r ?_
          refine blockQ_r ?_
          refine thenQ_r ?_
          refine retQ_mk [] L (.inr rfl) (.tmp rfl (.nil)) rfl (Le.trans I5.1 h7) (fun sR hS2 => ?_)
          refine ⟨?_, rfl⟩
          have hb : chOK k ch = false := by
            rw [Bool.eq_false_iff]; simp only [chOK, letB, digB, Bool.or_eq_true, Bool.and_eq_true, decide_eq_true_eq, ne_eq]; omega
          simp [resV, mnemB, labelB, chars_not hch hb]; done
         ·
          refine JC_skip ?_
          refine blockQ_n ?_
          refine thenQ_n ?_
          refine JC_region ?_
          refine JO_q (QE_add' rfl rfl (w64 (by omega) (by omega))) rfl ?_
          refine JO_q (QE_mv rfl) rfl ?_
          refine JO_nil ?_
          have hOK : chOK k ch = true := by simp only [chOK, letB, digB, Bool.or_eq_true, Bool.and_eq_true, decide_eq_true_eq, ne_eq]; omega
          refine thenQ_n ⟨(k + 1), [], (Keeps.cons rfl (Keeps.cons rfl (Keeps.cons rfl (Keeps.cons rfl (Keeps.nil _))))), rfl, ⟨(Le.trans I5.1 h7), ⟨by omega, below_succ hI hch hOK⟩⟩, (by omega)⟩
       ·
        refine JA_no 15 rfl (by kernel_rfl) (by kernel_rfl) (by kernel_rfl) rfl rfl rfl rfl ?_
        refine JA_no 16 rfl (by kernel_rfl) (by kernel_rfl) (by kernel_rfl) rfl rfl rfl rfl ?_
        refine JA_no 17 rfl (by kernel_rfl) (by kernel_rfl) (by kernel_rfl) rfl rfl rfl rfl ?_
        refine JA_no 18 rfl (by kernel_rfl) (by kernel_rfl) (by kernel_rfl) rfl rfl rfl rfl ?_
        refine JA_q 19 rfl (by kernel_rfl) (by kernel_rfl) (by kernel_rfl) trivial (QE_pickF rfl rfl) rfl ?_
        refine JA_q 20 rfl (by kernel_rfl) (by kernel_rfl) (by kernel_rfl) trivial (QE_as rfl) rfl ?_
        refine JA_q 21 rfl (by kernel_rfl) (by kernel_rfl) (by kernel_rfl) trivial (QE_as rfl) rfl ?_
        refine JA_done (by kernel_rfl) ?_
        refine thenQ_n ?_
        refine JC_seq ?_
        refine JC_region ?_
        refine JO_q (QE_mv rfl) rfl ?_
        refine JO_q (QE_notF rfl) rfl ?_
        refine JO_q (QE_mv rfl) rfl ?_
        refine JO_gT rfl rfl ?_
        refine JO_q (QE_mv rfl) rfl ?_
        refine JO_gT rfl rfl ?_
        refine JO_q (QE_notF rfl) rfl ?_
        refine JO_gT rfl rfl ?_
        refine JO_q (QE_mv rfl) rfl ?_
        refine JO_gF rfl rfl rfl rfl ?_
        refine JO_gF rfl rfl rfl rfl ?_
        refine JO_gT rfl rfl ?_
        refine JO_q (QE_pickT rfl rfl) rfl ?_
        refine JO_q (QE_pickT rfl rfl) rfl ?_
        refine JO_nil ?_
        refine thenQ_n ?_
        refine JC_ifT rfl ?_
        refine JC_seq ?_
        refine JC_region ?_
        refine JO_q (QE_as rfl) rfl ?_
        refine JO_nil ?_
        refine thenQ_n ?_
        refine JC_ret ?_
        refine blockQ_r ?_
        refine thenQ_r ?_
        refine thenQ_r ?_
        refine blockQ_r ?_
        refine thenQ_r ?_
        refine retQ_mk [] L (.inr rfl) (.tmp rfl (.nil)) rfl (Le.trans I5.1 h7) (fun sR hS2 => ?_)
        refine ⟨?_, rfl⟩
        have hb : chOK k ch = false := by
          rw [Bool.eq_false_iff]; simp only [chOK, letB, digB, Bool.or_eq_true, Bool.and_eq_true, decide_eq_true_eq, ne_eq]; omega
        simp [resV, mnemB, labelB, chars_not hch hb]; done
     ·
      refine JC_exit ?_
      refine thenQ_x ?_
      refine thenQ_x ?_
      refine blockQ_x ?_
      refine thenQ_n ?_
      refine JC_seq ?_
      refine JC_region ?_
      refine JO_q (QE_as rfl) rfl ?_
      refine JO_nil ?_
      refine thenQ_n ?_
      refine JC_ret ?_
      refine retQ_mk [] L (.inr rfl) (.tmp rfl (.nil)) rfl I5.1 (fun sR hS2 => ?_)
      refine ⟨?_, rfl⟩
      have hb := chars_all (fun i c hi hc => hI i c (by omega) hc)
      have h6 : l.length ≤ 6 := by omega
      simp [resV, mnemB, labelB, hb, h6, *]; done
set_option maxHeartbeats 1000000 in
set_option maxRecDepth 100000 in
theorem checkInstruction_ac (D : Nat) (L : Hl) (s : World) (x : Ins) (A : Option Addr) (n c : Nat) (hA : Acs s A n c x.acts) : AC Tryz.prog D 45 [.agg #[St x.name, .int .u32 x.code, .bool x.operand, .slice A n c]] L s fun v L' _ => v = .int .i64 (insCode x) ∧ L = L' := by
 have hn := hA.1
 have hc1 := hA.2.1
 have hc2 := hA.2.2.1
 refine AC_enter (TT := TT) (fn := Tryz.f45) TT_ok Tryz.func45 (by kernel_rfl) rfl Tryz.ntmps45 rfl (rs := [.tmp 2]) rfl [(0, _)] rfl ?_
 refine JC_seq ?_
 refine JC_region ?_
 refine JO_boxA rfl rfl ?_
 intro β1 s1 h1
 refine JO_q (QE_as rfl) rfl ?_
 refine JO_nil ?_
 refine thenQ_n ?_
 refine JC_seq ?_
 refine JC_block ?_
 refine JC_seq ?_
 refine JC_region ?_
 refine JO_q (QE_fa0 rfl rfl rfl rfl) rfl ?_
 refine JO_q (QE_ld1 0 rfl rfl rfl rfl rfl) rfl ?_
 refine JO_call (first := []) (captured := []) rfl rfl rfl (isMnemonic_ac D _ _ _) ?_
 rintro _ _ s2 h2 ⟨rfl, rfl⟩
 refine JO_q (QE_not rfl) rfl ?_
 refine JO_q (QE_as rfl) rfl ?_
 refine JO_nil ?_
 refine thenQ_n ?_
 refine JC_ifM rfl (fun c3 => ?_) (fun c3 => ?_)
 ·
  refine JC_seq ?_
  refine JC_region ?_
  refine JO_q (QE_as rfl) rfl ?_
  refine JO_nil ?_
  refine thenQ_n ?_
  refine JC_ret ?_
  refine blockQ_r ?_
  refine thenQ_r ?_
  refine retQ_mk [_] L (.inr rfl) (.tmp rfl (.nil)) rfl (Le.trans h1 h2) (fun sR hS2 => ?_)
  refine ⟨?_, rfl⟩
  simp [resV, insCode, *]; done
 ·
  refine JC_seq ?_
  refine JC_region ?_
  refine JO_q (QE_faB rfl rfl rfl rfl) rfl ?_
  refine JO_q (QE_ld1 0 rfl rfl rfl rfl rfl) rfl ?_
  refine JO_q (QE_lenS rfl rfl rfl) rfl ?_
  refine JO_q (QE_gt rfl rfl) rfl ?_
  refine JO_q (QE_as rfl) rfl ?_
  refine JO_nil ?_
  refine thenQ_n ?_
  refine JC_ifD rfl (fun c4 => ?_) (fun c4 => ?_)
  ·
   refine JC_seq ?_
   refine JC_region ?_
   refine JO_q (QE_as rfl) rfl ?_
   refine JO_nil ?_
   refine thenQ_n ?_
   refine JC_ret ?_
   refine blockQ_r ?_
   refine thenQ_r ?_
   refine retQ_mk [_] L (.inr rfl) (.tmp rfl (.nil)) rfl (Le.trans h1 h2) (fun sR hS2 => ?_)
   refine ⟨?_, rfl⟩
   have h8 : 8 < x.acts.length := by omega
   simp [resV, insCode, h8, *]; done
  ·
   refine JC_skip ?_
   refine blockQ_n ?_
   refine thenQ_n ?_
   refine JC_seq ?_
   refine JC_seq ?_
   refine JC_region ?_
   refine JO_q (QE_faB rfl rfl rfl rfl) rfl ?_
   refine JO_q (QE_ld1 0 rfl rfl rfl rfl rfl) rfl ?_
   refine JO_q (QE_lenS rfl rfl rfl) rfl ?_
   refine JO_q (QE_mv rfl) rfl ?_
   refine JO_nil ?_
   refine thenQ_n ?_
   refine JC_block ?_
   refine JC_loop (γ := Nat) (fun k => [(1, _), (2, _), (17, _), (18, _), (19, .int .i64 (k : Int))]) (fun _ => _) (fun k tw => Le D s2 tw ∧ (k ≤ n ∧ ∀ i a, i < k → x.acts[i]? = some a → actCode a x.operand = 0)) (fun k => n - k) (fun _ _ _ h hl => ⟨h.1.trans hl, h.2⟩) 0 (Keeps.cons rfl (Keeps.cons rfl (Keeps.cons rfl (Keeps.cons rfl (Keeps.cons rfl (Keeps.nil _)))))) rfl ⟨Le.refl _, ⟨Nat.zero_le _, fun i c hi => by omega⟩⟩ ?_
   intro k s5 I5
   have hk0 := I5.2.1
   have hI := I5.2.2
   refine JC_seq ?_
   refine JC_region ?_
   refine JO_q (QE_lt rfl rfl) rfl ?_
   refine JO_nil ?_
   refine thenQ_n ?_
   refine JC_seq ?_
   refine JC_ifD rfl (fun c6 => ?_) (fun c6 => ?_)
   ·
    have hk : k < n := by omega
    obtain ⟨b, off, a, rfl, ha, hca, hau⟩ := Acs.at_ (hA.le (Le.trans (Le.trans h1 h2) I5.1)) hk
    refine JC_skip ?_
    refine thenQ_n ?_
    refine JC_seq ?_
    refine JC_block ?_
    refine JC_seq ?_
    refine JC_region ?_
    refine JO_q (QE_iaN rfl rfl rfl rfl rfl rfl hk) rfl ?_
    refine JO_q (QE_ldsA rfl rfl rfl hca rfl) rfl ?_
    refine JO_allocZ rfl [_, _, _, _, _, _] rfl rfl ?_
    intro β7 s7 h7
    refine JO_st 0 [_, _, _, _, _, _] rfl rfl rfl rfl rfl rfl rfl rfl rfl ?_
    refine JO_nil ?_
    refine thenQ_n ?_
    refine JC_seq ?_
    refine JC_region ?_
    refine JO_q (QE_ldA 0 [_, _, _, _, _, _] rfl rfl rfl rfl rfl) rfl ?_
    refine JO_q (QE_faB rfl rfl rfl rfl) rfl ?_
    refine JO_q (QE_ld1 1 rfl rfl rfl rfl rfl) rfl ?_
    refine JO_call (first := []) (captured := []) rfl rfl rfl (checkAction_ac D _ _ _ _) ?_
    rintro _ _ s8 h8 ⟨rfl, rfl⟩
    refine JO_q (QE_as rfl) rfl ?_
    refine JO_nil ?_
    refine thenQ_n ?_
    refine JC_seq ?_
    refine JC_region ?_
    refine JO_q (QE_mv rfl) rfl ?_
    refine JO_q (QE_ne rfl rfl) rfl ?_
    refine JO_nil ?_
    refine thenQ_n ?_
    refine JC_ifN rfl (fun c9 => ?_) (fun c9 => ?_)
    ·
     have hz : actCode a x.operand ≠ 0 := by simpa using c9
     refine JC_seq ?_
     refine JC_region ?_
     refine JO_q (QE_mv rfl) rfl ?_
     refine JO_q (QE_as rfl) rfl ?_
     refine JO_nil ?_
     refine thenQ_n ?_
     refine JC_ret ?_
     refine blockQ_r ?_
     refine thenQ_r ?_
     refine thenQ_r ?_
     refine blockQ_r ?_
     refine thenQ_r ?_
     refine retQ_mk [_, _] L (.inr rfl) (.tmp rfl (.nil)) rfl (Le.trans (Le.trans (Le.trans (Le.trans h1 h2) I5.1) h7) h8) (fun sR hS2 => ?_)
     refine ⟨?_, rfl⟩
     have h8 : ¬ 8 < x.acts.length := by omega
     simp [resV, insCode, h8, firstNZ_hit hI ha hz, *]; done
    ·
     have hz : actCode a x.operand = 0 := by simpa using c9
     refine JC_skip ?_
     refine blockQ_n ?_
     refine thenQ_n ?_
     refine JC_region ?_
     refine JO_q (QE_add' rfl rfl (w64 (by omega) (by omega))) rfl ?_
     refine JO_q (QE_mv rfl) rfl ?_
     refine JO_nil ?_
     refine thenQ_n ⟨(k + 1), [_], (Keeps.cons rfl (Keeps.cons rfl (Keeps.cons rfl (Keeps.cons rfl (Keeps.cons rfl (Keeps.nil _)))))), rfl, ⟨(Le.trans (Le.trans I5.1 h7) h8), ⟨by omega, below_succ hI ha hz⟩⟩, (by omega)⟩
   ·
    refine JC_exit ?_
    refine thenQ_x ?_
    refine thenQ_x ?_
    refine blockQ_x ?_
    refine thenQ_n ?_
    refine JC_seq ?_
    refine JC_region ?_
    refine JO_q (QE_as rfl) rfl ?_
    refine JO_nil ?_
    refine thenQ_n ?_
    refine JC_ret ?_
    refine retQ_mk [_] L (.inr rfl) (.tmp rfl (.nil)) rfl (Le.trans (Le.trans h1 h2) I5.1) (fun sR hS2 => ?_)
    refine ⟨?_, rfl⟩
    have h8 : ¬ 8 < x.acts.length := by omega
    simp [resV, insCode, h8, firstNZ_none (fun i a hi h => hI i a (by omega) h), *]; done
set_option maxHeartbeats 1000000 in
set_option maxRecDepth 100000 in
theorem validate1_ac (D : Nat) (L : Hl) (s : World) (x y : Ins) (A A' : Option Addr) (n c n' c' β : Nat) : AC Tryz.prog D 47 [.agg #[St y.name, .int .u32 y.code, .bool y.operand, .slice A' n' c'], .pointer (some ⟨β, 0, none⟩)] ((β, cb [St x.name, .int .u32 x.code, .bool x.operand, .slice A n c] 63) :: L) s fun v L' _ => v = .bool (sameKey x y) ∧ (β, cb [St x.name, .int .u32 x.code, .bool x.operand, .slice A n c] 63) :: L = L' := by
 refine AC_enter (TT := TT) (fn := Tryz.f47) TT_ok Tryz.func47 (by kernel_rfl) rfl Tryz.ntmps47 rfl (rs := [.tmp 3]) rfl [(0, _), (1, _)] rfl ?_
 refine JC_seq ?_
 refine JC_region ?_
 refine JO_boxA rfl rfl ?_
 intro β1 s1 h1
 refine JO_q (QE_as rfl) rfl ?_
 refine JO_nil ?_
 refine thenQ_n ?_
 refine JC_seq ?_
 refine JC_region ?_
 refine JO_q (QE_fa0 rfl rfl rfl rfl) rfl ?_
 refine JO_q (QE_ld1 1 rfl rfl rfl rfl rfl) rfl ?_
 refine JO_q (QE_fa0 rfl rfl rfl rfl) rfl ?_
 refine JO_q (QE_ld1 0 rfl rfl rfl rfl rfl) rfl ?_
 refine JO_q (QE_seq rfl rfl) rfl ?_
 refine JO_q (QE_mv rfl) rfl ?_
 refine JO_caseD (t := 9) rfl (fun c2 => ?_) (fun c2 => ?_)
 ·
  refine JO_gF rfl rfl rfl rfl ?_
  refine JO_gF rfl rfl rfl rfl ?_
  refine JO_gF rfl rfl rfl rfl ?_
  refine JO_gF rfl rfl rfl rfl ?_
  refine JO_gF rfl rfl rfl rfl ?_
  refine JO_q (QE_pickT rfl rfl) rfl ?_
  refine JO_q (QE_as rfl) rfl ?_
  refine JO_nil ?_
  refine thenQ_n ?_
  refine JC_ret ?_
  refine retQ_mk [_] ((β, cb [St x.name, .int .u32 x.code, .bool x.operand, .slice A n c] 63) :: L) (.inr rfl) (.tmp rfl (.nil)) rfl h1 (fun sR hS2 => ?_)
  exact ⟨by simp_all [resV, sameKey], rfl⟩
 ·
  refine JO_gT rfl rfl ?_
  refine JO_q (QE_faB rfl rfl rfl rfl) rfl ?_
  refine JO_gT rfl rfl ?_
  refine JO_q (QE_ld1 1 rfl rfl rfl rfl rfl) rfl ?_
  refine JO_gT rfl rfl ?_
  refine JO_q (QE_faB rfl rfl rfl rfl) rfl ?_
  refine JO_gT rfl rfl ?_
  refine JO_q (QE_ld1 0 rfl rfl rfl rfl rfl) rfl ?_
  refine JO_gT rfl rfl ?_
  refine JO_q (QE_eq rfl rfl) rfl ?_
  refine JO_q (QE_pickF rfl rfl) rfl ?_
  refine JO_q (QE_as rfl) rfl ?_
  refine JO_nil ?_
  refine thenQ_n ?_
  refine JC_ret ?_
  refine retQ_mk [_] ((β, cb [St x.name, .int .u32 x.code, .bool x.operand, .slice A n c] 63) :: L) (.inr rfl) (.tmp rfl (.nil)) rfl h1 (fun sR hS2 => ?_)
  exact ⟨by simp_all [resV, sameKey], rfl⟩
set_option maxHeartbeats 1000000 in
set_option maxRecDepth 100000 in
theorem indexFunc_ac (D : Nat) (L : Hl) (s : World) (A : Option Addr) (n c : Nat) (l : List Ins) (hA : Inss s A n c l) (f : FuncId) (cap : List Value) (p : Ins → Bool) (hp : ∀ s' x A' n' c', AC Tryz.prog D f ([.agg #[St x.name, .int .u32 x.code, .bool x.operand, .slice A' n' c']] ++ cap) L s' fun v L' _ => v = .bool (p x) ∧ L = L') : AC Tryz.prog D 77 [.slice A n c, .func (.func f) #[] cap.toArray] L s fun v L' _ => v = .int .i64 (idxOf p l 0) ∧ L = L' := by
 have hn := hA.1
 have hc1 := hA.2.1
 have hc2 := hA.2.2.1
 refine AC_enter (TT := TT) (fn := Tryz.f77) TT_ok Tryz.func77 (by kernel_rfl) rfl Tryz.ntmps77 rfl (rs := [.tmp 4]) rfl [(0, _), (1, _)] rfl ?_
 refine JC_seq ?_
 refine JC_region ?_
 refine JO_q (QE_as rfl) rfl ?_
 refine JO_nil ?_
 refine thenQ_n ?_
 refine JC_seq ?_
 refine JC_seq ?_
 refine JC_region ?_
 refine JO_q (QE_mv rfl) rfl ?_
 refine JO_q (QE_lenS rfl rfl rfl) rfl ?_
 refine JO_q (QE_mv rfl) rfl ?_
 refine JO_nil ?_
 refine thenQ_n ?_
 refine JC_block ?_
 refine JC_loop (γ := Nat) (fun k => [(0, _), (1, _), (4, _), (7, _), (8, .int .i64 (k : Int))]) (fun _ => _) (fun k tw => Le D s tw ∧ (k ≤ n ∧ ∀ i x, i < k → l[i]? = some x → p x = false)) (fun k => n - k) (fun _ _ _ h hl => ⟨h.1.trans hl, h.2⟩) 0 (Keeps.cons rfl (Keeps.cons rfl (Keeps.cons rfl (Keeps.cons rfl (Keeps.cons rfl (Keeps.nil _)))))) rfl ⟨Le.refl _, ⟨Nat.zero_le _, fun i c hi => by omega⟩⟩ ?_
 intro k s1 I1
 have hk0 := I1.2.1
 have hI := I1.2.2
 refine JC_seq ?_
 refine JC_region ?_
 refine JO_q (QE_lt rfl rfl) rfl ?_
 refine JO_nil ?_
 refine thenQ_n ?_
 refine JC_seq ?_
 refine JC_ifD rfl (fun c2 => ?_) (fun c2 => ?_)
 ·
  have hk : k < n := by omega
  obtain ⟨b, off, x, A', n', c', rfl, hx, hcx, hax, hnl, hcd⟩ := Inss.at_ (hA.le I1.1) hk
  refine JC_skip ?_
  refine thenQ_n ?_
  refine JC_seq ?_
  refine JC_block ?_
  refine JC_seq ?_
  refine JC_region ?_
  refine JO_q (QE_mv rfl) rfl ?_
  refine JO_q (QE_as rfl) rfl ?_
  refine JO_nil ?_
  refine thenQ_n ?_
  refine JC_seq ?_
  refine JC_region ?_
  refine JO_q (QE_mv rfl) rfl ?_
  refine JO_q (QE_mv rfl) rfl ?_
  refine JO_q (QE_mv rfl) rfl ?_
  refine JO_q (QE_iaN rfl rfl rfl rfl rfl rfl hk) rfl ?_
  refine JO_q (QE_ldsA rfl rfl rfl hcx rfl) rfl ?_
  refine JO_call (first := []) (captured := cap) rfl rfl rfl (hp _ x _ _ _) ?_
  rintro _ _ s3 h3 ⟨rfl, rfl⟩
  refine JO_nil ?_
  refine thenQ_n ?_
  refine JC_if rfl (fun c4 => ?_) (fun c4 => ?_)
  ·
   have hz := c4
   refine JC_seq ?_
   refine JC_region ?_
   refine JO_q (QE_mv rfl) rfl ?_
   refine JO_q (QE_as rfl) rfl ?_
   refine JO_nil ?_
   refine thenQ_n ?_
   refine JC_ret ?_
   refine blockQ_r ?_
   refine thenQ_r ?_
   refine thenQ_r ?_
   refine blockQ_r ?_
   refine thenQ_r ?_
   refine retQ_mk [] L (.inr rfl) (.tmp rfl (.nil)) rfl (Le.trans I1.1 h3) (fun sR hS2 => ?_)
   refine ⟨?_, rfl⟩
   simp [resV, idxOf_hit hI hx hz]; done
  ·
   have hz := c4
   refine JC_skip ?_
   refine blockQ_n ?_
   refine thenQ_n ?_
   refine JC_region ?_
   refine JO_q (QE_add' rfl rfl (w64 (by omega) (by omega))) rfl ?_
   refine JO_q (QE_mv rfl) rfl ?_
   refine JO_nil ?_
   refine thenQ_n ⟨(k + 1), [], (Keeps.cons rfl (Keeps.cons rfl (Keeps.cons rfl (Keeps.cons rfl (Keeps.cons rfl (Keeps.nil _)))))), rfl, ⟨(Le.trans I1.1 h3), ⟨by omega, below_succ hI hx hz⟩⟩, (by omega)⟩
 ·
  refine JC_exit ?_
  refine thenQ_x ?_
  refine thenQ_x ?_
  refine blockQ_x ?_
  refine thenQ_n ?_
  refine JC_seq ?_
  refine JC_region ?_
  refine JO_q (QE_as rfl) rfl ?_
  refine JO_nil ?_
  refine thenQ_n ?_
  refine JC_ret ?_
  refine retQ_mk [] L (.inr rfl) (.tmp rfl (.nil)) rfl I1.1 (fun sR hS2 => ?_)
  refine ⟨?_, rfl⟩
  simp [resV, idxOf_none (fun i a hi h => hI i a (by omega) h)]; done
set_option maxHeartbeats 1000000 in
set_option maxRecDepth 100000 in
theorem containsFunc_ac (D : Nat) (L : Hl) (s : World) (A : Option Addr) (n c : Nat) (l : List Ins) (hA : Inss s A n c l) (f : FuncId) (cap : List Value) (p : Ins → Bool) (hp : ∀ s' x A' n' c', AC Tryz.prog D f ([.agg #[St x.name, .int .u32 x.code, .bool x.operand, .slice A' n' c']] ++ cap) L s' fun v L' _ => v = .bool (p x) ∧ L = L') : AC Tryz.prog D 46 [.slice A n c, .func (.func f) #[] cap.toArray] L s fun v L' _ => v = .bool (l.any p) ∧ L = L' := by
 refine AC_enter (TT := TT) (fn := Tryz.f46) TT_ok Tryz.func46 (by kernel_rfl) rfl Tryz.ntmps46 rfl (rs := [.tmp 4]) rfl [(0, _), (1, _)] rfl ?_
 refine JC_seq ?_
 refine JC_region ?_
 refine JO_q (QE_as rfl) rfl ?_
 refine JO_nil ?_
 refine thenQ_n ?_
 refine JC_seq ?_
 refine JC_region ?_
 refine JO_q (QE_mv rfl) rfl ?_
 refine JO_q (QE_mv rfl) rfl ?_
 refine JO_call (first := []) (captured := []) rfl rfl rfl (indexFunc_ac D _ _ _ _ _ l hA f cap p hp) ?_
 rintro _ _ s1 h1 ⟨rfl, rfl⟩
 refine JO_q (QE_ge rfl rfl) rfl ?_
 refine JO_q (QE_as rfl) rfl ?_
 refine JO_nil ?_
 refine thenQ_n ?_
 refine JC_ret ?_
 refine retQ_mk [] L (.inr rfl) (.tmp rfl (.nil)) rfl h1 (fun sR hS2 => ?_)
 exact ⟨by simp only [resV, idxOf_any], rfl⟩
set_option maxHeartbeats 1000000 in
set_option maxRecDepth 100000 in
theorem validate_ac (D : Nat) (L : Hl) (s : World) (t : Tab) (A : Option Addr) (n c : Nat) (hA : Inss s A n c t.ins) : AC Tryz.prog D 25 [.agg #[.int .i64 t.cells, .slice A n c]] L s fun v L' _ => v = .agg #[.int .i64 (tabFault t).1, .int .i64 (tabFault t).2] ∧ L = L' := by
 have hn := hA.1
 have hc1 := hA.2.1
 have hc2 := hA.2.2.1
 refine AC_enter (TT := TT) (fn := Tryz.f25) TT_ok Tryz.func25 (by kernel_rfl) rfl Tryz.ntmps25 rfl (rs := [.cell 2 26]) rfl [(0, _)] rfl ?_
 refine JC_seq ?_
 refine JC_region ?_
 refine JO_boxA rfl rfl ?_
 intro β1 s1 h1
 refine JO_allocZ rfl [_, _] rfl rfl ?_
 intro β2 s2 h2
 refine JO_nil ?_
 refine thenQ_n ?_
 refine JC_seq ?_
 refine JC_block ?_
 refine JC_seq ?_
 refine JC_region ?_
 refine JO_q (QE_fa0 rfl rfl rfl rfl) rfl ?_
 refine JO_q (QE_ld1 1 rfl rfl rfl rfl rfl) rfl ?_
 refine JO_q (QE_lt rfl rfl) rfl ?_
 refine JO_q (QE_mv rfl) rfl ?_
 refine JO_caseD (t := 10) rfl (fun c3 => ?_) (fun c3 => ?_)
 ·
  refine JO_gF rfl rfl rfl rfl ?_
  refine JO_gF rfl rfl rfl rfl ?_
  refine JO_gF rfl rfl rfl rfl ?_
  refine JO_q (QE_pickT rfl rfl) rfl ?_
  refine JO_q (QE_as rfl) rfl ?_
  refine JO_nil ?_
  refine thenQ_n ?_
  refine JC_ifT rfl ?_
  refine JC_seq ?_
  refine JC_region ?_
  refine JO_call (first := []) (captured := []) rfl rfl rfl (fault_ac D _ _ _ _) ?_
  rintro _ _ s4 h4 ⟨rfl, rfl⟩
  refine JO_st 0 [_, _] rfl rfl rfl rfl rfl rfl rfl rfl rfl ?_
  refine JO_nil ?_
  refine thenQ_n ?_
  refine JC_ret ?_
  refine blockQ_r ?_
  refine thenQ_r ?_
  refine retQ_mk [_, _] L (.inr rfl) (.agg (us := [_, _]) 0 rfl rfl rfl rfl rfl (.nil)) rfl (Le.trans (Le.trans h1 h2) h4) (fun sR hS2 => ?_)
  refine ⟨?_, rfl⟩
  have h0 : t.cells < 1 ∨ 65536 < t.cells := by omega
  simp [resV, tabFault, h0]; done
 ·
  refine JO_gT rfl rfl ?_
  refine JO_q (QE_fa0 rfl rfl rfl rfl) rfl ?_
  refine JO_gT rfl rfl ?_
  refine JO_q (QE_ld1 1 rfl rfl rfl rfl rfl) rfl ?_
  refine JO_gT rfl rfl ?_
  refine JO_q (QE_gt rfl rfl) rfl ?_
  refine JO_q (QE_pickF rfl rfl) rfl ?_
  refine JO_q (QE_as rfl) rfl ?_
  refine JO_nil ?_
  refine thenQ_n ?_
  refine JC_ifD rfl (fun c5 => ?_) (fun c5 => ?_)
  ·
   refine JC_seq ?_
   refine JC_region ?_
   refine JO_call (first := []) (captured := []) rfl rfl rfl (fault_ac D _ _ _ _) ?_
   rintro _ _ s6 h6 ⟨rfl, rfl⟩
   refine JO_st 0 [_, _] rfl rfl rfl rfl rfl rfl rfl rfl rfl ?_
   refine JO_nil ?_
   refine thenQ_n ?_
   refine JC_ret ?_
   refine blockQ_r ?_
   refine thenQ_r ?_
   refine retQ_mk [_, _] L (.inr rfl) (.agg (us := [_, _]) 0 rfl rfl rfl rfl rfl (.nil)) rfl (Le.trans (Le.trans h1 h2) h6) (fun sR hS2 => ?_)
   refine ⟨?_, rfl⟩
   have h0 : t.cells < 1 ∨ 65536 < t.cells := by omega
   simp [resV, tabFault, h0]; done
  ·
   refine JC_seq ?_
   refine JC_region ?_
   refine JO_q (QE_faB rfl rfl rfl rfl) rfl ?_
   refine JO_q (QE_ld1 1 rfl rfl rfl rfl rfl) rfl ?_
   refine JO_q (QE_lenS rfl rfl rfl) rfl ?_
   refine JO_q (QE_gt rfl rfl) rfl ?_
   refine JO_q (QE_as rfl) rfl ?_
   refine JO_nil ?_
   refine thenQ_n ?_
   refine JC_ifD rfl (fun c7 => ?_) (fun c7 => ?_)
   ·
    refine JC_seq ?_
    refine JC_region ?_
    refine JO_call (first := []) (captured := []) rfl rfl rfl (fault_ac D _ _ _ _) ?_
    rintro _ _ s8 h8 ⟨rfl, rfl⟩
    refine JO_st 0 [_, _] rfl rfl rfl rfl rfl rfl rfl rfl rfl ?_
    refine JO_nil ?_
    refine thenQ_n ?_
    refine JC_ret ?_
    refine blockQ_r ?_
    refine thenQ_r ?_
    refine retQ_mk [_, _] L (.inr rfl) (.agg (us := [_, _]) 0 rfl rfl rfl rfl rfl (.nil)) rfl (Le.trans (Le.trans h1 h2) h8) (fun sR hS2 => ?_)
    refine ⟨?_, rfl⟩
    have h0 : ¬ (t.cells < 1 ∨ 65536 < t.cells) := by omega
    have h1 : 64 < t.ins.length := by omega
    simp [resV, tabFault, h0, h1]; done
   ·
    refine JC_skip ?_
    refine blockQ_n ?_
    refine thenQ_n ?_
    refine JC_seq ?_
    refine JC_seq ?_
    refine JC_region ?_
    refine JO_q (QE_faB rfl rfl rfl rfl) rfl ?_
    refine JO_q (QE_ld1 1 rfl rfl rfl rfl rfl) rfl ?_
    refine JO_q (QE_lenS rfl rfl rfl) rfl ?_
    refine JO_q (QE_mv rfl) rfl ?_
    refine JO_nil ?_
    refine thenQ_n ?_
    refine JC_block ?_
    refine JC_loop (γ := Nat) (fun k => [(1, _), (2, _), (23, _), (24, _), (25, .int .i64 (k : Int))]) (fun _ => _) (fun k tw => Le D s2 tw ∧ (k ≤ n ∧ ∀ i, i < k → rowCode t.ins i = 0)) (fun k => n - k) (fun _ _ _ h hl => ⟨h.1.trans hl, h.2⟩) 0 (Keeps.cons rfl (Keeps.cons rfl (Keeps.cons rfl (Keeps.cons rfl (Keeps.cons rfl (Keeps.nil _)))))) rfl ⟨Le.refl _, ⟨Nat.zero_le _, fun i hi => by omega⟩⟩ ?_
    intro k s9 I9
    have hk0 := I9.2.1
    have hI := I9.2.2
    refine JC_seq ?_
    refine JC_region ?_
    refine JO_q (QE_lt rfl rfl) rfl ?_
    refine JO_nil ?_
    refine thenQ_n ?_
    refine JC_seq ?_
    refine JC_ifD rfl (fun c10 => ?_) (fun c10 => ?_)
    ·
     have hk : k < n := by omega
     obtain ⟨b, off, x, A', n', c', rfl, hx, hcx, hax, hnl, hcd⟩ := Inss.at_ (hA.le (Le.trans (Le.trans h1 h2) I9.1)) hk
     refine JC_skip ?_
     refine thenQ_n ?_
     refine JC_seq ?_
     refine JC_block ?_
     refine JC_seq ?_
     refine JC_region ?_
     refine JO_q (QE_mv rfl) rfl ?_
     refine JO_q (QE_iaN rfl rfl rfl rfl rfl rfl hk) rfl ?_
     refine JO_q (QE_ldsA rfl rfl rfl hcx rfl) rfl ?_
     refine JO_allocZ rfl [_, _, _, _] rfl rfl ?_
     intro β11 s11 h11
     refine JO_q (QE_as rfl) rfl ?_
     refine JO_st 0 [_, _, _, _] rfl rfl rfl rfl rfl rfl rfl rfl rfl ?_
     refine JO_nil ?_
     refine thenQ_n ?_
     refine JC_seq ?_
     refine JC_seq ?_
     refine JC_region ?_
     refine JO_q (QE_ldA 0 [_, _, _, _] rfl rfl rfl rfl rfl) rfl ?_
     refine JO_call (first := []) (captured := []) rfl rfl rfl (checkInstruction_ac D _ _ _ _ _ _ (hax.le h11)) ?_
     rintro _ _ s12 h12 ⟨rfl, rfl⟩
     refine JO_q (QE_as rfl) rfl ?_
     refine JO_nil ?_
     refine thenQ_n ?_
     refine JC_seq ?_
     refine JC_region ?_
     refine JO_q (QE_mv rfl) rfl ?_
     refine JO_q (QE_ne rfl rfl) rfl ?_
     refine JO_nil ?_
     refine thenQ_n ?_
     refine JC_ifN rfl (fun c13 => ?_) (fun c13 => ?_)
     ·
      have hz : insCode x ≠ 0 := by simpa using c13
      refine JC_seq ?_
      refine JC_region ?_
      refine JO_q (QE_mv rfl) rfl ?_
      refine JO_q (QE_mv rfl) rfl ?_
      refine JO_call (first := []) (captured := []) rfl rfl rfl (fault_ac D _ _ _ _) ?_
      rintro _ _ s14 h14 ⟨rfl, rfl⟩
      refine JO_st 1 [_, _] rfl rfl rfl rfl rfl rfl rfl rfl rfl ?_
      refine JO_nil ?_
      refine thenQ_n ?_
      refine JC_ret ?_
      refine thenQ_r ?_
      refine blockQ_r ?_
      refine thenQ_r ?_
      refine thenQ_r ?_
      refine blockQ_r ?_
      refine thenQ_r ?_
      refine retQ_mk [_, _, _] L (.inr rfl) (.agg (us := [_, _]) 1 rfl rfl rfl rfl rfl (.nil)) rfl (Le.trans (Le.trans (Le.trans (Le.trans (Le.trans h1 h2) I9.1) h11) h12) h14) (fun sR hS2 => ?_)
      refine ⟨?_, rfl⟩
      have h0 : ¬ (t.cells < 1 ∨ 65536 < t.cells) := by omega
      have h1 : ¬ 64 < t.ins.length := by omega
      have hr : rowCode t.ins k = insCode x := by simp [rowCode, hx, hz]
      have hb := firstBad_hit (f := rowCode t.ins) (m := t.ins.length) (j := 0) (k := k) (fun i _ hi => hI i hi) (by omega) (by rw [hr]; exact hz) (by omega)
      simp [resV, tabFault, h0, h1, hb, hr]; done
     ·
      have hz : insCode x = 0 := by simpa using c13
      refine JC_skip ?_
      refine thenQ_n ?_
      refine JC_seq ?_
      refine JC_region ?_
      refine JO_q (QE_faB rfl rfl rfl rfl) rfl ?_
      refine JO_q (QE_ld1 2 rfl rfl rfl rfl rfl) rfl ?_
      refine JO_q (QE_mv rfl) rfl ?_
      refine JO_q (QE_slH rfl rfl rfl rfl rfl (by omega)) rfl ?_
      refine JO_q (QE_func rfl) rfl ?_
      refine JO_call (first := []) (captured := []) rfl rfl rfl (containsFunc_ac D _ _ _ _ _ (t.ins.take k) (Inss.take (hA.le (Le.trans (Le.trans (Le.trans (Le.trans h1 h2) I9.1) h11) h12)) hk) _ _ (sameKey x) (fun s' y A'' n'' c'' => validate1_ac D _ _ _ _ _ _ _ _ _ _ _)) ?_
      rintro _ _ s15 h15 ⟨rfl, rfl⟩
      refine JO_nil ?_
      refine thenQ_n ?_
      refine JC_if rfl (fun c16 => ?_) (fun c16 => ?_)
      ·
       have hy := c16
       refine JC_seq ?_
       refine JC_region ?_
       refine JO_q (QE_mv rfl) rfl ?_
       refine JO_call (first := []) (captured := []) rfl rfl rfl (fault_ac D _ _ _ _) ?_
       rintro _ _ s17 h17 ⟨rfl, rfl⟩
       refine JO_st 1 [_, _] rfl rfl rfl rfl rfl rfl rfl rfl rfl ?_
       refine JO_nil ?_
       refine thenQ_n ?_
       refine JC_ret ?_
       refine blockQ_r ?_
       refine thenQ_r ?_
       refine thenQ_r ?_
       refine blockQ_r ?_
       refine thenQ_r ?_
       refine retQ_mk [_, _, _] L (.inr rfl) (.agg (us := [_, _]) 1 rfl rfl rfl rfl rfl (.nil)) rfl (Le.trans (Le.trans (Le.trans (Le.trans (Le.trans (Le.trans h1 h2) I9.1) h11) h12) h15) h17) (fun sR hS2 => ?_)
       refine ⟨?_, rfl⟩
       have h0 : ¬ (t.cells < 1 ∨ 65536 < t.cells) := by omega
       have h1 : ¬ 64 < t.ins.length := by omega
       have hr : rowCode t.ins k = 8 := by simp [rowCode, hx, hz, hy]
       have hb := firstBad_hit (f := rowCode t.ins) (m := t.ins.length) (j := 0) (k := k) (fun i _ hi => hI i hi) (by omega) (by rw [hr]; decide) (by omega)
       simp [resV, tabFault, h0, h1, hb, hr]; done
      ·
       have hy := c16
       refine JC_skip ?_
       refine blockQ_n ?_
       refine thenQ_n ?_
       refine JC_region ?_
       refine JO_q (QE_add' rfl rfl (w64 (by omega) (by omega))) rfl ?_
       refine JO_q (QE_mv rfl) rfl ?_
       refine JO_nil ?_
       refine thenQ_n ⟨(k + 1), [_], (Keeps.cons rfl (Keeps.cons rfl (Keeps.cons rfl (Keeps.cons rfl (Keeps.cons rfl (Keeps.nil _)))))), rfl, ⟨(Le.trans (Le.trans (Le.trans I9.1 h11) h12) h15), ⟨by omega, fun i hi => by rcases Nat.lt_succ_iff_lt_or_eq.1 hi with h | rfl; exact hI i h; simp [rowCode, hx, hz, hy]⟩⟩, (by omega)⟩
    ·
     refine JC_exit ?_
     refine thenQ_x ?_
     refine thenQ_x ?_
     refine blockQ_x ?_
     refine thenQ_n ?_
     refine JC_seq ?_
     refine JC_region ?_
     refine JO_q (QE_build [] [_, _] rfl rfl rfl rfl rfl rfl) rfl ?_
     refine JO_st 0 [_, _] rfl rfl rfl rfl rfl rfl rfl rfl rfl ?_
     refine JO_nil ?_
     refine thenQ_n ?_
     refine JC_ret ?_
     refine retQ_mk [_, _] L (.inr rfl) (.agg (us := [_, _]) 0 rfl rfl rfl rfl rfl (.nil)) rfl (Le.trans (Le.trans h1 h2) I9.1) (fun sR hS2 => ?_)
     refine ⟨?_, rfl⟩
     have h0 : ¬ (t.cells < 1 ∨ 65536 < t.cells) := by omega
     have h1 : ¬ 64 < t.ins.length := by omega
     have hb := firstBad_none (f := rowCode t.ins) (m := t.ins.length) (j := 0) (fun i _ hi => hI i (by omega))
     simp [resV, tabFault, h0, h1, hb]; done
end Go.Proofs.YtoeeblegplghmaaGreatDoor
