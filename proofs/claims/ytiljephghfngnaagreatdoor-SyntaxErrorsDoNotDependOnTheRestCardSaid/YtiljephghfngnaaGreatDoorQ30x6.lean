/- The law SyntaxErrorsDoNotDependOnTheRest: for every input it returns true, and its arguments read behind the call az they read before; what the package-level variables of the library hold is tied tgt the text of the program. Part 6 of the proof of syntaxErrorsDoNotDependOnTheRest_holds: texts S19, S20, Ye, Sx, Sz, Yb, S21, Rj, Rt, Rv, Q30. -/
import Derived.Test.YtiljephghfngnaaGreatDoorQ30x5
import Derived.ProofKit
import Derived.OpenShut
import Derived.SizedLaws
import Derived.Deep.Slices
import Derived.Test.YtiljephghfngnaaGreatDoorRows
import Derived.Lay
import Derived.Lib.LaidTab
import Derived.Stop.LaidErr
import Derived.SevenTiedAt
import Derived.Test.YtiljephghfngnaaGreatDoorCards
import Derived.Test.YtiljephghfngnaaGreatDoorTie
import Derived.ChangeMaps5
set_option linter.unusedVariables false
set_option linter.unusedSimpArgs false
set_option linter.unnecessarySimpa false
set_option maxRecDepth 100000
set_option maxHeartbeats 8000000
namespace Go.Proofs.YtiljephghfngnaaGreatDoor
open Go.FL
attribute [local irreducible] JC JO JA JB thenQ blockQ retQ AC fill CellsAt QE Ev Mid
theorem take_next {α : Type} {l : List α} {k : Nat} {x : α} (h : l[k]? = some x) : l.take (k + 1) = l.take k ++ [x] := by
  rw [List.take_add_one, h]; rfl
theorem canon_of {l : List UInt8} (h : numL l ≠ none) : canonB l = true ∧ valD 0 l < 4294967296 := by
  unfold numL at h
  split at h
  · assumption
  · exact absurd rfl h
theorem num_bad {l : List UInt8} (h : l = [] ∨ 10 < l.length ∨ (1 < l.length ∧ l[0]? = some 48)) : numL l = none := by
  cases hn : numL l with
  | none => rfl
  | some u =>
    obtain ⟨e, hu⟩ := numL_some hn
    have hd := dec_len hu
    rw [← e] at hd
    have hc := (canon_of (by rw [hn]; simp)).1
    simp only [canonB, Bool.and_eq_true, decide_eq_true_eq, Bool.or_eq_true] at hc
    rcases h with h | h | ⟨h, h2⟩
    · exact absurd h hc.1.1
    · omega
    · rcases hc.2 with h3 | h3
      · omega
      · rw [List.head?_eq_getElem?] at h3; exact absurd h2 h3
theorem num_dig {l : List UInt8} {c : UInt8} {k : Nat} (hc : l[k]? = some c) (h : digB c = false) : numL l = none := by
  cases hn : numL l with
  | none => rfl
  | some u =>
    have hcn := (canon_of (l := l) (by rw [hn]; simp)).1
    simp only [canonB, Bool.and_eq_true] at hcn
    have := List.all_eq_true.1 hcn.1.2 c (List.mem_of_getElem? hc)
    rw [h] at this; cases this
theorem num_large {l : List UInt8} (h : 4294967295 < valD 0 l) : numL l = none := by
  rw [numL, if_neg (fun hh => by omega)]
theorem num_good {l : List UInt8} (h : ¬ (l = [] ∨ 10 < l.length ∨ (1 < l.length ∧ l[0]? = some 48))) (hd : ∀ i c, i < l.length → l[i]? = some c → digB c = true) (hv : ¬ 4294967295 < valD 0 l) : numL l = some (valD 0 l) := by
  have hcn : canonB l = true := by
    simp only [canonB, Bool.and_eq_true, decide_eq_true_eq, Bool.or_eq_true]
    refine ⟨⟨fun e => h (.inl e), List.all_eq_true.2 fun c hc => ?_⟩, ?_⟩
    · obtain ⟨i, hi⟩ := List.mem_iff_getElem?.1 hc
      exact hd i c (List.getElem?_eq_some_iff.1 hi).1 hi
    · by_cases h1 : 1 < l.length
      · right; intro e; exact h (.inr (.inr ⟨h1, by rw [← List.head?_eq_getElem?]; exact e⟩))
      · left; omega
  rw [numL, if_pos ⟨hcn, by omega⟩]
theorem valD_bound {l : List UInt8} (h : ∀ i c, i < l.length → l[i]? = some c → digB c = true) : valD 0 l < 10 ^ l.length := by
  generalize hn : l.length = n
  induction n generalizing l with
  | zero => rw [List.length_eq_zero_iff.1 hn, valD_nil]; simp
  | succ n ih =>
    rcases List.eq_nil_or_concat l with rfl | ⟨r, c, rfl⟩
    · cases hn
    · rw [List.concat_eq_append] at *
      have hrl : r.length = n := by simpa using hn
      have h1 := ih (l := r) (fun i x hi hx => h i x (by simp; omega) (by rw [List.getElem?_append_left hi]; exact hx)) hrl
      have h2 := h r.length c (by simp) (by simp)
      simp only [digB, Bool.and_eq_true, decide_eq_true_eq] at h2
      rw [valD_snoc, Nat.pow_succ]
      omega
theorem valD_take {l : List UInt8} {k : Nat} (hk : k ≤ l.length) (hk10 : l.length ≤ 10) (h : ∀ i c, i < k → l[i]? = some c → digB c = true) : valD 0 (l.take k) < 10000000000 := by
  have h1 := valD_bound (l := l.take k) (fun i c hi hc => h i c (by simp at hi; omega) (by rw [List.getElem?_take] at hc; split at hc; exact hc; cases hc))
  have h2 : 10 ^ (l.take k).length ≤ 10 ^ 10 := Nat.pow_le_pow_right O (by simp; omega)
  omega
theorem digB_iff {c : UInt8} : (48 ≤ (c.toNat : Int) ∧ (c.toNat : Int) ≤ 57) ↔ digB c = true := by
  simp only [digB, Bool.and_eq_true, decide_eq_true_eq]; omega
theorem numberOf_ac (D : Nat) (L : Hl) (s : World) (l : List UInt8) (hl : l.length ≤ 9223372036854775807) : AC Tryz.prog D 68 [St l] L s fun v L' _ => v = .tuple #[.int .u32 (((numL l).getD 0 : Nat) : Int), .bool (numL l).isSome] ∧ L = L' := by
 refine AC_enter (TT := TT) (fn := Tryz.f68) TT_ok Tryz.func68 V Z Tryz.ntmps68 Z (rs := [.tmp 2, .tmp 3]) Z [(0, _)] Z <| Sr <| Zqa Z Z <| At Z Z <| Zs <| ?_
 refine JC_cutB 23 (l = [] ∨ 10 < l.length ∨ (1 < l.length ∧ l[0]? = some 48)) ?_ ?_
 ·
  refine Zr <| Zqm Z Z <| Zqlt2 Z Z Z Z <| Zqeq Z Z Z <| Zqm Z Z <| ?_
  refine JO_caseD (t := 9) Z (fun c2 => ?_) (fun c2 => ?_)
  ·
   refine Wf Y4 <| Wf Y4 <| Wf Y4 <| ZqT Z Z Z <| Zqm Z Z <| Wf Y4 <| Wf Y4 <| Wf Y4 <| Wf Y4 <| Zh Z Z Z <| Zh Z Z Z <| Zh Z Z Z <| Wf Y4 <| ZqT Z Z Z <| Zn <| ?_
   refine thenQ_n (MidB.mk (Lr D) Sb Z ((decide_eq_true (by first | exact .inl (List.length_eq_zero_iff.1 O) | exact .inr (.inl O) | (rintro (h | h | h) <;> first | omega | (have h9 := congrArg List.length h; simp only [List.length_nil] at h9; omega)))).symm))
  refine Zg Z Z <| Zqm Z Z <| Zg Z Z <| Zqlt2 Z Z Z Z <| Zg Z Z <| Zqgt Z Z Z <| ZqF Z Z Z <| Zqm Z Z <| ?_
  refine JO_caseD (t := 14) Z (fun c3 => ?_) (fun c3 => ?_)
  ·
   refine Wf Y4 <| Wf Y4 <| Wf Y4 <| Wf Y4 <| Zh Z Z Z <| Zh Z Z Z <| Zh Z Z Z <| Wf Y4 <| ZqT Z Z Z <| Zn <| ?_
   refine thenQ_n (MidB.mk (Lr D) Sb Z ((decide_eq_true (by first | exact .inl (List.length_eq_zero_iff.1 O) | exact .inr (.inl O) | (rintro (h | h | h) <;> first | omega | (have h9 := congrArg List.length h; simp only [List.length_nil] at h9; omega)))).symm))
  refine Zg Z Z <| Zqm Z Z <| Zg Z Z <| Zqlt2 Z Z Z Z <| Zg Z Z <| Zqgt Z Z Z <| Zg Z Z <| Zqm Z Z <| ?_
  refine JO_caseD (t := 18) Z (fun c4 => ?_) (fun c4 => ?_)
  ·
   refine Zg Z Z <| Zqm Z Z <| Zg Z Z <| ?_
   obtain ⟨c0, hc0⟩ : ∃ c0, l[0]? = some c0 := ⟨_, List.getElem?_eq_getElem O⟩
   refine JO_q (QE_ix Z Z Z Z hc0) Z <| Zg Z Z <| Zqeq Z Z Z <| Zg Z Z <| ZqT Z Z Z <| ZqF Z Z Z <| Zn <| ?_
   refine thenQ_n (MidB.mk (Lr D) Sb Z (decide_eq_decide.2 (⟨fun h => .inr (.inr ⟨by omega, by rw [hc0]; exact congrArg some (u8_eq.2 h)⟩), fun h => by rcases h with h | h | h <;> first | omega | (rw [h] at hc0; cases hc0) | (have h2 := h.2; rw [hc0] at h2; injection h2 with h2; rw [h2]; rfl)⟩)))
  refine Wf Y4 <| Wf Y4 <| Wf Y4 <| Zg Z Z <| ZqF Z Z Z <| ZqF Z Z Z <| Zn <| ?_
  refine thenQ_n (MidB.mk (Lr D) Sb Z ((decide_eq_false (by first | exact .inl (List.length_eq_zero_iff.1 O) | exact .inr (.inl O) | (rintro (h | h | h) <;> first | omega | (have h9 := congrArg List.length h; simp only [List.length_nil] at h9; omega)))).symm))
 intro s1 h1
 refine JC_ifD Z (fun c5 => ?_) (fun c5 => ?_)
 ·
  have h23 := num_bad c5
  refine Sr <| Zqa Z Z <| At Z Z <| Zo <| Zu <| ?_
  refine retQ_mk [] L (.inr Z) (.tmp Z (.tmp Z (.nil))) Z h1 (fun sR hS2 => ?_)
  first
    | (rw [h23]; exact ⟨rfl, rfl⟩)
    | (rw [h35]; exact ⟨rfl, rfl⟩)
    | (rw [h45]; exact ⟨rfl, rfl⟩)
 have h23 := c5
 have hl10 : l.length ≤ 10 := by
   rcases Nat.lt_or_ge 10 l.length with h | h
   · exact absurd (.inr (.inl h)) h23
   · exact h
 refine Zk <| Zt <| Sr <| At Z Z <| Zs <| Sr <| At Z Z <| Zp <| ?_
 refine JC_loop (γ := Nat) (fun k => [(0, _), (2, .int .u32 0), (3, _), (4, .int .i64 ((valD 0 (l.take k) : Nat) : Int)), (5, .int .i64 (k : Int))]) (fun _ => _) (fun k tw => Le D s1 tw ∧ (k ≤ l.length ∧ ∀ i c, i < k → l[i]? = some c → digB c = true)) (fun k => l.length - k) (fun _ _ _ h hl => ⟨h.1.trans hl, h.2⟩) 0 (.cons Z (.cons Z (.cons Z (.cons (congrArg some (congrArg (Value.int .i64) (by rw [List.take_zero, valD_nil]; rfl))) (.cons Z (.nil _)))))) Z ⟨Le.refl _, ⟨Nat.zero_le _, fun i c hi => by omega⟩⟩ ?_
 intro k s6 I6
 have hk0 := I6.2.1
 have hI := I6.2.2
 have hvb := valD_take hk0 O hI
 refine Zs <| Sr <| Zqm Z Z <| Zqm Z Z <| Zqlt2 Z Z Z Z <| Zqlt Z Z Z <| Nt <| ?_
 refine JC_ifD Z (fun c7 => ?_) (fun c7 => ?_)
 ·
  have hk : k < l.length := by omega
  obtain ⟨ch, hch⟩ : ∃ ch, l[k]? = some ch := ⟨_, List.getElem?_eq_getElem hk⟩
  have hc256 := ch.toNat_lt
  refine Zk <| Zt <| Zs <| Zp <| Zs <| Sr <| Zqm Z Z <| Zqm Z Z <| JO_q (QE_ix Z Z Z Z hch) Z <| JO_q (QE_conv' Z Z Z Z Z (w64 O O)) Z <| Jc Z Z Z (in_ac D _ _ _ _ _) ?_
  rintro _ _ s8 h8 ⟨rfl, rfl⟩
  refine Zqno Z Z <| Nt <| ?_
  refine JC_ifN Z (fun c9 => ?_) (fun c9 => ?_)
  ·
   have hnd : digB ch = false := Bool.eq_false_iff.2 fun h => c9 (digB_iff.2 h)
   have h35 := num_dig hch hnd
   refine Sr <| Zqa Z Z <| At Z Z <| Zo <| Zu <| Zc <| Zu <| Zu <| Zc <| Zu ?_
   refine retQ_mk [] L (.inr Z) (.tmp Z (.tmp Z (.nil))) Z (h1.t I6.1|>.t h8) (fun sR hS2 => ?_)
   first
     | (rw [h23]; exact ⟨rfl, rfl⟩)
     | (rw [h35]; exact ⟨rfl, rfl⟩)
     | (rw [h45]; exact ⟨rfl, rfl⟩)
  have hdg : digB ch = true := digB_iff.1 c9
  have hd48 := digB_iff.2 hdg
  refine Zk <| Zt <| Zr <| Zqm Z Z <| Zqmul Z Z Z (w64 O O) <| Zqm Z Z <| Zqm Z Z <| JO_q (QE_ix Z Z Z Z hch) Z <| JO_q (QE_conv' Z Z Z Z Z (w64 O O)) Z <| Zqadd Z Z Z (w64 O O) <| Zqsub Z Z Z (w64 O O) <| Zqa Z Z <| Zn <| Zb <| Zt <| Zr <| Zqm Z Z <| Zqadd Z Z Z (w64 O O) <| Zqa Z Z <| Zn <| ?_
  refine thenQ_n ⟨(k + 1), [], (.cons Z (.cons Z (.cons Z (.cons (congrArg some (congrArg (Value.int .i64) (by rw [take_next hch, valD_snoc]; omega))) kp)))), Z, ⟨(I6.1.t h8), ⟨by omega, below_succ hI hch hdg⟩⟩, O⟩
 have hkl : l.take k = l := List.take_of_length_le O
 rw [hkl] at hvb ⊢
 refine Zl <| Zv <| Zv <| Zd <| Zt <| Zs <| Sr <| Zqm Z Z <| Zqgt Z Z Z <| Nt <| ?_
 refine JC_ifD Z (fun c10 => ?_) (fun c10 => ?_)
 ·
  have h45 := num_large (l := l) O
  refine Sr <| Zqa Z Z <| At Z Z <| Zo <| Zu <| ?_
  refine retQ_mk [] L (.inr Z) (.tmp Z (.tmp Z (.nil))) Z (h1.t I6.1) (fun sR hS2 => ?_)
  first
    | (rw [h23]; exact ⟨rfl, rfl⟩)
    | (rw [h35]; exact ⟨rfl, rfl⟩)
    | (rw [h45]; exact ⟨rfl, rfl⟩)
 have h45 := num_good h23 (fun i c hi h => hI i c O h) O
 refine Zk <| Zt <| Sr <| Zqm Z Z <| JO_q (QE_conv' Z Z Z Z Z (wrap_small O)) Z <| Zqa Z Z <| At Z Z <| Zo <| ?_
 refine retQ_mk [] L (.inr Z) (.tmp Z (.tmp Z (.nil))) Z (h1.t I6.1) (fun sR hS2 => ?_)
 first
   | (rw [h23]; exact ⟨rfl, rfl⟩)
   | (rw [h35]; exact ⟨rfl, rfl⟩)
   | (rw [h45]; exact ⟨rfl, rfl⟩)
theorem rlet_ac (D : Nat) (L : Hl) (s : World) (c : UInt8) : AC Tryz.prog D 66 [.int .u8 (c.toNat : Int)] L s fun v L' _ => v = .bool (letB c) ∧ L = L' := by
 refine AC_enter (TT := TT) (fn := Tryz.f66) TT_ok Tryz.func66 V Z Tryz.ntmps66 Z (rs := [.tmp 2]) Z [(0, _)] Z <| Sr <| At Z Z <| Sr <| Zqm Z Z <| Zqge Z Z Z <| Zqm Z Z <| ?_
 refine JO_caseD (t := 5) Z (fun c1 => ?_) (fun c1 => ?_)
 ·
  refine Zg Z Z <| Zqm Z Z <| Zg Z Z <| Zqle Z Z Z <| ZqT Z Z Z <| At Z Z <| Zo <| ?_
  refine retQ_mk [] L (.inr Z) (.tmp Z (.nil)) Z (Lr D) (fun sR hS2 => ?_)
  refine ⟨?_, Z⟩
  first
    | exact congrArg Value.bool (by rw [let_no O])
    | (simp only [resV]; exact congrArg Value.bool (by rw [Bool.eq_iff_iff, decide_eq_true_eq, let_iff]; omega))
 refine Wf Y4 <| Wf Y4 <| ZqF Z Z Z <| At Z Z <| Zo <| ?_
 refine retQ_mk [] L (.inr Z) (.tmp Z (.nil)) Z (Lr D) (fun sR hS2 => ?_)
 refine ⟨?_, Z⟩
 first
   | exact congrArg Value.bool (by rw [let_no O])
   | (simp only [resV]; exact congrArg Value.bool (by rw [Bool.eq_iff_iff, decide_eq_true_eq, let_iff]; omega))
theorem rdig_ac (D : Nat) (L : Hl) (s : World) (c : UInt8) : AC Tryz.prog D 67 [.int .u8 (c.toNat : Int)] L s fun v L' _ => v = .bool (digB c) ∧ L = L' := by
 refine AC_enter (TT := TT) (fn := Tryz.f67) TT_ok Tryz.func67 V Z Tryz.ntmps67 Z (rs := [.tmp 2]) Z [(0, _)] Z <| Sr <| At Z Z <| Sr <| Zqm Z Z <| Zqge Z Z Z <| Zqm Z Z <| ?_
 refine JO_caseD (t := 5) Z (fun c1 => ?_) (fun c1 => ?_)
 ·
  refine Zg Z Z <| Zqm Z Z <| Zg Z Z <| Zqle Z Z Z <| ZqT Z Z Z <| At Z Z <| Zo <| ?_
  refine retQ_mk [] L (.inr Z) (.tmp Z (.nil)) Z (Lr D) (fun sR hS2 => ?_)
  refine ⟨?_, Z⟩
  first
    | exact congrArg Value.bool (by rw [dig_no O])
    | (simp only [resV]; exact congrArg Value.bool (by rw [Bool.eq_iff_iff, decide_eq_true_eq, dig_iff]; omega))
 refine Wf Y4 <| Wf Y4 <| ZqF Z Z Z <| At Z Z <| Zo <| ?_
 refine retQ_mk [] L (.inr Z) (.tmp Z (.nil)) Z (Lr D) (fun sR hS2 => ?_)
 refine ⟨?_, Z⟩
 first
   | exact congrArg Value.bool (by rw [dig_no O])
   | (simp only [resV]; exact congrArg Value.bool (by rw [Bool.eq_iff_iff, decide_eq_true_eq, dig_iff]; omega))
theorem sq_split : splitB 32 sqT = signsP := by decide +kernel
def rtv (x : RT) : Value := .agg (rtc x).toArray
theorem rtok_ac (D : Nat) (L : Hl) (s : World) (l : List UInt8) (a : Nat) (ha : a ≤ l.length) (hl : l.length ≤ 1100000) : AC Tryz.prog D 39 [St l, .int .i64 (a : Int)] L s fun v L' _ => v = rtv (rtA l a) ∧ L = L' := by
 refine AC_enter (TT := TT) (fn := Tryz.f39) TT_ok Tryz.func39 V Z Tryz.ntmps39 Z (rs := [.cell 4 42]) Z [(0, _), (1, _)] Z <| Sr <| JO_allocZ Z [_, _, _, _] Z Z ?_
 intro β1 s1 h1
 refine Nt <| Zs <| Sr <| Zqm Z Z <| Zqm Z Z <| Zqlt2 Z Z Z Z <| Zqeq Z Z Z <| Nt <| ?_
 refine JC_ifD Z (fun c2 => ?_) (fun c2 => ?_)
 ·
  have hq : rtS (l.drop a) = (0, [], 0) := by rw [List.drop_eq_nil_of_le O]; rfl
  refine Sr <| Zqm Z Z <| JO_q (QE_build [(_, _)] [_, _, _, _] Z Z Z Z Z Z) Z <| Wt 0 [_, _, _, _] Y9 <| Nt <| Zo <| Zu <| ?_
  refine retQ_mk [_] L (.inr Z) (.agg (us := [_, _, _, _]) 0 Z Z Z Z Z (.nil)) Z h1 (fun sR hS2 => ?_)
  refine ⟨?_, Z⟩
  simp only [rtv, rtc, rtA, hq]
  first
    | rfl
    | (rw [← hw]; rfl)
 obtain ⟨c, r0, hu⟩ := drop_cons c2 ha
 have hal : a < l.length := by omega
 have hc0 : l[a]? = some c := by have := congrArg (fun u => u[0]?) hu; simpa [List.getElem?_drop] using this
 refine Zk <| Zt <| Sr <| Zqm Z Z <| At Z Z <| Zs <| Zp <| JC_loop (γ := Nat) (fun k => [(0, _), (1, _), (4, _), (5, .int .i64 (k : Int))]) (fun _ => _) (fun k tw => Le D s1 tw ∧ (a ≤ k ∧ k ≤ l.length ∧ k + ((l.drop k).takeWhile (tkB c)).length = a + ((l.drop a).takeWhile (tkB c)).length)) (fun k => l.length - k) (fun _ _ _ h hl => ⟨h.1.trans hl, h.2⟩) a (.cons Z (.cons Z (.cons Z (.cons Z (.nil _))))) Z ⟨Le.refl _, ⟨Nat.le_refl _, ha, Z⟩⟩ ?_
 intro k s3 I3
 obtain ⟨hk0, hk1, hk3⟩ := I3.2
 refine Zs ?_
 refine JC_cutB 51 (tkAt c l k = true) ?_ ?_
 ·
  refine Zr <| Zqm Z Z <| Zqm Z Z <| Zqlt2 Z Z Z Z <| Zqlt Z Z Z <| Zqm Z Z <| ?_
  refine JO_caseD (t := 22) Z (fun c5 => ?_) (fun c5 => ?_)
  ·
   refine Zg Z Z ?_
   obtain ⟨ch, hch⟩ : ∃ ch, l[k]? = some ch := ⟨_, List.getElem?_eq_getElem O⟩
   refine Zqm Z Z <| Zg Z Z <| Zqm Z Z <| Zg Z Z <| JO_q (QE_ix Z Z Z Z hc0) Z <| Zg Z Z <| Jc Z Z Z (rlet_ac D _ _ c) ?_
   rintro _ _ s6 h6 ⟨rfl, rfl⟩
   refine Zg Z Z <| Zqm Z Z <| ?_
   refine JO_case (t := 27) Z (fun c7 => ?_) (fun c7 => ?_)
   ·
    refine Zg Z Z <| Zqm Z Z <| Zg Z Z <| Zqm Z Z <| Zg Z Z <| JO_q (QE_ix Z Z Z Z hch) Z <| Zg Z Z <| Jc Z Z Z (rlet_ac D _ _ ch) ?_
    rintro _ _ s8 h8 ⟨rfl, rfl⟩
    refine Zg Z Z <| Zqm Z Z <| ?_
    refine JO_case (t := 32) Z (fun c9 => ?_) (fun c9 => ?_)
    ·
     refine Wf Y4 <| Wf Y4 <| Wf Y4 <| Wf Y4 <| Zg Z Z <| ZqT Z Z Z <| Zg Z Z <| ZqT Z Z Z <| Zg Z Z <| Zqm Z Z <| Wf Y4 <| Wf Y4 <| Wf Y4 <| Wf Y4 <| Wf Y4 <| Zh Z Z Z <| Zh Z Z Z <| Zh Z Z Z <| Zh Z Z Z <| Wf Y4 <| Zg Z Z <| ZqT Z Z Z <| ZqT Z Z Z <| Zn <| ?_
     refine thenQ_n (MidB.mk (h6.t h8) Sb Z ((decide_eq_true (by first | exact tk_no O | exact tk_ll hch As As | exact tk_ld hch As As | exact tk_dd hch As As | exact tk_n1 hch As As | exact tk_n2 hch As As | exact tk_n3 hch As As)).symm))
    refine Zg Z Z <| Zqm Z Z <| Zg Z Z <| Zqm Z Z <| Zg Z Z <| JO_q (QE_ix Z Z Z Z hch) Z <| Zg Z Z <| Jc Z Z Z (rdig_ac D _ _ ch) ?_
    rintro _ _ s10 h10 ⟨rfl, rfl⟩
    refine Zg Z Z <| ZqF Z Z Z <| Zg Z Z <| ZqT Z Z Z <| Zg Z Z <| Zqm Z Z <| ?_
    refine JO_case (t := 39) Z (fun c11 => ?_) (fun c11 => ?_)
    ·
     refine Wf Y4 <| Wf Y4 <| Wf Y4 <| Wf Y4 <| Wf Y4 <| Zh Z Z Z <| Zh Z Z Z <| Zh Z Z Z <| Zh Z Z Z <| Wf Y4 <| Zg Z Z <| ZqT Z Z Z <| ZqT Z Z Z <| Zn <| ?_
     refine thenQ_n (MidB.mk (h6.t h8|>.t h10) Sb Z ((decide_eq_true (by first | exact tk_no O | exact tk_ll hch As As | exact tk_ld hch As As | exact tk_dd hch As As | exact tk_n1 hch As As | exact tk_n2 hch As As | exact tk_n3 hch As As)).symm))
    refine Zg Z Z <| Zqm Z Z <| Zg Z Z <| Zqm Z Z <| Zg Z Z <| JO_q (QE_ix Z Z Z Z hc0) Z <| Zg Z Z <| Jc Z Z Z (rdig_ac D _ _ c) ?_
    rintro _ _ s12 h12 ⟨rfl, rfl⟩
    refine Zg Z Z <| Zqm Z Z <| ?_
    refine JO_case (t := 44) Z (fun c13 => ?_) (fun c13 => ?_)
    ·
     refine Zg Z Z <| Zqm Z Z <| Zg Z Z <| Zqm Z Z <| Zg Z Z <| JO_q (QE_ix Z Z Z Z hch) Z <| Zg Z Z <| Jc Z Z Z (rdig_ac D _ _ ch) ?_
     rintro _ _ s14 h14 ⟨rfl, rfl⟩
     refine Zg Z Z <| ZqT Z Z Z <| Zg Z Z <| ZqF Z Z Z <| ZqT Z Z Z <| Zn <| ?_
     refine thenQ_n (MidB.mk (h6.t h8|>.t h10|>.t h12|>.t h14) Sb Z ((by first | exact tk_e1 hch As As | exact tk_e2 hch As As)))
    refine Wf Y4 <| Wf Y4 <| Wf Y4 <| Wf Y4 <| Zg Z Z <| ZqF Z Z Z <| Zg Z Z <| ZqF Z Z Z <| ZqT Z Z Z <| Zn <| ?_
    refine thenQ_n (MidB.mk (h6.t h8|>.t h10|>.t h12) Sb Z ((decide_eq_false (by first | exact tk_no O | exact tk_ll hch As As | exact tk_ld hch As As | exact tk_dd hch As As | exact tk_n1 hch As As | exact tk_n2 hch As As | exact tk_n3 hch As As)).symm))
   refine Wf Y4 <| Wf Y4 <| Wf Y4 <| Wf Y4 <| Wf Y4 <| Zh Z Z Z <| Zh Z Z Z <| Zh Z Z Z <| Zh Z Z Z <| Wf Y4 <| Zg Z Z <| ZqF Z Z Z <| Zg Z Z <| Zqm Z Z <| Zg Z Z <| Zqm Z Z <| Zg Z Z <| Zqm Z Z <| Zg Z Z <| JO_q (QE_ix Z Z Z Z hc0) Z <| Zg Z Z <| Jc Z Z Z (rdig_ac D _ _ c) ?_
   rintro _ _ s15 h15 ⟨rfl, rfl⟩
   refine Zg Z Z <| Zqm Z Z <| ?_
   refine JO_case (t := 44) Z (fun c16 => ?_) (fun c16 => ?_)
   ·
    refine Zg Z Z <| Zqm Z Z <| Zg Z Z <| Zqm Z Z <| Zg Z Z <| JO_q (QE_ix Z Z Z Z hch) Z <| Zg Z Z <| Jc Z Z Z (rdig_ac D _ _ ch) ?_
    rintro _ _ s17 h17 ⟨rfl, rfl⟩
    refine Zg Z Z <| ZqT Z Z Z <| Zg Z Z <| ZqF Z Z Z <| ZqT Z Z Z <| Zn <| ?_
    refine thenQ_n (MidB.mk (h6.t h15|>.t h17) Sb Z ((by first | exact tk_e1 hch As As | exact tk_e2 hch As As)))
   refine Wf Y4 <| Wf Y4 <| Wf Y4 <| Wf Y4 <| Zg Z Z <| ZqF Z Z Z <| Zg Z Z <| ZqF Z Z Z <| ZqT Z Z Z <| Zn <| ?_
   refine thenQ_n (MidB.mk (h6.t h15) Sb Z ((decide_eq_false (by first | exact tk_no O | exact tk_ll hch As As | exact tk_ld hch As As | exact tk_dd hch As As | exact tk_n1 hch As As | exact tk_n2 hch As As | exact tk_n3 hch As As)).symm))
  refine Wf Y4 <| Wf Y4 <| Wf Y4 <| Wf Y4 <| Wf Y4 <| Zh Z Z Z <| Zh Z Z Z <| Zh Z Z Z <| Zh Z Z Z <| Zh Z Z Z <| Zh Z Z Z <| Zh Z Z Z <| Zh Z Z Z <| Zh Z Z Z <| Zh Z Z Z <| Wf Y4 <| Wf Y4 <| Zh Z Z Z <| Zh Z Z Z <| Zh Z Z Z <| Zh Z Z Z <| Zh Z Z Z <| Zh Z Z Z <| Zh Z Z Z <| Zh Z Z Z <| Zh Z Z Z <| Zh Z Z Z <| Wf Y4 <| ZqF Z Z Z <| Zn <| ?_
  refine thenQ_n (MidB.mk (Lr D) Sb Z ((decide_eq_false (by first | exact tk_no O | exact tk_ll hch As As | exact tk_ld hch As As | exact tk_dd hch As As | exact tk_n1 hch As As | exact tk_n2 hch As As | exact tk_n3 hch As As)).symm))
 intro s4 h4
 refine JC_ifD Z (fun c18 => ?_) (fun c18 => ?_)
 ·
  obtain ⟨hs1, hs2⟩ := tk_step c18
  refine Zk <| Zt <| Zp <| Zr <| Zqm Z Z <| JO_q (QE_add' (c := ((k + 1 : Nat) : Int)) Z Z (by rw [w64 O O]; omega)) Z <| Zqa Z Z <| Zn <| Zb <| ?_
  refine thenQ_n ⟨k + 1, [], kp, Z, ⟨(I3.1.t h4), ⟨by omega, by omega, by omega⟩⟩, O⟩
 have hs0 := tk_stop c18
 rw [hs0, Nat.add_zero] at hk3
 refine Zl <| Zv <| Zv <| Zd <| Zt <| Zs <| Sr <| Zqm Z Z <| Zqm Z Z <| Zqgt Z Z Z <| Nt ?_
 refine JC_ifD Z (fun c19 => ?_) (fun c19 => ?_)
 ·
  have htp : 0 < ((l.drop a).takeWhile (tkB c)).length := by omega
  have htk : k - a = ((l.drop a).takeWhile (tkB c)).length := by omega
  have htl : ((l.drop a).takeWhile (tkB c)).length ≤ (l.drop a).length := take_le _
  rw [List.length_drop] at htl
  refine Sr <| Zqm Z Z <| Zqm Z Z <| Zqm Z Z <| Zqm Z Z <| JO_q (QE_cast (v' := St ((l.drop a).takeWhile (tkB c))) (QE_stLH Z Z Z Z Z O O) (congrArg St (by rw [htk]; exact take_tw _))) Z <| JO_q (QE_build [(_, _), (_, _), (_, _)] [_, _, _, _] Z Z Z Z Z Z) Z <| JO_allocZ Z [_, _, _, _] Z Z ?_
  intro β20 s20 h20
  refine Wt 0 [_, _, _, _] Y9 <| Nt <| Zs <| Sr <| Zqm Z Z <| Zqm Z Z <| JO_q (QE_ix Z Z Z Z hc0) Z <| Jc Z Z Z (rdig_ac D _ _ c) ?_
  rintro _ _ s21 h21 ⟨rfl, rfl⟩
  refine Nt <| ?_
  refine JC_if Z (fun c22 => ?_) (fun c22 => ?_)
  ·
   have hcd : digB c = true := c22
   have hcl := dig_let hcd
   have hw : ((l.drop a).takeWhile (tkB c)) = digL (l.drop a) := tk_dig hcd
   refine Sr <| Wb Y5 <| Wl 0 Y6 <| Jc Z Z Z (numberOf_ac D _ _ ((l.drop a).takeWhile (tkB c)) O) ?_
   rintro _ _ s23 h23 ⟨rfl, rfl⟩
   refine Zqm Z Z <| Zqx Z Z Z <| Zqx Z Z Z <| Zqa Z Z <| At Z Z <| Sr <| Zqm Z Z <| Wb Y5 <| Wt 0 [_, _, _, _] Y9 <| Nt <| Sr <| Zqm Z Z <| Nt <| ?_
   refine JC_if Z (fun c24 => ?_) (fun c24 => ?_)
   ·
    have hq := rt_num1 hu hcl hcd (by rw [← hw]; exact c24)
    refine Zr <| W0 Y5 <| Wt 0 [_, _, _, _] Y9 <| Nt <| Sr <| JO_q (QE_ldA 0 [_, _, _, _] Z Z Z Z Z) Z <| Wt 1 [_, _, _, _] Y9 <| Nt <| Zo <| Zu <| ?_
    refine retQ_mk [_, _] L (.inr Z) (.agg (us := [_, _, _, _]) 1 Z Z Z Z Z (.nil)) Z (h1.t I3.1|>.t h4|>.t h20|>.t h21|>.t h23) (fun sR hS2 => ?_)
    refine ⟨?_, Z⟩
    simp only [rtv, rtc, rtA, hq]
    first
      | rfl
      | (rw [← hw]; rfl)
   have hq := rt_num0 hu hcl hcd (by rw [← hw]; exact c24)
   refine Zk <| Zt <| Sr <| JO_q (QE_ldA 0 [_, _, _, _] Z Z Z Z Z) Z <| Wt 1 [_, _, _, _] Y9 <| Nt <| Zo <| Zu <| ?_
   refine retQ_mk [_, _] L (.inr Z) (.agg (us := [_, _, _, _]) 1 Z Z Z Z Z (.nil)) Z (h1.t I3.1|>.t h4|>.t h20|>.t h21|>.t h23) (fun sR hS2 => ?_)
   refine ⟨?_, Z⟩
   simp only [rtv, rtc, rtA, hq]
   first
     | rfl
     | (rw [← hw]; rfl)
  have hcd : digB c = false := c22
  have hcl := tk_pos hu htp hcd
  have hw : ((l.drop a).takeWhile (tkB c)) = wordL (l.drop a) := tk_word hcl
  have hq := rt_word hu hcl
  refine Sr <| Wb Y5 <| Wl 0 Y6 <| Jc Z Z Z (rkw_ac D _ _ ((l.drop a).takeWhile (tkB c))) ?_
  rintro _ _ s25 h25 ⟨rfl, rfl⟩
  refine Nt <| ?_
  refine JC_if Z (fun c26 => ?_) (fun c26 => ?_)
  ·
   rw [if_pos (by rw [← hw]; exact c26)] at hq
   refine Zr <| W0 Y5 <| Wt 0 [_, _, _, _] Y9 <| Nt <| Sr <| JO_q (QE_ldA 0 [_, _, _, _] Z Z Z Z Z) Z <| Wt 1 [_, _, _, _] Y9 <| Nt <| Zo <| Zu <| ?_
   refine retQ_mk [_, _] L (.inr Z) (.agg (us := [_, _, _, _]) 1 Z Z Z Z Z (.nil)) Z (h1.t I3.1|>.t h4|>.t h20|>.t h21|>.t h25) (fun sR hS2 => ?_)
   refine ⟨?_, Z⟩
   simp only [rtv, rtc, rtA, hq]
   first
     | rfl
     | (rw [← hw]; rfl)
  rw [if_neg (by rw [← hw, show kwB ((l.drop a).takeWhile (tkB c)) = false from c26]; decide)] at hq
  refine Sr <| Wb Y5 <| Wl 0 Y6 <| Jc Z Z Z (rident_ac D _ _ ((l.drop a).takeWhile (tkB c)) O) ?_
  rintro _ _ s27 h27 ⟨rfl, rfl⟩
  refine Nt <| ?_
  refine JC_if Z (fun c28 => ?_) (fun c28 => ?_)
  ·
   rw [if_pos (by rw [← hw]; exact c28)] at hq
   refine Zr <| W0 Y5 <| Wt 0 [_, _, _, _] Y9 <| Nt <| Sr <| JO_q (QE_ldA 0 [_, _, _, _] Z Z Z Z Z) Z <| Wt 1 [_, _, _, _] Y9 <| Nt <| Zo <| Zu <| ?_
   refine retQ_mk [_, _] L (.inr Z) (.agg (us := [_, _, _, _]) 1 Z Z Z Z Z (.nil)) Z (h1.t I3.1|>.t h4|>.t h20|>.t h21|>.t h25|>.t h27) (fun sR hS2 => ?_)
   refine ⟨?_, Z⟩
   simp only [rtv, rtc, rtA, hq]
   first
     | rfl
     | (rw [← hw]; rfl)
  rw [if_neg (by rw [← hw, show identB ((l.drop a).takeWhile (tkB c)) = false from c28]; decide)] at hq
  refine Zk <| Zt <| Sr <| JO_q (QE_ldA 0 [_, _, _, _] Z Z Z Z Z) Z <| Wt 1 [_, _, _, _] Y9 <| Nt <| Zo <| Zu <| ?_
  refine retQ_mk [_, _] L (.inr Z) (.agg (us := [_, _, _, _]) 1 Z Z Z Z Z (.nil)) Z (h1.t I3.1|>.t h4|>.t h20|>.t h21|>.t h25|>.t h27) (fun sR hS2 => ?_)
  refine ⟨?_, Z⟩
  simp only [rtv, rtc, rtA, hq]
  first
    | rfl
    | (rw [← hw]; rfl)
 obtain ⟨hcl, hcd⟩ := tk_zero hu (show ¬ 0 < ((l.drop a).takeWhile (tkB c)).length by omega)
 refine Zk <| Zt <| Zs <| Sr <| Zqm Z Z <| Zqm Z Z <| JO_q (QE_ix Z Z Z Z hc0) Z <| Zqeq Z Z Z <| Nt <| ?_
 refine JC_ifD Z (fun c29 => ?_) (fun c29 => ?_)
 ·
  have hq := rt_chr hu c29
  refine Zs ?_
  refine JC_cutB 123 (chrB (l.drop a) = true) ?_ ?_
  ·
   refine Zr <| Zqm Z Z <| JO_q (QE_add' (c := ((a + 2 : Nat) : Int)) Z Z (by rw [w64 O O]; omega)) Z <| Zqm Z Z <| Zqlt2 Z Z Z Z <| Zqlt Z Z Z <| Zqm Z Z <| ?_
   refine JO_caseD (t := 95) Z (fun c31 => ?_) (fun c31 => ?_)
   ·
    refine Zg Z Z ?_
    obtain ⟨c1, hc1⟩ : ∃ c1, l[a + 1]? = some c1 := ⟨_, List.getElem?_eq_getElem O⟩
    obtain ⟨c2, hc2⟩ : ∃ c2, l[a + 2]? = some c2 := ⟨_, List.getElem?_eq_getElem O⟩
    have e1 : (l.drop a)[1]? = some c1 := by rw [List.getElem?_drop]; exact hc1
    have e2 : (l.drop a)[2]? = some c2 := by rw [List.getElem?_drop]; exact hc2
    have hb1 := c1.toNat_lt
    refine Zqm Z Z <| Zg Z Z <| Zqm Z Z <| Zg Z Z <| JO_q (QE_add' (c := ((a + 2 : Nat) : Int)) Z Z (by rw [w64 O O]; omega)) Z <| Zg Z Z <| JO_q (QE_ix Z Z Z Z hc2) Z <| Zg Z Z <| Zqeq Z Z Z <| ZqT Z Z Z <| Zqm Z Z <| ?_
    refine JO_caseD (t := 102) Z (fun c32 => ?_) (fun c32 => ?_)
    ·
     refine Zg Z Z <| Zqm Z Z <| Zg Z Z <| Zqm Z Z <| Zg Z Z <| JO_q (QE_add' (c := ((a + 1 : Nat) : Int)) Z Z (by rw [w64 O O]; omega)) Z <| Zg Z Z <| JO_q (QE_ix Z Z Z Z hc1) Z <| Zg Z Z <| JO_q (QE_conv' Z Z Z Z Z (w64 O O)) Z <| Zg Z Z <| Jc Z Z Z (in_ac D _ _ _ _ _) ?_
     rintro _ _ s33 h33 ⟨rfl, rfl⟩
     refine ZqT Z Z Z <| Zqm Z Z <| ?_
     refine JO_caseD (t := 110) Z (fun c34 => ?_) (fun c34 => ?_)
     ·
      refine Zg Z Z <| Zqm Z Z <| Zg Z Z <| Zqm Z Z <| Zg Z Z <| JO_q (QE_add' (c := ((a + 1 : Nat) : Int)) Z Z (by rw [w64 O O]; omega)) Z <| Zg Z Z <| JO_q (QE_ix Z Z Z Z hc1) Z <| Zg Z Z <| Zqne Z Z Z <| ZqT Z Z Z <| Zqm Z Z <| ?_
      refine JO_caseN (t := 117) Z (fun c35 => ?_) (fun c35 => ?_)
      ·
       refine Zg Z Z <| Zqm Z Z <| Zg Z Z <| Zqm Z Z <| Zg Z Z <| JO_q (QE_add' (c := ((a + 1 : Nat) : Int)) Z Z (by rw [w64 O O]; omega)) Z <| Zg Z Z <| JO_q (QE_ix Z Z Z Z hc1) Z <| Zg Z Z <| Zqne Z Z Z <| ZqT Z Z Z <| Zn <| ?_
       refine thenQ_n (MidB.mk h33 Sb Z (ndec_eq (by rw [chr_iff e1 e2]; omega)))
      refine Wf Y4 <| Wf Y4 <| Wf Y4 <| Wf Y4 <| Wf Y4 <| ZqF Z Z Z <| Zn <| ?_
      refine thenQ_n (MidB.mk h33 Sb Z ((decide_eq_false (by first | exact chr_short (by rw [List.length_drop]; omega) | (rw [chr_iff e1 e2]; omega))).symm))
     refine Wf Y4 <| Wf Y4 <| Wf Y4 <| Wf Y4 <| Wf Y4 <| ZqF Z Z Z <| Zqm Z Z <| Wf Y4 <| Wf Y4 <| Wf Y4 <| Wf Y4 <| Wf Y4 <| ZqF Z Z Z <| Zn <| ?_
     refine thenQ_n (MidB.mk h33 Sb Z ((decide_eq_false (by first | exact chr_short (by rw [List.length_drop]; omega) | (rw [chr_iff e1 e2]; omega))).symm))
    refine Wf Y4 <| Wf Y4 <| Wf Y4 <| Wf Y4 <| Wf Y4 <| Wf Y4 <| ZqF Z Z Z <| Zqm Z Z <| Wf Y4 <| Wf Y4 <| Wf Y4 <| Wf Y4 <| Wf Y4 <| ZqF Z Z Z <| Zqm Z Z <| Wf Y4 <| Wf Y4 <| Wf Y4 <| Wf Y4 <| Wf Y4 <| ZqF Z Z Z <| Zn <| ?_
    refine thenQ_n (MidB.mk (Lr D) Sb Z ((decide_eq_false (by first | exact chr_short (by rw [List.length_drop]; omega) | (rw [chr_iff e1 e2]; omega))).symm))
   refine Wf Y4 <| Wf Y4 <| Wf Y4 <| Wf Y4 <| Wf Y4 <| ZqF Z Z Z <| Zqm Z Z <| Wf Y4 <| Wf Y4 <| Wf Y4 <| Wf Y4 <| Wf Y4 <| Wf Y4 <| ZqF Z Z Z <| Zqm Z Z <| Wf Y4 <| Wf Y4 <| Wf Y4 <| Wf Y4 <| Wf Y4 <| ZqF Z Z Z <| Zqm Z Z <| Wf Y4 <| Wf Y4 <| Wf Y4 <| Wf Y4 <| Wf Y4 <| ZqF Z Z Z <| Zn <| ?_
   refine thenQ_n (MidB.mk (Lr D) Sb Z ((decide_eq_false (by first | exact chr_short (by rw [List.length_drop]; omega) | (rw [chr_iff e1 e2]; omega))).symm))
  intro s30 h30
  refine JC_ifD Z (fun c36 => ?_) (fun c36 => ?_)
  ·
   have hz3 := chr_len c36
   rw [List.length_drop] at hz3
   obtain ⟨c1, hc1⟩ : ∃ c1, l[a + 1]? = some c1 := ⟨_, List.getElem?_eq_getElem O⟩
   have e1 : (l.drop a).getD 1 0 = c1 := by rw [List.getD_eq_getElem?_getD, List.getElem?_drop, hc1]; rfl
   rw [if_pos c36, e1] at hq
   refine Zs <| JC_drawE drawsMixed 13 Z [0] (by intro x hx; exact eraseAll_mem hx) ?_
   intro s37 h37
   refine za 0 Z (QE_mv Z) Z <| za 1 Z (QE_mv Z) Z <| za 2 Z (QE_mv Z) Z <| za 3 Z (QE_mv Z) Z <| za 4 Z (QE_add' (c := ((a + 3 : Nat) : Int)) Z Z (by rw [w64 O O]; omega)) Z <| za 5 Z (QE_cast (v' := St ((l.drop a).take 3)) (QE_stLH Z Z Z Z Z O O) (congrArg (fun n => St ((l.drop a).take n)) O)) Z <| za 6 Z (QE_mv Z) Z <| za 7 Z (QE_mv Z) Z <| za 8 Z (QE_add' (c := ((a + 1 : Nat) : Int)) Z Z (by rw [w64 O O]; omega)) Z <| za 9 Z (QE_ix Z Z Z Z hc1) Z <| za 10 Z (QE_conv' Z Z Z Z Z (wrap_small (by have := c1.toNat_lt; omega))) Z ?_
   refine za 11 Z (QE_build [(_, _), (_, _), (_, _), (_, _)] [_, _, _, _] Z Z Z Z Z Z) Z <| JA_1 12 V <| Wu Z trivial 0 [_, _, _, _] Y9 (fun _ hx => sub_mem (sbE _) hx) <| JA_done V <| Zt <| Zo <| Zu <| Zu <| ?_
   refine retQ_mk [_] L (.inr Z) (.agg (us := [_, _, _, _]) 0 Z Z Z Z Z (.nil)) Z (h1.t I3.1|>.t h4|>.t h30|>.t h37) (fun sR hS2 => ?_)
   refine ⟨?_, Z⟩
   simp only [rtv, rtc, rtA, hq]
   first
     | rfl
     | (rw [← hw]; rfl)
  rw [if_neg c36] at hq
  refine Zk <| Zt <| Sr <| Zqm Z Z <| JO_q (QE_build [(_, _), (_, _)] [_, _, _, _] Z Z Z Z Z Z) Z <| Wt 0 [_, _, _, _] Y9 <| Nt <| Zo <| Zu <| ?_
  refine retQ_mk [_] L (.inr Z) (.agg (us := [_, _, _, _]) 0 Z Z Z Z Z (.nil)) Z (h1.t I3.1|>.t h4|>.t h30) (fun sR hS2 => ?_)
  refine ⟨?_, Z⟩
  simp only [rtv, rtc, rtA, hq]
  first
    | rfl
    | (rw [← hw]; rfl)
 have hq := rt_sign hu hcl hcd c29
 refine Zk <| Zt <| Sr <| Jc Z Z Z (split_ac D _ _ sqT 32 (by decide)) ?_
 rintro _ _ s38 h38 ⟨rfl, Ak, nk, ck, rfl, hK⟩
 rw [sq_split] at hK
 have hnk : nk = 29 := hK.1
 refine At Z Z <| Zs <| Sr <| At Z Z <| Zp <| JC_loop (γ := Nat) (fun k2 => [(0, _), (1, _), (4, _), (9, _), (10, .int .i64 (k2 : Int))]) (fun _ => _) (fun k2 tw => Le D s38 tw ∧ (k2 ≤ 29 ∧ ∀ j y, j < k2 → signsP[j]? = some y → y.isPrefixOf (l.drop a) = false)) (fun k2 => 29 - k2) (fun _ _ _ h hl => ⟨h.1.trans hl, h.2⟩) 0 (.cons Z (.cons Z (.cons Z (.cons Z (.cons Z (.nil _)))))) Z ⟨Le.refl _, ⟨by omega, fun j y h => by omega⟩⟩ ?_
 intro k2 s39 I39
 obtain ⟨hj1, hb⟩ := I39.2
 refine Zs <| Sr <| Zqm Z Z <| Zqm Z Z <| Ws Y4 <| Zqlt Z Z Z <| Nt <| ?_
 refine JC_ifD Z (fun c40 => ?_) (fun c40 => ?_)
 ·
  obtain ⟨bk, ok, xk, rfl, hxk, hck, _⟩ := Strs.at_ (hK.le I39.1) (show k2 < nk by omega)
  have hxl : xk.length ≤ 2 := (show ∀ x ∈ signsP, x.length ≤ 2 by decide) xk (List.mem_of_getElem? hxk)
  refine Zk <| Zt <| Zs <| Zp <| ?_
  refine JC_cutB 171 (xk.isPrefixOf (l.drop a) = true) ?_ ?_
  ·
   refine JC_draw drawsMixed 27 Z _ (fun _ h => h) ?_
   intro s42 h42
   refine za 0 Z (QE_mv Z) Z <| za 1 Z (QE_mv Z) Z <| za 2 Z (QE_mv Z) Z <| za 3 Z (QE_ia1 Z Z Z Z Z Z (show k2 < nk by omega)) Z <| za 4 Z (QE_ldsR0 Z Z Z (hck.le h42) Z) Z <| za 5 Z (QE_lenT Z Z Z) Z <| za 6 Z (QE_add' (c := ((a + xk.length : Nat) : Int)) Z Z (by rw [w64 O O]; omega)) Z <| za 7 Z (QE_mv Z) Z <| za 8 Z (QE_lenT Z Z Z) Z <| za 9 Z (QE_le Z Z) Z <| za 10 Z (QE_mv Z) Z ?_
   refine JA_caseD (t := 155) Z (fun c43 => ?_) (fun c43 => ?_)
   ·
    refine zg 11 Z ⟨_, Z, Z⟩ (QE_mv Z) Z <| zg 12 Z ⟨_, Z, Z⟩ (QE_mv Z) Z <| zg 13 Z ⟨_, Z, Z⟩ (QE_mv Z) Z <| zg 14 Z ⟨_, Z, Z⟩ (QE_mv Z) Z <| zg 15 Z ⟨_, Z, Z⟩ (QE_mv Z) Z <| zg 16 Z ⟨_, Z, Z⟩ (QE_ia1 Z Z Z Z Z Z (show k2 < nk by omega)) Z <| zg 17 Z ⟨_, Z, Z⟩ (QE_ldsR0 Z Z Z (hck.le h42) Z) Z <| zg 18 Z ⟨_, Z, Z⟩ (QE_lenT Z Z Z) Z <| zg 19 Z ⟨_, Z, Z⟩ (QE_add' (c := ((a + xk.length : Nat) : Int)) Z Z (by rw [w64 O O]; omega)) Z <| zg 20 Z ⟨_, Z, Z⟩ (QE_cast (v' := St ((l.drop a).take xk.length)) (QE_stLH Z Z Z Z Z O O) (congrArg (fun n => St ((l.drop a).take n)) O)) Z ?_
    refine zg 21 Z ⟨_, Z, Z⟩ (QE_mv Z) Z <| zg 22 Z ⟨_, Z, Z⟩ (QE_mv Z) Z <| zg 23 Z ⟨_, Z, Z⟩ (QE_ia1 Z Z Z Z Z Z (show k2 < nk by omega)) Z <| zg 24 Z ⟨_, Z, Z⟩ (QE_ldsR0 Z Z Z (hck.le h42) Z) Z <| zg 25 Z ⟨_, Z, Z⟩ (QE_seq Z Z) Z <| za 26 Z (QE_pickT Z Z) Z <| JA_done V ?_
    refine thenQ_n (MidB.mk h42 Sb Z (decide_eq_decide.2 (by exact pre_iff)))
   refine zn 11 Z Z Z Z Z <| zn 12 Z Z Z Z Z <| zn 13 Z Z Z Z Z <| zn 14 Z Z Z Z Z <| zn 15 Z Z Z Z Z <| zn 16 Z Z Z Z Z <| zn 17 Z Z Z Z Z <| zn 18 Z Z Z Z Z <| zn 19 Z Z Z Z Z <| zn 20 Z Z Z Z Z <| zn 21 Z Z Z Z Z <| zn 22 Z Z Z Z Z <| zn 23 Z Z Z Z Z <| zn 24 Z Z Z Z Z <| zn 25 Z Z Z Z Z <| za 26 Z (QE_pickF Z Z) Z <| JA_done V ?_
   refine thenQ_n (MidB.mk h42 Sb Z ((decide_eq_false (by exact pre_long (by rw [List.length_drop]; omega))).symm))
  intro s41 h41
  refine JC_ifD Z (fun c44 => ?_) (fun c44 => ?_)
  ·
   rw [find_hit hxk c44 hb] at hq
   refine Sr <| Zqm Z Z <| Zqm Z Z <| Zqm Z Z <| JO_q (QE_ia1 Z Z Z Z Z Z (show k2 < nk by omega)) Z <| JO_q (QE_ldsR0 Z Z Z (hck.le h41) Z) Z <| JO_q (QE_build [(_, _), (_, _), (_, _)] [_, _, _, _] Z Z Z Z Z Z) Z <| Wt 0 [_, _, _, _] Y9 <| Nt <| Zo <| Zc <| Zu <| Zu <| Zc <| Zu <| ?_
   refine retQ_mk [_] L (.inr Z) (.agg (us := [_, _, _, _]) 0 Z Z Z Z Z (.nil)) Z (h1.t I3.1|>.t h4|>.t h38|>.t I39.1|>.t h41) (fun sR hS2 => ?_)
   refine ⟨?_, Z⟩
   simp only [rtv, rtc, rtA, hq]
   first
     | rfl
     | (rw [← hw]; rfl)
  have hxf := c44
  refine Zk <| Zb <| Zt <| Zr <| Zqm Z Z <| JO_q (QE_add' (c := ((k2 + 1 : Nat) : Int)) Z Z (by rw [w64 O O]; omega)) Z <| Zqa Z Z <| Zn <| ?_
  refine thenQ_n ⟨k2 + 1, [], kp, Z, ⟨(I39.1.t h41), ⟨by omega, fun j y hj hy => by
    rcases (show j < k2 ∨ j = k2 by omega) with h | rfl
    · exact hb j y h hy
    · rw [hxk] at hy; injection hy with hy; rw [← hy]; exact Bool.eq_false_iff.2 hxf⟩⟩, O⟩
 rw [find_miss fun j y hj => hb j y O] at hq
 refine Zl <| Zv <| Zv <| Zd <| Zt <| Sr <| Zqm Z Z <| JO_q (QE_build [(_, _), (_, _)] [_, _, _, _] Z Z Z Z Z Z) Z <| Wt 0 [_, _, _, _] Y9 <| Nt <| Zo <| ?_
 refine retQ_mk [_] L (.inr Z) (.agg (us := [_, _, _, _]) 0 Z Z Z Z Z (.nil)) Z (h1.t I3.1|>.t h4|>.t h38|>.t I39.1) (fun sR hS2 => ?_)
 refine ⟨?_, Z⟩
 simp only [rtv, rtc, rtA, hq]
 first
   | rfl
   | (rw [← hw]; rfl)
def RtR (_ : World) (x : RT) (cs : List Value) : Prop := cs = rtc x ∧ x.text.length ≤ 9223372036854775807 ∧ U32 x.num
def Rts (s : World) (A : Option Addr) (n c : Nat) (l : List RT) : Prop := Sl 4 RtR s A n c l
theorem Rts.le {D : Nat} {s s' : World} {A : Option Addr} {n c : Nat} {l : List RT} (h : Rts s A n c l) (hl : Le D s s') : Rts s' A n c l := Sl.le (fun _ _ (h : RtR s _ _) => (h : RtR s' _ _)) h hl
theorem flat_snoc (css : List (List Value)) (cs : List Value) : (css ++ [cs]).flatten = css.flatten ++ cs := by simp
def gpB (b : Bool) (c : UInt8) : Bool := (b && decide (c ≠ 10)) || decide (c = 32) || decide (c = 9) || decide (c = 10) || decide (c = 35)
def gpAt (b : Bool) (l : Str) (k : Nat) : Bool := match l[k]? with
  | some d => gpB b d
  | none => false
theorem gp_no {b : Bool} {l : Str} {k : Nat} (h : ¬ k < l.length) : ¬ gpAt b l k = true := by rw [gpAt, List.getElem?_eq_none O]; simp
theorem u8n {c : UInt8} {n : Nat} (hn : n < 256) : (c = UInt8.ofNat n) = ((c.toNat : Int) = (n : Int)) := propext (byte_eq hn).symm
theorem gp_iff {b : Bool} {l : Str} {k : Nat} {c : UInt8} (h : l[k]? = some c) : gpAt b l k = true ↔ (b = true ∧ (c.toNat : Int) ≠ 10) ∨ (c.toNat : Int) = 32 ∨ (c.toNat : Int) = 9 ∨ (c.toNat : Int) = 10 ∨ (c.toNat : Int) = 35 := by
  have e : gpAt b l k = gpB b c := by rw [gpAt, h]
  have k10 : (c = 10) = ((c.toNat : Int) = 10) := u8n (n := 10) (by decide)
  have k32 : (c = 32) = ((c.toNat : Int) = 32) := u8n (n := 32) (by decide)
  have k9 : (c = 9) = ((c.toNat : Int) = 9) := u8n (n := 9) (by decide)
  have k35 : (c = 35) = ((c.toNat : Int) = 35) := u8n (n := 35) (by decide)
  rw [e, gpB]
  simp only [Bool.or_eq_true, Bool.and_eq_true, decide_eq_true_eq, k10, k32, k9, k35, ne_eq, or_assoc]
theorem gp_T {l : Str} {k : Nat} {c : UInt8} {b : Bool} (h : l[k]? = some c) (hb : b = true) : gpAt b l k = true := by
  rw [gp_iff h]
  by_cases h10 : (c.toNat : Int) = 10
  · exact .inr (.inr (.inr (.inl h10)))
  · exact .inl ⟨hb, h10⟩
theorem gp_F {l : Str} {k : Nat} {c : UInt8} {b : Bool} (h : l[k]? = some c) (hb : b = false) : gpAt b l k = true ↔ ((c.toNat : Int) = 32 ∨ (c.toNat : Int) = 9 ∨ (c.toNat : Int) = 10 ∨ (c.toNat : Int) = 35) := by
  rw [gp_iff h, hb]; simp
theorem gp_in {l : Str} {k : Nat} {b : Bool} (h : gpAt b l k = true) : ∃ c, l[k]? = some c := by
  unfold gpAt at h
  cases hc : l[k]? with
  | none => rw [hc] at h; cases h
  | some c => exact ⟨c, rfl⟩
theorem gp_hash {l : Str} {k : Nat} {c : UInt8} {b : Bool} (h : l[k]? = some c) (hc : (c.toNat : Int) = 35) : k + 1 + skL true (l.drop (k + 1)) = k + skL b (l.drop k) := by
  obtain rfl : c = 35 := (byte_eq (n := 35) (by decide)).1 hc
  rw [drop_at h]
  cases b
  · rw [skL, if_neg (by decide), if_pos rfl]; omega
  · rw [skL, if_neg (by decide)]; omega
theorem gp_nl {l : Str} {k : Nat} {c : UInt8} {b : Bool} (h : l[k]? = some c) (hc : (c.toNat : Int) = 10) : k + 1 + skL false (l.drop (k + 1)) = k + skL b (l.drop k) := by
  obtain rfl : c = 10 := (byte_eq (n := 10) (by decide)).1 hc
  rw [drop_at h]
  cases b
  · rw [skL, if_pos (by decide)]; omega
  · rw [skL, if_pos rfl]; omega
theorem gp_other {l : Str} {k : Nat} {c : UInt8} {b : Bool} (h : l[k]? = some c) (h1 : ¬ (c.toNat : Int) = 35) (h2 : ¬ (c.toNat : Int) = 10) (hg : gpAt b l k = true) : k + 1 + skL b (l.drop (k + 1)) = k + skL b (l.drop k) := by
  rw [drop_at h]
  cases b
  · have h3 := (gp_F h rfl).1 hg
    have h4 : c = 32 ∨ c = 9 ∨ c = 10 := by
      rcases h3 with h3 | h3 | h3 | h3
      · exact .inl ((byte_eq (n := 32) (by decide)).1 h3)
      · exact .inr (.inl ((byte_eq (n := 9) (by decide)).1 h3))
      · exact absurd h3 h2
      · exact absurd h3 h1
    rw [skL, if_pos h4]; omega
  · rw [skL, if_neg (by rintro rfl; exact h2 (by decide))]; omega
theorem gp_end {l : Str} {k : Nat} {b : Bool} (h : ¬ gpAt b l k = true) (hk : k ≤ l.length) : k + skL b (l.drop k) = k ∧ (b = true → k = l.length) := by
  by_cases hlt : k < l.length
  · obtain ⟨c, hc⟩ : ∃ c, l[k]? = some c := ⟨_, List.getElem?_eq_getElem hlt⟩
    have h3 : b = false := by
      cases b
      · rfl
      · exact absurd (gp_T hc rfl) h
    subst h3
    have h4 := fun h5 => h ((gp_F hc rfl).2 h5)
    refine ⟨?_, fun h => by cases h⟩
    rw [drop_at hc, skL, if_neg (by rintro (h | h | h) <;> subst h <;> exact h4 (by decide)), if_neg (by rintro h; subst h; exact h4 (by decide))]; rfl
  · have e : k = l.length := by omega
    refine ⟨?_, fun _ => e⟩
    rw [List.drop_eq_nil_of_le O]; cases b <;> rfl
theorem rt_ok (s : Str) (a : Nat) (ha : a ≤ s.length) : a + (rtA s a).text.length ≤ s.length ∧ U32 (rtA s a).num ∧ (¬ (rtA s a).kind ≤ 1 → 0 < (rtA s a).text.length) := by
  obtain ⟨h1, h2, h3⟩ := rtS_ok (s.drop a)
  rw [List.length_drop] at h1
  exact ⟨by show a + (rtS (s.drop a)).2.1.length ≤ _; omega, h2, h3⟩
theorem Own.rts {A : Hl} {Ad : Option Addr} {n c : Nat} {l : List RT} {s : World} (h : FL.Own 42 4 A (.slice Ad n c) n (l.map rtc).flatten) (hp : Pub A s) (hl : ∀ x ∈ l, x.text.length ≤ 9223372036854775807 ∧ U32 x.num) (hn : n = l.length) : Rts s Ad n c l := by
  refine Own.rows (l := l) (css := l.map rtc) h hp ?_ hn
  clear h hn
  induction l with
  | nil => exact All2.nil
  | cons x r ih => exact All2.cons ⟨rfl, rfl, hl x (List.mem_cons_self ..)⟩ (ih fun y hy => hl y (List.mem_cons_of_mem _ hy))
theorem tokens_ac (D : Nat) (L : Hl) (s : World) (l : List UInt8) (hl : l.length ≤ 1100000) : AC Tryz.prog D 16 [St l] L s fun v L' s' => ∃ M', L' = M' ++ L ∧ ∀ s2, Le D s' s2 → Pub M' s2 → ∃ A n c' ts, v = .slice A n c' ∧ Rts s2 A n c' ts ∧ RL l 0 ts := by
 refine AC_enter (TT := TT) (fn := Tryz.f16) TT_ok Tryz.func16 V Z Tryz.ntmps16 Z (rs := [.tmp 2]) Z [(0, _)] Z <| Sr <| At Z Z <| Sr <| At Z Z <| Sr <| At Z Z <| Sr <| At Z Z <| Zp <| ?_
 refine JC_loop (γ := Nat × Value × Hl × List RT) (fun g => [(0, _), (2, _), (3, g.2.1), (4, .int .i64 (g.1 : Int)), (5, .bool false)]) (fun g => g.2.2.1 ++ L) (fun g tw => Le D s tw ∧ (g.1 ≤ l.length ∧ g.2.2.2.length ≤ g.1 ∧ FL.Own 42 4 g.2.2.1 g.2.1 g.2.2.2.length (g.2.2.2.map rtc).flatten ∧ (∀ x ∈ g.2.2.2, x.text.length ≤ 9223372036854775807 ∧ U32 x.num) ∧ ∀ ts, RL l g.1 ts → RL l 0 (g.2.2.2 ++ ts))) (fun g => l.length - g.1) (fun _ _ _ h hl => ⟨h.1.trans hl, h.2⟩) (0, .slice none 0 0, [], []) (.cons Z (.cons Z (.cons Z (.cons Z (.cons Z (.nil _)))))) Z ⟨Le.refl _, ⟨Nat.zero_le _, Nat.le_refl _, Own.nil, (fun x hx => by cases hx), fun ts h => h⟩⟩ ?_
 intro g s1 I1
 obtain ⟨i, vo, Mo, out⟩ := g
 obtain ⟨hi0, hol, hO, hall, hR⟩ := I1.2
 simp only at hi0 hol hO hall hR
 dsimp only
 refine Zp <| Zs <| Zp <| JC_loop (γ := Nat × Bool) (fun q => [(0, _), (2, _), (3, _), (4, .int .i64 (q.1 : Int)), (5, .bool q.2)]) (fun _ => _) (fun q tw => Le D s1 tw ∧ (i ≤ q.1 ∧ q.1 ≤ l.length ∧ q.1 + skL q.2 (l.drop q.1) = gapN l i)) (fun q => l.length - q.1) (fun _ _ _ h hl => ⟨h.1.trans hl, h.2⟩) (i, false) (.cons Z (.cons Z (.cons Z (.cons Z (.cons Z (.nil _)))))) Z ⟨Le.refl _, ⟨Nat.le_refl _, hi0, Z⟩⟩ ?_
 intro q s2 I2
 obtain ⟨e, b⟩ := q
 obtain ⟨he0, he1, he2⟩ := I2.2
 simp only at he0 he1 he2
 dsimp only
 refine Zs ?_
 refine JC_cutB 43 (gpAt b l e = true) ?_ ?_
 ·
  refine Zr <| Zqm Z Z <| Zqm Z Z <| Zqlt2 Z Z Z Z <| Zqlt Z Z Z <| Zqm Z Z <| ?_
  refine JO_caseD (t := 11) Z (fun c4 => ?_) (fun c4 => ?_)
  ·
   refine Zg Z Z ?_
   obtain ⟨ch, hch⟩ : ∃ ch, l[e]? = some ch := ⟨_, List.getElem?_eq_getElem O⟩
   refine Zqm Z Z <| Zg Z Z <| Zqm Z Z <| ?_
   refine JO_case (t := 13) Z (fun c5 => ?_) (fun c5 => ?_)
   ·
    refine Zg Z Z <| Zqm Z Z <| Zg Z Z <| Zqm Z Z <| Zg Z Z <| JO_q (QE_ix Z Z Z Z hch) Z <| Zg Z Z <| Zqne Z Z Z <| Zg Z Z <| ZqT Z Z Z <| Zg Z Z <| Zqm Z Z <| ?_
    refine JO_caseN (t := 19) Z (fun c6 => ?_) (fun c6 => ?_)
    ·
     refine Wf Y4 <| Wf Y4 <| Wf Y4 <| Wf Y4 <| Zg Z Z <| ZqT Z Z Z <| Zg Z Z <| Zqm Z Z <| Wf Y4 <| Wf Y4 <| Wf Y4 <| Wf Y4 <| Zg Z Z <| ZqT Z Z Z <| Zg Z Z <| Zqm Z Z <| Wf Y4 <| Wf Y4 <| Wf Y4 <| Wf Y4 <| Zg Z Z <| ZqT Z Z Z <| Zg Z Z <| Zqm Z Z <| Wf Y4 <| Wf Y4 <| Wf Y4 <| Wf Y4 <| Zg Z Z <| ZqT Z Z Z <| ZqT Z Z Z <| Zn <| ?_
     refine thenQ_n (MidB.mk (Lr D) Sb Z ((decide_eq_true (by first | exact gp_no O | exact gp_T hch As | (rw [gp_F hch As]; omega) | (rw [gp_iff hch]; omega))).symm))
    refine Zg Z Z <| Zqm Z Z <| Zg Z Z <| Zqm Z Z <| Zg Z Z <| JO_q (QE_ix Z Z Z Z hch) Z <| Zg Z Z <| Zqeq Z Z Z <| Zg Z Z <| ZqF Z Z Z <| Zg Z Z <| Zqm Z Z <| ?_
    refine JO_caseD (t := 25) Z (fun c7 => ?_) (fun c7 => ?_)
    ·
     refine Wf Y4 <| Wf Y4 <| Wf Y4 <| Wf Y4 <| Zg Z Z <| ZqT Z Z Z <| Zg Z Z <| Zqm Z Z <| Wf Y4 <| Wf Y4 <| Wf Y4 <| Wf Y4 <| Zg Z Z <| ZqT Z Z Z <| Zg Z Z <| Zqm Z Z <| Wf Y4 <| Wf Y4 <| Wf Y4 <| Wf Y4 <| Zg Z Z <| ZqT Z Z Z <| ZqT Z Z Z <| Zn <| ?_
     refine thenQ_n (MidB.mk (Lr D) Sb Z ((decide_eq_true (by first | exact gp_no O | exact gp_T hch As | (rw [gp_F hch As]; omega) | (rw [gp_iff hch]; omega))).symm))
    refine Zg Z Z <| Zqm Z Z <| Zg Z Z <| Zqm Z Z <| Zg Z Z <| JO_q (QE_ix Z Z Z Z hch) Z <| Zg Z Z <| Zqeq Z Z Z <| Zg Z Z <| ZqF Z Z Z <| Zg Z Z <| Zqm Z Z <| ?_
    refine JO_caseD (t := 31) Z (fun c8 => ?_) (fun c8 => ?_)
    ·
     refine Wf Y4 <| Wf Y4 <| Wf Y4 <| Wf Y4 <| Zg Z Z <| ZqT Z Z Z <| Zg Z Z <| Zqm Z Z <| Wf Y4 <| Wf Y4 <| Wf Y4 <| Wf Y4 <| Zg Z Z <| ZqT Z Z Z <| ZqT Z Z Z <| Zn <| ?_
     refine thenQ_n (MidB.mk (Lr D) Sb Z ((decide_eq_true (by first | exact gp_no O | exact gp_T hch As | (rw [gp_F hch As]; omega) | (rw [gp_iff hch]; omega))).symm))
    refine Zg Z Z <| Zqm Z Z <| Zg Z Z <| Zqm Z Z <| Zg Z Z <| JO_q (QE_ix Z Z Z Z hch) Z <| Zg Z Z <| Zqeq Z Z Z <| Zg Z Z <| ZqF Z Z Z <| Zg Z Z <| Zqm Z Z <| ?_
    refine JO_caseD (t := 37) Z (fun c9 => ?_) (fun c9 => ?_)
    ·
     refine Wf Y4 <| Wf Y4 <| Wf Y4 <| Wf Y4 <| Zg Z Z <| ZqT Z Z Z <| ZqT Z Z Z <| Zn <| ?_
     refine thenQ_n (MidB.mk (Lr D) Sb Z ((decide_eq_true (by first | exact gp_no O | exact gp_T hch As | (rw [gp_F hch As]; omega) | (rw [gp_iff hch]; omega))).symm))
    refine Zg Z Z <| Zqm Z Z <| Zg Z Z <| Zqm Z Z <| Zg Z Z <| JO_q (QE_ix Z Z Z Z hch) Z <| Zg Z Z <| Zqeq Z Z Z <| Zg Z Z <| ZqF Z Z Z <| ZqT Z Z Z <| Zn <| ?_
    refine thenQ_n (MidB.mk (Lr D) Sb Z (decide_eq_decide.2 (by first | exact gp_no O | exact gp_T hch As | (rw [gp_F hch As]; omega) | (rw [gp_iff hch]; omega))))
   refine Wf Y4 <| Wf Y4 <| Wf Y4 <| Wf Y4 <| Zg Z Z <| ZqF Z Z Z <| Zg Z Z <| Zqm Z Z <| Zg Z Z <| Zqm Z Z <| Zg Z Z <| Zqm Z Z <| Zg Z Z <| JO_q (QE_ix Z Z Z Z hch) Z <| Zg Z Z <| Zqeq Z Z Z <| Zg Z Z <| ZqF Z Z Z <| Zg Z Z <| Zqm Z Z <| ?_
   refine JO_caseD (t := 25) Z (fun c10 => ?_) (fun c10 => ?_)
   ·
    refine Wf Y4 <| Wf Y4 <| Wf Y4 <| Wf Y4 <| Zg Z Z <| ZqT Z Z Z <| Zg Z Z <| Zqm Z Z <| Wf Y4 <| Wf Y4 <| Wf Y4 <| Wf Y4 <| Zg Z Z <| ZqT Z Z Z <| Zg Z Z <| Zqm Z Z <| Wf Y4 <| Wf Y4 <| Wf Y4 <| Wf Y4 <| Zg Z Z <| ZqT Z Z Z <| ZqT Z Z Z <| Zn <| ?_
    refine thenQ_n (MidB.mk (Lr D) Sb Z ((decide_eq_true (by first | exact gp_no O | exact gp_T hch As | (rw [gp_F hch As]; omega) | (rw [gp_iff hch]; omega))).symm))
   refine Zg Z Z <| Zqm Z Z <| Zg Z Z <| Zqm Z Z <| Zg Z Z <| JO_q (QE_ix Z Z Z Z hch) Z <| Zg Z Z <| Zqeq Z Z Z <| Zg Z Z <| ZqF Z Z Z <| Zg Z Z <| Zqm Z Z <| ?_
   refine JO_caseD (t := 31) Z (fun c11 => ?_) (fun c11 => ?_)
   ·
    refine Wf Y4 <| Wf Y4 <| Wf Y4 <| Wf Y4 <| Zg Z Z <| ZqT Z Z Z <| Zg Z Z <| Zqm Z Z <| Wf Y4 <| Wf Y4 <| Wf Y4 <| Wf Y4 <| Zg Z Z <| ZqT Z Z Z <| ZqT Z Z Z <| Zn <| ?_
    refine thenQ_n (MidB.mk (Lr D) Sb Z ((decide_eq_true (by first | exact gp_no O | exact gp_T hch As | (rw [gp_F hch As]; omega) | (rw [gp_iff hch]; omega))).symm))
   refine Zg Z Z <| Zqm Z Z <| Zg Z Z <| Zqm Z Z <| Zg Z Z <| JO_q (QE_ix Z Z Z Z hch) Z <| Zg Z Z <| Zqeq Z Z Z <| Zg Z Z <| ZqF Z Z Z <| Zg Z Z <| Zqm Z Z <| ?_
   refine JO_caseD (t := 37) Z (fun c12 => ?_) (fun c12 => ?_)
   ·
    refine Wf Y4 <| Wf Y4 <| Wf Y4 <| Wf Y4 <| Zg Z Z <| ZqT Z Z Z <| ZqT Z Z Z <| Zn <| ?_
    refine thenQ_n (MidB.mk (Lr D) Sb Z ((decide_eq_true (by first | exact gp_no O | exact gp_T hch As | (rw [gp_F hch As]; omega) | (rw [gp_iff hch]; omega))).symm))
   refine Zg Z Z <| Zqm Z Z <| Zg Z Z <| Zqm Z Z <| Zg Z Z <| JO_q (QE_ix Z Z Z Z hch) Z <| Zg Z Z <| Zqeq Z Z Z <| Zg Z Z <| ZqF Z Z Z <| ZqT Z Z Z <| Zn <| ?_
   refine thenQ_n (MidB.mk (Lr D) Sb Z (decide_eq_decide.2 (by first | exact gp_no O | exact gp_T hch As | (rw [gp_F hch As]; omega) | (rw [gp_iff hch]; omega))))
  refine Wf Y4 <| Wf Y4 <| Zh Z Z Z <| Zh Z Z Z <| Zh Z Z Z <| Zh Z Z Z <| Wf Y4 <| Wf Y4 <| Zh Z Z Z <| Zh Z Z Z <| Zh Z Z Z <| Zh Z Z Z <| Wf Y4 <| Wf Y4 <| Zh Z Z Z <| Zh Z Z Z <| Zh Z Z Z <| Zh Z Z Z <| Wf Y4 <| Wf Y4 <| Zh Z Z Z <| Zh Z Z Z <| Zh Z Z Z <| Zh Z Z Z <| Wf Y4 <| Wf Y4 <| Zh Z Z Z <| Zh Z Z Z <| Zh Z Z Z <| Zh Z Z Z <| Wf Y4 <| ZqF Z Z Z <| Zn <| ?_
  refine thenQ_n (MidB.mk (Lr D) Sb Z ((decide_eq_false (by first | exact gp_no O | exact gp_T hch As | (rw [gp_F hch As]; omega) | (rw [gp_iff hch]; omega))).symm))
 intro s3 h3
 refine JC_ifD Z (fun c13 => ?_) (fun c13 => ?_)
 ·
  have hgp := c13
  obtain ⟨cg, hcg⟩ := gp_in hgp
  have hel := (List.getElem?_eq_some_iff.1 hcg).1
  refine Zk <| Zt <| Zp <| Zs <| Sr <| Zqm Z Z <| Zqm Z Z <| JO_q (QE_ix Z Z Z Z hcg) Z <| Zqeq Z Z Z <| Nt <| ?_
  refine JC_ifD Z (fun c14 => ?_) (fun c14 => ?_)
  ·
   have hst := gp_hash (b := b) hcg c14
   refine Zr <| At Z Z <| Zr <| Zqm Z Z <| JO_q (QE_add' (c := ((e + 1 : Nat) : Int)) Z Z (by rw [w64 O O]; omega)) Z <| Zqa Z Z <| Zn <| Zb <| ?_
   refine thenQ_n ⟨(e + 1, true), [], kp, Z, ⟨(I2.1.t h3), ⟨by simp only; omega, by simp only; omega, by simp only; omega⟩⟩, (by simp only; omega)⟩
  refine Sr <| Zqm Z Z <| Zqm Z Z <| JO_q (QE_ix Z Z Z Z hcg) Z <| Zqeq Z Z Z <| Nt <| ?_
  refine JC_ifD Z (fun c15 => ?_) (fun c15 => ?_)
  ·
   have hst := gp_nl (b := b) hcg c15
   refine Zr <| At Z Z <| Zr <| Zqm Z Z <| JO_q (QE_add' (c := ((e + 1 : Nat) : Int)) Z Z (by rw [w64 O O]; omega)) Z <| Zqa Z Z <| Zn <| Zb <| ?_
   refine thenQ_n ⟨(e + 1, false), [], kp, Z, ⟨(I2.1.t h3), ⟨by simp only; omega, by simp only; omega, by simp only; omega⟩⟩, (by simp only; omega)⟩
  have hst := gp_other hcg As c15 hgp
  refine Zk <| Zt <| Zr <| Zqm Z Z <| JO_q (QE_add' (c := ((e + 1 : Nat) : Int)) Z Z (by rw [w64 O O]; omega)) Z <| Zqa Z Z <| Zn <| Zb <| ?_
  refine thenQ_n ⟨(e + 1, b), [], kp, Z, ⟨(I2.1.t h3), ⟨by simp only; omega, by simp only; omega, by simp only; omega⟩⟩, (by simp only; omega)⟩
 obtain ⟨hend, hcm⟩ := gp_end c13 he1
 have heG : gapN l i = e := by rw [← he2, hend]
 have heT : rtA l e = rtA l (gapN l i) := by rw [heG]
 obtain ⟨hr1, hr2, hr3⟩ := rt_ok l e he1
 refine Zl <| Zv <| Zv <| Zd <| Zt <| Sr <| Zqm Z Z <| Zqm Z Z <| Jc Z Z Z (rtok_ac D _ _ l e he1 hl) ?_
 rintro _ _ s16 h16 ⟨rfl, rfl⟩
 have hall2 : ∀ x ∈ out ++ [rtA l e], x.text.length ≤ 9223372036854775807 ∧ U32 x.num := fun x hx => by
   rcases List.mem_append.1 hx with hx | hx
   · exact hall x hx
   · rw [List.mem_singleton.1 hx]; exact ⟨by omega, hr2⟩
 refine JO_allocZ Z [_, _, _, _] Z Z ?_
 intro β17 s17 h17
 refine Wt 0 [_, _, _, _] Y9 <| Nt <| Sr <| Zqm Z Z <| JO_q (QE_ldA 0 [_, _, _, _] Z Z Z Z Z) Z <| JO_bs [(_, _)] [_, _, _, _] Z Z Z Z Z Z Z Z Z ?_
 intro βn s18 h18 hcb
 refine JO_app (sz := 4) [_] Mo L Z Z Z Z Z Z Z hO (Row.of_cells (hcb.le (Lr D)) Z Z) ⟨by simp [ti42]; omega, by omega⟩ Z ?_
 intro v2 A2x s19 h19 o2
 obtain ⟨Av2, cv2, rfl, _, _⟩ := Own.slice o2
 simp only [cQ9, nQ9]
 refine At Z Z <| Zs <| Sr <| W0 Y5 <| Wl 0 Y6 <| Zqle Z Z Z <| Nt <| ?_
 refine JC_ifD Z (fun c20 => ?_) (fun c20 => ?_)
 ·
  have hz := c20
  refine Sr <| Zqm Z Z <| At Z Z <| Zo <| Zu <| Zc <| Zu <| Zc <| ?_
  refine retQ_mk [_] _ (.inr Z) (.tmp Z (.nil)) Z (I1.1.t I2.1|>.t h3|>.t h16|>.t h17|>.t h18|>.t h19) (fun sR hS2 => ?_)
  refine ⟨_, Z, fun s2 hs2 hp => ⟨_, _, _, out ++ [rtA l e], Z, ?_, hR _ (.stop heT hz)⟩⟩
  exact Own.rts (by simp only [List.map_append, List.map_cons, List.map_nil, flat_snoc]; exact o2) hp hall2 (by simp)
 have hz := c20
 have hpos := hr3 hz
 obtain rfl : b = false := by
   cases b
   · rfl
   · have := hcm rfl; omega
 refine Zk <| Zt <| Zr <| Zqm Z Z <| Wb Y5 <| Wl 0 Y6 <| Zqlt2 Z Z Z Z <| JO_q (QE_add' (c := ((e + (rtA l e).text.length : Nat) : Int)) Z Z (by rw [w64 O O]; omega)) Z <| Zqa Z Z <| Zn <| Zb <| ?_
 refine thenQ_n ⟨(e + (rtA l e).text.length, .slice Av2 (out.length + 1) cv2, A2x, out ++ [rtA l e]), [_], kp, Z, ⟨(I1.1.t I2.1|>.t h3|>.t h16|>.t h17|>.t h18|>.t h19), ⟨by simp only; omega, by simp only [List.length_append, List.length_cons, List.length_nil]; omega, by simp only [List.length_append, List.length_cons, List.length_nil, List.map_append, List.map_cons, List.map_nil, flat_snoc]; exact o2, hall2, fun ts hts => by simp only [List.append_assoc, List.cons_append, List.nil_append]; exact hR _ (.next heT hz hts)⟩⟩, (by simp only; omega)⟩
end Go.Proofs.YtiljephghfngnaaGreatDoor
namespace Go.Proofs.YtiljephghfngnaaGreatDoor
open Go Go.FL
def tok3 (t : PS) : Prop := t.next.kind = 1 ∨ t.next.kind = 2 ∨ t.next.kind = 3
def WF (s : Str) (t : PS) : Prop := t.next = (rdQ s t.next.off).1 ∧ t.behind = (rdQ s t.next.off).2
theorem WF.adv (s : Str) (t : PS) : WF s (advP s t) := ⟨rfl, rfl⟩
theorem adv_ge (s : Str) (t : PS) : t.behind ≤ (advP s t).behind := by
  show t.behind ≤ (t.behind + skL false (s.drop t.behind)) + (rdS (s.drop (t.behind + skL false (s.drop t.behind)))).2
  omega
def Rch (s : Str) (t t' : PS) : Prop := t' = t ∨ (tok3 t ∧ t.behind ≤ t'.behind ∧ WF s t')
theorem Rch.trans {s : Str} {t t1 t2 : PS} (h : Rch s t t1) (h2 : Rch s t1 t2) : Rch s t t2 := by
  rcases h with rfl | ⟨a, b, c⟩
  · exact h2
  · rcases h2 with rfl | ⟨d, e, f⟩
    · exact .inr ⟨a, b, c⟩
    · exact .inr ⟨a, Nat.le_trans b e, f⟩
def Lo (G : PS → Prop) (s : Str) (t : PS) {α : Type} (r r' : PR α) : Prop := match r with
  | .ok x t1 => Rch s t t1 ∧ (G t1 → r' = .ok x t1)
  | .er t1 => Rch s t t1 ∧ (G t1 → r' = .er t1)
  | .out => True
section
variable {G : PS → Prop} {s z : Str} (hG : ∀ t t', tok3 t → t.behind ≤ t'.behind → G t' → G t) (hA : ∀ t, G (advP s t) → advP z t = advP s t)
theorem Lo.ok {α : Type} {t : PS} {x : α} : Lo G s t (PR.ok x t) (PR.ok x t) := ⟨.inl rfl, fun _ => rfl⟩
theorem Lo.er {α : Type} {t : PS} : Lo G s t (PR.er t : PR α) (PR.er t) := ⟨.inl rfl, fun _ => rfl⟩
theorem Lo.out {α : Type} {t : PS} {r' : PR α} : Lo G s t (PR.out : PR α) r' := trivial
include hG
theorem Lo.and {α β : Type} {t : PS} {r r' : PR α} {k k' : α → PS → PR β} (h : Lo G s t r r') (hk : ∀ x t1, Lo G s t1 (k x t1) (k' x t1)) : Lo G s t (r.and k) (r'.and k') := by
  have back : ∀ {t1 t2 : PS}, Rch s t1 t2 → G t2 → G t1 := fun {t1 t2} hr hg => by
    rcases hr with rfl | ⟨a, b, _⟩
    · exact hg
    · exact hG _ _ a b hg
  cases r with
  | out => exact trivial
  | er t1 =>
    refine ⟨h.1, fun hg => ?_⟩
    rw [h.2 hg]; rfl
  | ok x t1 =>
    have h2 := hk x t1
    show Lo G s t (k x t1) (r'.and k')
    cases hkr : k x t1 with
    | out => exact trivial
    | er t2 =>
      rw [hkr] at h2
      refine ⟨h.1.trans h2.1, fun hg => ?_⟩
      rw [h.2 (back h2.1 hg)]
      exact h2.2 hg
    | ok y t2 =>
      rw [hkr] at h2
      refine ⟨h.1.trans h2.1, fun hg => ?_⟩
      rw [h.2 (back h2.1 hg)]
      exact h2.2 hg
include hA
theorem Lo.adv {β : Type} {t : PS} (ht : tok3 t) {F F' : PS → PR β} (hk : ∀ t1, Lo G s t1 (F t1) (F' t1)) : Lo G s t (F (advP s t)) (F' (advP z t)) := by
  have h : Lo G s t (PR.ok () (advP s t)) (PR.ok () (advP z t)) := ⟨.inr ⟨ht, adv_ge s t, WF.adv s t⟩, fun hg => by rw [hA t hg]⟩
  exact Lo.and (k := fun _ t => F t) (k' := fun _ t => F' t) hG h fun _ t1 => hk t1
theorem Lo.step {α : Type} {t : PS} (ht : tok3 t) {x : α} : Lo G s t (PR.ok x (advP s t)) (PR.ok x (advP z t)) := Lo.adv hG hA ht (F := fun t => PR.ok x t) (F' := fun t => PR.ok x t) fun _ => Lo.ok
theorem lo_exp (w : Str) (t : PS) : Lo G s t (expP s [w] t) (expP z [w] t) := by
  unfold expP; split
  · rename_i hw
    exact Lo.adv hG hA (isP_tok hw) (F := fun t => expP s [] t) (F' := fun t => expP z [] t) fun t1 => by simp only [expP]; exact Lo.ok
  · exact Lo.er
theorem lo_exp2 (w x : Str) (t : PS) : Lo G s t (expP s [w, x] t) (expP z [w, x] t) := by
  rw [show expP s [w, x] t = if isP t w = true then expP s [x] (advP s t) else .er t by rw [expP], show expP z [w, x] t = if isP t w = true then expP z [x] (advP z t) else .er t by rw [expP]]; split
  · rename_i hw
    exact Lo.adv hG hA (isP_tok hw) (F := fun t => expP s [x] t) (F' := fun t => expP z [x] t) fun t1 => lo_exp hG hA x t1
  · exact Lo.er
theorem lo_name (t : PS) : Lo G s t (nameP s t) (nameP z t) := by
  unfold nameP; split
  · rename_i hw; exact Lo.step hG hA (isNm_tok hw)
  · exact Lo.er
theorem lo_numb (t : PS) : Lo G s t (numbP s t) (numbP z t) := by
  unfold numbP; split
  · rename_i hw; exact Lo.step hG hA (.inr (.inl hw))
  · exact Lo.er
theorem lo_ex (n : Nat) : (∀ m t least, n ≤ m → Lo G s t (pExpr s n least t) (pExpr z m least t)) ∧ (∀ m t least x, n ≤ m → Lo G s t (pLoop s n least x t) (pLoop z m least x t)) ∧ (∀ m t, n ≤ m → Lo G s t (pArg s n t) (pArg z m t)) ∧
    (∀ m t, n ≤ m → Lo G s t (pArgs s n t) (pArgs z m t)) ∧ (∀ m t l, n ≤ m → Lo G s t (pElems s n l t) (pElems z m l t)) := by
  induction n with
  | zero => exact ⟨fun _ _ _ _ => by rw [pExpr]; exact Lo.out, fun _ _ _ _ _ => by rw [pLoop]; exact Lo.out, fun _ _ _ => by rw [pArg]; exact Lo.out, fun _ _ _ => by rw [pArgs]; exact Lo.out, fun _ _ _ _ => by rw [pElems]; exact Lo.out⟩
  | succ n ih =>
    obtain ⟨hE, hL, hR, hS, hM⟩ := ih
    refine ⟨fun m t least hm => ?_, fun m t least x hm => ?_, fun m t hm => ?_, fun m t hm => ?_, fun m t l hm => ?_⟩
    all_goals (obtain ⟨m, rfl⟩ : ∃ k, m = k + 1 := ⟨m - 1, by omega⟩)
    · rw [pExpr, pExpr]
      exact Lo.and hG (hR m t O) fun x t2 => hL m t2 least x O
    · rw [pLoop, pLoop]; split
      · rename_i ho
        exact Lo.adv hG hA (binP_tok ho.1) (F := fun t1 => (pExpr s n (strg (binP t) + 1) t1).and fun y t2 => pLoop s n least (.mk 7 (binP t) 0 [] [x, y]) t2) (F' := fun t1 => (pExpr z m (strg (binP t) + 1) t1).and fun y t2 => pLoop z m least (.mk 7 (binP t) 0 [] [x, y]) t2)
          fun t1 => Lo.and hG (hE m t1 _ O) fun y t2 => hL m t2 least _ O
      · exact Lo.ok
    · have hun : ∀ o : Int, tok3 t → Lo G s t ((pArg s n (advP s t)).and fun x t => .ok (Ex.mk 6 o 0 [] [x]) t) ((pArg z m (advP z t)).and fun x t => .ok (Ex.mk 6 o 0 [] [x]) t) := fun o ht =>
        Lo.adv hG hA ht (F := fun t1 => (pArg s n t1).and fun x t => .ok (Ex.mk 6 o 0 [] [x]) t) (F' := fun t1 => (pArg z m t1).and fun x t => .ok (Ex.mk 6 o 0 [] [x]) t) fun t1 => Lo.and hG (hR m t1 O) fun _ _ => Lo.ok
      rw [pArg, pArg]; split
      · rename_i hw; exact hun 1 (isP_tok hw)
      · split
        · rename_i hw; exact hun 2 (isP_tok hw)
        · split
          · rename_i hw; exact hun 3 (isP_tok hw)
          · split
            · rename_i hw; exact Lo.step hG hA (.inr (.inl hw))
            · split
              · rename_i hw; exact Lo.step hG hA (isP_tok hw)
              · split
                · rename_i hw
                  exact Lo.adv hG hA (isP_tok hw) (F := fun t1 => (pExpr s n 1 t1).and fun x t => (expP s [[41]] t).and fun _ t => .ok x t) (F' := fun t1 => (pExpr z m 1 t1).and fun x t => (expP z [[41]] t).and fun _ t => .ok x t)
                    fun t1 => Lo.and hG (hE m t1 _ O) fun x t2 => Lo.and hG (lo_exp hG hA _ t2) fun _ _ => Lo.ok
                · refine Lo.and hG (lo_name hG hA t) fun w t2 => ?_
                  split
                  · rename_i hw
                    exact Lo.adv hG hA (isP_tok hw) (F := fun t1 => (pExpr s n 1 t1).and fun x t => (expP s [[93]] t).and fun _ t => .ok (Ex.mk 3 0 0 w [x]) t) (F' := fun t1 => (pExpr z m 1 t1).and fun x t => (expP z [[93]] t).and fun _ t => .ok (Ex.mk 3 0 0 w [x]) t)
                      fun t1 => Lo.and hG (hE m t1 _ O) fun x t3 => Lo.and hG (lo_exp hG hA _ t3) fun _ _ => Lo.ok
                  · split
                    · rename_i hw
                      exact Lo.adv hG hA (isP_tok hw) (F := fun t1 => (pArgs s n t1).and fun l t => .ok (Ex.mk 4 0 0 w l) t) (F' := fun t1 => (pArgs z m t1).and fun l t => .ok (Ex.mk 4 0 0 w l) t)
                        fun t1 => Lo.and hG (hS m t1 O) fun _ _ => Lo.ok
                    · exact Lo.ok
    · rw [pArgs, pArgs]; split
      · rename_i hw; exact Lo.step hG hA (isP_tok hw)
      · exact Lo.and hG (hM m t [] O) fun l t2 => Lo.and hG (lo_exp hG hA _ t2) fun _ _ => Lo.ok
    · rw [pElems, pElems]
      refine Lo.and hG (hE m t 1 O) fun x t2 => ?_
      split
      · rename_i hw
        exact Lo.adv hG hA (isP_tok hw) (F := fun t1 => pElems s n (l ++ [x]) t1) (F' := fun t1 => pElems z m (l ++ [x]) t1) fun t1 => hM m t1 _ O
      · exact Lo.ok
theorem lo_st (n : Nat) : (∀ m t l, n ≤ m → Lo G s t (pRest s n l t) (pRest z m l t)) ∧ (∀ m t, n ≤ m → Lo G s t (pCond s n t) (pCond z m t)) ∧ (∀ m t, n ≤ m → Lo G s t (pIf s n t) (pIf z m t)) ∧ (∀ m t, n ≤ m → Lo G s t (pStm s n t) (pStm z m t)) := by
  induction n with
  | zero => exact ⟨fun _ _ _ _ => by rw [pRest]; exact Lo.out, fun _ _ _ => by rw [pCond]; exact Lo.out, fun _ _ _ => by rw [pIf]; exact Lo.out, fun _ _ _ => by rw [pStm]; exact Lo.out⟩
  | succ n ih =>
    obtain ⟨hR, hC, hI, hS⟩ := ih
    refine ⟨fun m t l hm => ?_, fun m t hm => ?_, fun m t hm => ?_, fun m t hm => ?_⟩
    all_goals (obtain ⟨m, rfl⟩ : ∃ k, m = k + 1 := ⟨m - 1, by omega⟩)
    · rw [pRest, pRest]; split
      · rename_i hw; exact Lo.step hG hA (isP_tok hw)
      · exact Lo.and hG (hS m t O) fun x t2 => hR m t2 _ O
    · rw [pCond, pCond]
      exact Lo.and hG (lo_exp hG hA _ t) fun _ t2 => Lo.and hG ((lo_ex hG hA n).1 m t2 1 O) fun x t3 => Lo.and hG (lo_exp2 hG hA _ _ t3) fun _ t4 => Lo.and hG (hR m t4 [] O) fun b t5 => Lo.ok
    · rw [pIf, pIf]
      refine Lo.and hG (hC m t O) fun c t2 => ?_
      split
      · rename_i hw
        exact Lo.adv hG hA (isP_tok hw) (F := fun t3 => if isP t3 [105, 102] = true then (pIf s n (advP s t3)).and fun y t => .ok (Stm.mk 3 [] [c.1] c.2 [y]) t else (expP s [[123]] t3).and fun _ t => (pRest s n [] t).and fun e t => .ok (Stm.mk 3 [] [c.1] c.2 e) t)
          (F' := fun t3 => if isP t3 [105, 102] = true then (pIf z m (advP z t3)).and fun y t => .ok (Stm.mk 3 [] [c.1] c.2 [y]) t else (expP z [[123]] t3).and fun _ t => (pRest z m [] t).and fun e t => .ok (Stm.mk 3 [] [c.1] c.2 e) t) fun t3 => by
          split
          · rename_i hw2
            exact Lo.adv hG hA (isP_tok hw2) (F := fun t4 => (pIf s n t4).and fun y t => .ok (Stm.mk 3 [] [c.1] c.2 [y]) t) (F' := fun t4 => (pIf z m t4).and fun y t => .ok (Stm.mk 3 [] [c.1] c.2 [y]) t) fun t4 => Lo.and hG (hI m t4 O) fun _ _ => Lo.ok
          · exact Lo.and hG (lo_exp hG hA _ t3) fun _ t4 => Lo.and hG (hR m t4 [] O) fun _ _ => Lo.ok
      · exact Lo.ok
    · have harg : ∀ k : Int, tok3 t → Lo G s t ((pExpr s n 1 (advP s t)).and fun x t => (expP s [[59]] t).and fun _ t => .ok (Stm.mk k [] [x] [] []) t) ((pExpr z m 1 (advP z t)).and fun x t => (expP z [[59]] t).and fun _ t => .ok (Stm.mk k [] [x] [] []) t) := fun k ht =>
        Lo.adv hG hA ht (F := fun t1 => (pExpr s n 1 t1).and fun x t => (expP s [[59]] t).and fun _ t => .ok (Stm.mk k [] [x] [] []) t) (F' := fun t1 => (pExpr z m 1 t1).and fun x t => (expP z [[59]] t).and fun _ t => .ok (Stm.mk k [] [x] [] []) t)
          fun t1 => Lo.and hG ((lo_ex hG hA n).1 m t1 1 O) fun x t2 => Lo.and hG (lo_exp hG hA _ t2) fun _ _ => Lo.ok
      have hno : ∀ k : Int, tok3 t → Lo G s t ((expP s [[59]] (advP s t)).and fun _ t => .ok (Stm.mk k [] [] [] []) t) ((expP z [[59]] (advP z t)).and fun _ t => .ok (Stm.mk k [] [] [] []) t) := fun k ht =>
        Lo.adv hG hA ht (F := fun t1 => (expP s [[59]] t1).and fun _ t => .ok (Stm.mk k [] [] [] []) t) (F' := fun t1 => (expP z [[59]] t1).and fun _ t => .ok (Stm.mk k [] [] [] []) t) fun t1 => Lo.and hG (lo_exp hG hA _ t1) fun _ _ => Lo.ok
      rw [pStm, pStm]; split
      · rename_i hw
        refine Lo.adv hG hA (isNm_tok hw)
          (F := fun t1 => if isP t1 [61] = true then (pExpr s n 1 (advP s t1)).and fun x t2 => (expP s [[59]] t2).and fun _ t2 => .ok (Stm.mk 1 t.next.text [x] [] []) t2
            else if isP t1 [91] = true then (pExpr s n 1 (advP s t1)).and fun x t2 => (expP s [[93], [61]] t2).and fun _ t2 => (pExpr s n 1 t2).and fun y t2 => (expP s [[59]] t2).and fun _ t2 => .ok (Stm.mk 2 t.next.text [x, y] [] []) t2
            else (expP s [[40]] t1).and fun _ t2 => (pArgs s n t2).and fun l t2 => (expP s [[59]] t2).and fun _ t2 => .ok (Stm.mk 5 t.next.text l [] []) t2)
          (F' := fun t1 => if isP t1 [61] = true then (pExpr z m 1 (advP z t1)).and fun x t2 => (expP z [[59]] t2).and fun _ t2 => .ok (Stm.mk 1 t.next.text [x] [] []) t2
            else if isP t1 [91] = true then (pExpr z m 1 (advP z t1)).and fun x t2 => (expP z [[93], [61]] t2).and fun _ t2 => (pExpr z m 1 t2).and fun y t2 => (expP z [[59]] t2).and fun _ t2 => .ok (Stm.mk 2 t.next.text [x, y] [] []) t2
            else (expP z [[40]] t1).and fun _ t2 => (pArgs z m t2).and fun l t2 => (expP z [[59]] t2).and fun _ t2 => .ok (Stm.mk 5 t.next.text l [] []) t2) fun t1 => ?_
        split
        · rename_i hw2
          exact Lo.adv hG hA (isP_tok hw2) (F := fun t2 => (pExpr s n 1 t2).and fun x t2 => (expP s [[59]] t2).and fun _ t2 => .ok (Stm.mk 1 t.next.text [x] [] []) t2) (F' := fun t2 => (pExpr z m 1 t2).and fun x t2 => (expP z [[59]] t2).and fun _ t2 => .ok (Stm.mk 1 t.next.text [x] [] []) t2)
            fun t2 => Lo.and hG ((lo_ex hG hA n).1 m t2 1 O) fun x t3 => Lo.and hG (lo_exp hG hA _ t3) fun _ _ => Lo.ok
        · split
          · rename_i hw2
            exact Lo.adv hG hA (isP_tok hw2) (F := fun t2 => (pExpr s n 1 t2).and fun x t2 => (expP s [[93], [61]] t2).and fun _ t2 => (pExpr s n 1 t2).and fun y t2 => (expP s [[59]] t2).and fun _ t2 => .ok (Stm.mk 2 t.next.text [x, y] [] []) t2)
              (F' := fun t2 => (pExpr z m 1 t2).and fun x t2 => (expP z [[93], [61]] t2).and fun _ t2 => (pExpr z m 1 t2).and fun y t2 => (expP z [[59]] t2).and fun _ t2 => .ok (Stm.mk 2 t.next.text [x, y] [] []) t2)
              fun t2 => Lo.and hG ((lo_ex hG hA n).1 m t2 1 O) fun x t3 => Lo.and hG (lo_exp2 hG hA _ _ t3) fun _ t4 => Lo.and hG ((lo_ex hG hA n).1 m t4 1 O) fun y t5 => Lo.and hG (lo_exp hG hA _ t5) fun _ _ => Lo.ok
          · exact Lo.and hG (lo_exp hG hA _ t1) fun _ t2 => Lo.and hG ((lo_ex hG hA n).2.2.2.1 m t2 O) fun l t3 => Lo.and hG (lo_exp hG hA _ t3) fun _ _ => Lo.ok
      · split
        · rename_i hw
          exact Lo.adv hG hA (isP_tok hw) (F := fun t1 => pIf s n t1) (F' := fun t1 => pIf z m t1) fun t1 => hI m t1 O
        · split
          · rename_i hw
            exact Lo.adv hG hA (isP_tok hw) (F := fun t1 => (pCond s n t1).and fun c t => .ok (Stm.mk 4 [] [c.1] c.2 []) t) (F' := fun t1 => (pCond z m t1).and fun c t => .ok (Stm.mk 4 [] [c.1] c.2 []) t) fun t1 => Lo.and hG (hC m t1 O) fun _ _ => Lo.ok
          · split
            · rename_i hw; exact harg 6 (isP_tok hw)
            · split
              · rename_i hw; exact harg 7 (isP_tok hw)
              · split
                · rename_i hw; exact harg 8 (isP_tok hw)
                · split
                  · rename_i hw; exact hno 9 (isP_tok hw)
                  · split
                    · rename_i hw; exact hno 10 (isP_tok hw)
                    · exact Lo.er
theorem lo_names (n : Nat) : ∀ (m : Nat) (t : PS) (l : List Str), n ≤ m → Lo G s t (pNames s n l t) (pNames z m l t) := by
  induction n with
  | zero => intro m t l _; rw [pNames]; exact Lo.out
  | succ n ih =>
    intro m t l hm
    obtain ⟨m, rfl⟩ : ∃ k, m = k + 1 := ⟨m - 1, by omega⟩
    rw [pNames, pNames]
    refine Lo.and hG (lo_name hG hA t) fun w t2 => ?_
    split
    · rename_i hw
      exact Lo.adv hG hA (isP_tok hw) (F := fun t1 => pNames s n (l ++ [w]) t1) (F' := fun t1 => pNames z m (l ++ [w]) t1) fun t1 => ih m t1 _ O
    · exact Lo.ok
theorem lo_nums (n : Nat) : ∀ (m : Nat) (t : PS) (l : List Int), n ≤ m → Lo G s t (pNums s n l t) (pNums z m l t) := by
  induction n with
  | zero => intro m t l _; rw [pNums]; exact Lo.out
  | succ n ih =>
    intro m t l hm
    obtain ⟨m, rfl⟩ : ∃ k, m = k + 1 := ⟨m - 1, by omega⟩
    rw [pNums, pNums]
    refine Lo.and hG (lo_numb hG hA t) fun w t2 => ?_
    split
    · rename_i hw
      exact Lo.adv hG hA (isP_tok hw) (F := fun t1 => pNums s n (l ++ [w]) t1) (F' := fun t1 => pNums z m (l ++ [w]) t1) fun t1 => ih m t1 _ O
    · exact Lo.ok
theorem lo_glo (n m : Nat) (t : PS) (hm : n ≤ m) : Lo G s t (pGlo s n t) (pGlo z m t) := by
  unfold pGlo; split
  · rename_i hw
    exact Lo.adv hG hA (isP_tok hw) (F := fun t1 => (nameP s t1).and fun w t => (expP s [[61]] t).and fun _ t => (numbP s t).and fun v t => (expP s [[59]] t).and fun _ t => .ok (⟨1, w, v, []⟩ : Glo) t)
      (F' := fun t1 => (nameP z t1).and fun w t => (expP z [[61]] t).and fun _ t => (numbP z t).and fun v t => (expP z [[59]] t).and fun _ t => .ok (⟨1, w, v, []⟩ : Glo) t)
      fun t1 => Lo.and hG (lo_name hG hA t1) fun w t2 => Lo.and hG (lo_exp hG hA _ t2) fun _ t3 => Lo.and hG (lo_numb hG hA t3) fun v t4 => Lo.and hG (lo_exp hG hA _ t4) fun _ _ => Lo.ok
  · split
    · rename_i hw
      exact Lo.adv hG hA (isP_tok hw) (F := fun t1 => (nameP s t1).and fun w t => (expP s [[59]] t).and fun _ t => .ok (⟨2, w, 0, []⟩ : Glo) t) (F' := fun t1 => (nameP z t1).and fun w t => (expP z [[59]] t).and fun _ t => .ok (⟨2, w, 0, []⟩ : Glo) t)
        fun t1 => Lo.and hG (lo_name hG hA t1) fun w t2 => Lo.and hG (lo_exp hG hA _ t2) fun _ _ => Lo.ok
    · refine Lo.and hG (lo_exp hG hA _ t) fun _ t1 => Lo.and hG (lo_name hG hA t1) fun w t2 => Lo.and hG (lo_exp hG hA _ t2) fun _ t3 => Lo.and hG (lo_numb hG hA t3) fun v t4 => Lo.and hG (lo_exp hG hA _ t4) fun _ t5 => ?_
      split
      · rename_i hw
        exact Lo.adv hG hA (isP_tok hw) (F := fun t1 => (pNums s n [] t1).and fun l t => (expP s [[59]] t).and fun _ t => .ok (⟨3, w, v, l⟩ : Glo) t) (F' := fun t1 => (pNums z m [] t1).and fun l t => (expP z [[59]] t).and fun _ t => .ok (⟨3, w, v, l⟩ : Glo) t)
          fun t1 => Lo.and hG (lo_nums hG hA n m t1 [] hm) fun l t2 => Lo.and hG (lo_exp hG hA _ t2) fun _ _ => Lo.ok
      · exact Lo.and hG (lo_exp hG hA _ t5) fun _ _ => Lo.ok
theorem lo_body (n m : Nat) (w : Str) (ps : List Str) (t : PS) (hm : n ≤ m) : Lo G s t (pBody s n w ps t) (pBody z m w ps t) := by
  unfold pBody
  refine Lo.and hG (lo_exp2 hG hA _ _ t) fun _ t1 => ?_
  split
  · rename_i hw
    exact Lo.adv hG hA (isP_tok hw) (F := fun t1 => (pNames s n [] t1).and fun l t => (expP s [[59]] t).and fun _ t => (pRest s n [] t).and fun b t => .ok (⟨w, ps, l, b⟩ : Fnc) t) (F' := fun t1 => (pNames z m [] t1).and fun l t => (expP z [[59]] t).and fun _ t => (pRest z m [] t).and fun b t => .ok (⟨w, ps, l, b⟩ : Fnc) t)
      fun t1 => Lo.and hG (lo_names hG hA n m t1 [] hm) fun l t2 => Lo.and hG (lo_exp hG hA _ t2) fun _ t3 => Lo.and hG ((lo_st hG hA n).1 m t3 [] hm) fun _ _ => Lo.ok
  · exact Lo.and hG ((lo_st hG hA n).1 m t1 [] hm) fun _ _ => Lo.ok
theorem lo_fun (n m : Nat) (t : PS) (hm : n ≤ m) : Lo G s t (pFun s n t) (pFun z m t) := by
  unfold pFun
  refine Lo.and hG (lo_name hG hA t) fun w t1 => Lo.and hG (lo_exp hG hA _ t1) fun _ t2 => ?_
  split
  · exact lo_body hG hA n m w [] t2 hm
  · exact Lo.and hG (lo_names hG hA n m t2 [] hm) fun l t3 => lo_body hG hA n m w l t3 hm
theorem lo_prog (n : Nat) : ∀ (m : Nat) (t : PS) (p : Prg), n ≤ m → Lo G s t (pProg s n p t) (pProg z m p t) := by
  induction n with
  | zero => intro m t p _; rw [pProg]; exact Lo.out
  | succ n ih =>
    intro m t p hm
    obtain ⟨m, rfl⟩ : ∃ k, m = k + 1 := ⟨m - 1, by omega⟩
    rw [pProg, pProg]; split
    · exact Lo.ok
    · split
      · rename_i hw
        exact Lo.adv hG hA (isP_tok hw) (F := fun t1 => (pFun s n t1).and fun x t => pProg s n ⟨p.globals, p.funcs ++ [x]⟩ t) (F' := fun t1 => (pFun z m t1).and fun x t => pProg z m ⟨p.globals, p.funcs ++ [x]⟩ t)
          fun t1 => Lo.and hG (lo_fun hG hA n m t1 O) fun x t2 => ih m t2 _ O
      · exact Lo.and hG (lo_glo hG hA n m t O) fun g t2 => ih m t2 _ O
end
theorem prog_more' {s : Str} {n m : Nat} {p : Prg} {t : PS} (h : pProg s n p t ≠ .out) (hm : n ≤ m) : pProg s m p t = pProg s n p t := by
  have := lo_prog (G := fun _ => True) (s := s) (z := s) (fun _ _ _ _ _ => trivial) (fun _ _ => rfl) n m t p hm
  cases hr : pProg s n p t with
  | ok x t' => rw [hr] at this; exact this.2 trivial
  | er t' => rw [hr] at this; exact this.2 trivial
  | out => exact absurd hr h
-- the tokenizer at the cut
theorem skL_take : ∀ (b : Bool) (u : Str) (n : Nat) (v : Str), skL b u < n → n ≤ u.length → skL b (u.take n ++ v) = skL b u
  | b, [], n, v, h, hn => by simp at hn; omega
  | b, c :: r, 0, v, h, hn => by omega
  | false, c :: r, n + 1, v, h, hn => by
    rw [List.take_succ_cons, List.cons_append]
    simp only [skL] at h ⊢
    simp only [List.length_cons] at hn
    split
    · rename_i hc; rw [if_pos hc] at h; rw [skL_take false r n v O O]
    · rename_i hc
      rw [if_neg hc] at h
      split
      · rename_i hd; rw [if_pos hd] at h; rw [skL_take true r n v O O]
      · rfl
  | true, c :: r, n + 1, v, h, hn => by
    rw [List.take_succ_cons, List.cons_append]
    simp only [skL] at h ⊢
    simp only [List.length_cons] at hn
    split
    · rename_i hc; rw [if_pos hc] at h; rw [skL_take false r n v O O]
    · rename_i hc; rw [if_neg hc] at h; rw [skL_take true r n v O O]
theorem tw_take {p : UInt8 → Bool} {x : UInt8} (hx : p x = false) : ∀ (u : Str) (n : Nat) (v : Str), (u.takeWhile p).length ≤ n → (u.take n ++ x :: v).takeWhile p = u.takeWhile p
  | [], n, v, _ => by simp [hx]
  | c :: r, 0, v, h => by
    rw [List.takeWhile_cons] at h ⊢
    split at h
    · simp at h
    · rename_i hc; rw [if_neg hc]; simp [hx]
  | c :: r, n + 1, v, h => by
    rw [List.take_succ_cons, List.cons_append, List.takeWhile_cons, List.takeWhile_cons]
    rw [List.takeWhile_cons] at h
    split
    · rename_i hc
      rw [if_pos hc, List.length_cons] at h
      rw [tw_take hx r n v O]
    · rfl
theorem find_same {α : Type} {p q : α → Bool} {x : α} : ∀ {l : List α}, l.find? p = some x → (∀ y ∈ l, q y = true → p y = true) → q x = true → l.find? q = some x
  | [], h, _, _ => by cases h
  | y :: l, h, hq, hx => by
    rw [List.find?_cons] at h ⊢
    cases hp : p y with
    | true =>
      rw [hp] at h
      injection h with h
      subst h
      rw [hx]
    | false =>
      rw [hp] at h
      cases hy : q y with
      | true => have := hq y (List.mem_cons_self ..) hy; rw [hp] at this; cases this
      | false => exact find_same h (fun z hz => hq z (List.mem_cons_of_mem _ hz)) hx
theorem rdS_takeX {z : UInt8} (hz : z = 32 ∨ z = 9 ∨ z = 10 ∨ z = 35) (u : Str) (n : Nat) (v : Str) (hk : tk3 (rdS u).1) (hn : (rdS u).2 ≤ n) (hu : n ≤ u.length) : rdS (u.take n ++ z :: v) = rdS u := by
  have z1 : (letB z || digB z) = false := by rcases hz with rfl | rfl | rfl | rfl <;> decide
  have z2 : digB z = false := by rcases hz with rfl | rfl | rfl | rfl <;> decide
  have hpos : 0 < (rdS u).2 := (rdS_ok u).2.2.2 hk
  have no4 : ∀ {w : Str} {x : Int}, ¬ tk3 ((4 : Int), w, x) := fun h => by rcases h with h | h | h <;> (have h' : (4 : Int) = _ := h; exact absurd h' (by decide))
  obtain ⟨n, rfl⟩ : ∃ k, n = k + 1 := ⟨n - 1, by omega⟩
  match u with
  | [] => simp at hu
  | c :: r =>
    have e : (c :: r).take (n + 1) ++ z :: v = c :: (r.take n ++ z :: v) := by rw [List.take_succ_cons]; rfl
    have hw : (wordL (c :: r)).length ≤ n + 1 → wordL (c :: (r.take n ++ z :: v)) = wordL (c :: r) := fun h => by rw [← e]; exact tw_take (p := fun x => letB x || digB x) z1 _ _ _ h
    have hd : (digL (c :: r)).length ≤ n + 1 → digL (c :: (r.take n ++ z :: v)) = digL (c :: r) := fun h => by rw [← e]; exact tw_take (p := digB) z2 _ _ _ h
    rw [e]
    rw [rdS] at hk hn ⊢
    rw [rdS]
    split at hk
    · rename_i hc
      rw [if_pos hc] at hn
      rw [if_pos hc, if_pos hc]
      split at hk
      · rename_i h1
        rw [if_pos h1] at hn
        rw [hw hn]
      · exact absurd hk no4
    · rename_i hc
      rw [if_neg hc] at hn
      rw [if_neg hc, if_neg hc]
      split at hk
      · rename_i hc2
        rw [if_pos hc2] at hn
        rw [if_pos hc2, if_pos hc2]
        cases hnum : numL (digL (c :: r)) with
        | none => rw [hnum] at hk; exact absurd hk no4
        | some m =>
          rw [hnum] at hn
          rw [hd hn, hnum]
      · rename_i hc2
        rw [if_neg hc2] at hn
        rw [if_neg hc2, if_neg hc2]
        split at hk
        · rename_i hc3
          rw [if_pos hc3] at hn
          rw [if_pos hc3, if_pos hc3]
          split at hk
          · rename_i h1
            rw [if_pos h1] at hn
            have hn' : 3 ≤ n + 1 := hn
            have h3 := chr_len h1
            obtain ⟨m, rfl⟩ : ∃ k, n = k + 2 := ⟨n - 2, by omega⟩
            match r, h3 with
            | a :: b :: r, _ =>
              have e2 : (c :: ((a :: b :: r).take (m + 2) ++ z :: v)) = c :: a :: b :: (r.take m ++ z :: v) := by rw [List.take_succ_cons, List.take_succ_cons]; rfl
              rw [e2]
              have e3 : chrB (c :: a :: b :: (r.take m ++ z :: v)) = chrB (c :: a :: b :: r) := by simp [chrB]
              rw [e3, if_pos h1, if_pos h1]
              simp
          · exact absurd hk no4
        · rename_i hc3
          rw [if_neg hc3] at hn
          rw [if_neg hc3, if_neg hc3]
          cases hf : signsP.find? (fun x => x.isPrefixOf (c :: r)) with
          | none => rw [hf] at hk; exact absurd hk no4
          | some x =>
            rw [hf] at hn
            have hxl : x.length ≤ n + 1 := hn
            have hl2 : ∀ y ∈ signsP, y.length ≤ 2 ∧ 1 ≤ y.length ∧ y.getD 1 0 ≠ z := by
              rcases hz with rfl | rfl | rfl | rfl <;> decide +kernel
            have hq : ∀ y ∈ signsP, y.isPrefixOf (c :: (r.take n ++ z :: v)) = true → y.isPrefixOf (c :: r) = true := by
              intro y hy h
              obtain ⟨k1, k2, k3⟩ := hl2 y hy
              match y, k1, k2, k3, h with
              | [a], _, _, _, h => simpa [List.isPrefixOf] using h
              | [a, b], _, _, k3, h =>
                simp only [List.isPrefixOf, Bool.and_eq_true, beq_iff_eq] at h ⊢
                cases n with
                | zero =>
                  rw [List.take_zero, List.nil_append] at h
                  simp only [List.isPrefixOf, Bool.and_eq_true, beq_iff_eq] at h
                  exact absurd h.2.1 k3
                | succ n =>
                  cases r with
                  | nil => simp at hu
                  | cons d r =>
                    rw [List.take_succ_cons, List.cons_append] at h
                    simpa [List.isPrefixOf] using h
            have hx : x.isPrefixOf (c :: (r.take n ++ z :: v)) = true := by
              have h0 : x.isPrefixOf (c :: r) = true := by have := List.find?_some hf; simpa using this
              have h1 := List.isPrefixOf_iff_prefix.1 h0
              rw [List.isPrefixOf_iff_prefix, ← e]
              have h2 : x <+: (c :: r).take (n + 1) := List.prefix_take_iff.2 ⟨h1, hxl⟩
              exact h2.trans (List.prefix_append _ _)
            rw [find_same hf hq hx]
theorem rdS_take (u : Str) (n : Nat) (v : Str) (hk : tk3 (rdS u).1) (hn : (rdS u).2 ≤ n) (hu : n ≤ u.length) : rdS (u.take n ++ 32 :: v) = rdS u := rdS_takeX (.inl rfl) u n v hk hn hu
def cutT (s : Str) (e : Nat) (v : Str) : Str := s.take e ++ 32 :: v
theorem cut_drop {s v : Str} {e a : Nat} (ha : a ≤ e) (he : e ≤ s.length) : (cutT s e v).drop a = (s.drop a).take (e - a) ++ 32 :: v := by
  rw [cutT, List.drop_append_of_le_length (by rw [List.length_take]; omega), List.drop_take]
theorem adv_cut {s v : Str} {e : Nat} (he : e ≤ s.length) (t : PS) (h1 : tok3 (advP s t)) (h2 : (advP s t).behind ≤ e) : advP (cutT s e v) t = advP s t := by
  have hb : (advP s t).behind = (t.behind + skL false (s.drop t.behind)) + (rdS (s.drop (t.behind + skL false (s.drop t.behind)))).2 := rfl
  have hk : tk3 (rdS (s.drop (t.behind + skL false (s.drop t.behind)))).1 := h1
  have hpos := (rdS_ok (s.drop (t.behind + skL false (s.drop t.behind)))).2.2.2 hk
  rw [hb] at h2
  have e1 : skL false ((cutT s e v).drop t.behind) = skL false (s.drop t.behind) := by
    rw [cut_drop O he]
    exact skL_take _ _ _ _ O (by rw [List.length_drop]; omega)
  have e2 : rdS ((cutT s e v).drop (t.behind + skL false (s.drop t.behind))) = rdS (s.drop (t.behind + skL false (s.drop t.behind))) := by
    rw [cut_drop O he]
    exact rdS_take _ _ _ hk O (by rw [List.length_drop]; omega)
  simp only [advP, rdQ, e1, e2]
theorem gloC_ne1 (g : Glo) : gloC g ≠ 1 := by
  unfold gloC
  repeat' split
  all_goals decide
theorem exC_ne1 (k o n : Int) (nm : Str) (na : Nat) : exC k o n nm na ≠ 1 := by
  unfold exC
  repeat' split
  all_goals decide
theorem stC_ne1 (k : Int) (nm : Str) (a b c : Nat) : stC k nm a b c ≠ 1 := by
  unfold stC
  repeat' split
  all_goals decide
mutual
theorem wkX_ne1 : ∀ (x : Ex) (lv c : Nat), (wkX x lv c).2 ≠ 1
  | .mk k o n nm az, lv, c => by
    rw [wkX]
    split
    · simp
    · split
      · exact exC_ne1 _ _ _ _ _
      · exact wkXs_ne1 az _ _
theorem wkXs_ne1 : ∀ (l : List Ex) (lv c : Nat), (wkXs l lv c).2 ≠ 1
  | [], _, _ => by rw [wkXs]; simp
  | x :: r, lv, c => by
    rw [wkXs]
    split
    · exact wkX_ne1 x lv c
    · exact wkXs_ne1 r _ _
end
mutual
theorem wkS_ne1 : ∀ (x : Stm) (lv c : Nat), (wkS x lv c).2 ≠ 1
  | .mk k nm es b e, lv, c => by
    rw [wkS]
    split
    · simp
    · split
      · exact stC_ne1 _ _ _ _ _
      · split
        · exact wkXs_ne1 es _ _
        · split
          · exact wkSs_ne1 b _ _
          · exact wkSs_ne1 e _ _
theorem wkSs_ne1 : ∀ (l : List Stm) (lv c : Nat), (wkSs l lv c).2 ≠ 1
  | [], _, _ => by rw [wkSs]; simp
  | x :: r, lv, c => by
    rw [wkSs]
    split
    · exact wkS_ne1 x lv c
    · exact wkSs_ne1 r _ _
end
theorem fnC_ne1 (x : Fnc) (c : Nat) : (fnC x c).2 ≠ 1 := by
  unfold fnC
  split
  · simp
  · split
    · simp
    · split
      · simp
      · exact wkSs_ne1 _ _ _
theorem fnF_ne1 : ∀ (l : List Fnc) (i c : Nat), (fnF l i c).1 ≠ 1
  | [], _, _ => by rw [fnF]; simp
  | x :: r, i, c => by
    rw [fnF]
    split
    · exact fnC_ne1 x c
    · exact fnF_ne1 r _ _
theorem glF_ne1 : ∀ (l : List Glo) (i : Nat), (glF l i).1 ≠ 1
  | [], _ => by rw [glF]; simp
  | x :: r, i => by
    rw [glF]
    split
    · exact gloC_ne1 x
    · exact glF_ne1 r _
theorem shapeF_ne1 (p : Prg) : (shapeF p).1 ≠ 1 := by
  unfold shapeF
  split
  · simp
  · split
    · exact glF_ne1 _ _
    · split
      · simp
      · exact fnF_ne1 _ _ _
theorem prgF_ne1 (p : Prg) : (prgF p).1 ≠ 1 := by
  unfold prgF
  split
  · exact shapeF_ne1 p
  · split <;> simp
theorem par_er {s : Str} {p : Prg} {i : Int} (h : parP s = (p, (1, i))) : p = ⟨[], []⟩ ∧ s.length ≤ 12000 ∧ ∃ t, pProg s (fuelP s) ⟨[], []⟩ (advP s zeroT) = .er t ∧ i = (t.next.off : Int) := by
  unfold parP at h
  split at h
  · injection h with _ h; injection h with h _; exact absurd h (by decide)
  · rename_i hl
    cases hr : pProg s (fuelP s) ⟨[], []⟩ (advP s zeroT) with
    | ok q t =>
      rw [hr] at h
      simp only at h
      split at h
      · injection h with _ h
        exact absurd (congrArg Prod.fst h) (prgF_ne1 q)
      · injection h with _ h; injection h with h _; exact absurd h (by decide)
    | er t =>
      rw [hr] at h
      injection h with h1 h2
      injection h2 with _ h2
      exact ⟨h1.symm, by omega, t, rfl, h2.symm⟩
    | out =>
      rw [hr] at h
      injection h with _ h; injection h with h _; exact absurd h (by decide)
theorem err_same {s v : Str} {p : Prg} {a : Nat} (h : parP s = (p, (1, (a : Int)))) (hk : tk3 (rdS (s.drop a)).1) (hl : (cutT s (a + (rdS (s.drop a)).2) v).length ≤ 12000) : parP (cutT s (a + (rdS (s.drop a)).2) v) = (⟨[], []⟩, (1, (a : Int))) := by
  obtain ⟨_, hs, t, hr, hi⟩ := par_er h
  have ha : a = t.next.off := by omega
  have hlo := lo_prog (G := fun t => tok3 t ∧ t.behind ≤ a + (rdS (s.drop a)).2) (s := s) (z := cutT s (a + (rdS (s.drop a)).2) v) (fun t t' h1 h2 h3 => ⟨h1, Nat.le_trans h2 h3.2⟩) (fun t ht => by
    have hPG := (rdS_ok (s.drop a)).1
    have ha' : a ≤ s.length := by
      rcases Nat.lt_or_ge s.length a with h | h
      · rw [List.drop_eq_nil_of_le O] at hk
        rcases hk with hk | hk | hk <;> exact absurd hk (by decide)
      · exact h
    rw [List.length_drop] at hPG
    exact adv_cut O t ht.1 ht.2) (fuelP s) (fuelP s + fuelP (cutT s (a + (rdS (s.drop a)).2) v)) (advP s zeroT) ⟨[], []⟩ O
  rw [hr] at hlo
  have hwf : WF s t := by
    rcases hlo.1 with h | ⟨_, _, h⟩
    · rw [h]; exact WF.adv s zeroT
    · exact h
  have hG : tok3 t ∧ t.behind ≤ a + (rdS (s.drop a)).2 := by
    refine ⟨?_, ?_⟩
    · have : tok3 t = tk3 (rdS (s.drop t.next.off)).1 := by
        have hn := congrArg Tok.kind hwf.1
        have hn' : t.next.kind = (rdS (s.drop t.next.off)).1.1 := hn
        unfold tok3 tk3
        rw [hn']
      rw [this, ← ha]; exact hk
    · have : t.behind = t.next.off + (rdS (s.drop t.next.off)).2 := hwf.2
      rw [this, ← ha]; exact Nat.le_refl _
  have h0 : advP (cutT s (a + (rdS (s.drop a)).2) v) zeroT = advP s zeroT := by
    have hg0 : tok3 (advP s zeroT) ∧ (advP s zeroT).behind ≤ a + (rdS (s.drop a)).2 := by
      rcases hlo.1 with h | ⟨h1, h2, _⟩
      · rw [← h]; exact hG
      · exact ⟨h1, Nat.le_trans h2 hG.2⟩
    have hPG := (PG.zero s).hb
    have hb2 := (rdS_ok (s.drop a)).1
    rw [List.length_drop] at hb2
    have ha' : a ≤ s.length := by
      rcases Nat.lt_or_ge s.length a with h | h
      · rw [List.drop_eq_nil_of_le O] at hk
        rcases hk with hk | hk | hk <;> exact absurd hk (by decide)
      · exact h
    exact adv_cut O zeroT hg0.1 hg0.2
  have hbig := hlo.2 hG
  rw [← h0] at hbig
  have hfin := (prog_fin (cutT s (a + (rdS (s.drop a)).2) v)).no
  have hmore := prog_more' (m := fuelP s + fuelP (cutT s (a + (rdS (s.drop a)).2) v)) hfin O
  rw [hbig] at hmore
  rw [parP, if_neg O, ← hmore]
  show ((⟨[], []⟩ : Prg), ((1 : Int), (t.next.off : Int))) = _
  rw [ha]
theorem rt_rd {u : Str} (h : ¬ (rtS u).1 < 2) : tk3 (rdS u).1 ∧ (rdS u).2 = (rtS u).2.1.length := by
  match u with
  | [] => exact absurd (by decide : (0 : Int) < 2) h
  | c :: r =>
    rw [rtS] at h ⊢
    rw [rdS]
    split at h
    · rename_i hc
      rw [if_pos hc, if_pos hc]
      split at h
      · rename_i hk
        rw [if_pos hk, if_pos (by rw [hk]; rfl)]
        exact ⟨.inl rfl, rfl⟩
      · rename_i hk
        rw [if_neg hk]
        split at h
        · rename_i hi
          rw [if_pos hi, if_pos (by rw [hi, Bool.or_true])]
          exact ⟨.inl rfl, rfl⟩
        · exact absurd (by decide : (1 : Int) < 2) h
    · rename_i hc
      rw [if_neg hc, if_neg hc]
      split at h
      · rename_i hd
        rw [if_pos hd, if_pos hd]
        cases hn : numL (digL (c :: r)) with
        | none => rw [hn] at h; exact absurd (by decide : (1 : Int) < 2) h
        | some n => exact ⟨.inr (.inl rfl), rfl⟩
      · rename_i hd
        rw [if_neg hd, if_neg hd]
        split at h
        · rename_i hq
          rw [if_pos hq, if_pos hq]
          split at h
          · rename_i hb
            rw [if_pos hb, if_pos hb]
            have h3 := chr_len hb
            refine ⟨.inr (.inl Z), ?_⟩
            show 3 = ((c :: r).take 3).length
            rw [List.length_take]; omega
          · exact absurd (by decide : (1 : Int) < 2) h
        · rename_i hq
          rw [if_neg hq, if_neg hq]
          cases hf : signsP.find? (fun x => x.isPrefixOf (c :: r)) with
          | none => rw [hf] at h; exact absurd (by decide : (1 : Int) < 2) h
          | some x => exact ⟨.inr (.inr rfl), rfl⟩
theorem RL.mem {s : Str} {a : Nat} {l : List RT} (h : RL s a l) : ∀ t ∈ l, t = rtA s t.off := by
  induction h with
  | stop h _ =>
    intro t ht
    rw [List.mem_singleton.1 ht, h]; rfl
  | next h _ _ ih =>
    intro t ht
    rcases List.mem_cons.1 ht with rfl | ht
    · rw [h]; rfl
    · exact ih t ht
def commaK : List (List Tk) → List Tk
  | [] => []
  | [x] => x
  | x :: y :: r => x ++ sgK [44] :: commaK (y :: r)
def getW : Str := [103, 101, 116]
def exKW (k o n : Int) (nm : Str) (az : List (List Tk)) (out : Int) : List Tk :=
  if k = 1 then [nuK n] else if k = 2 then [wdK nm] else if k = 3 then wdK nm :: sgK [91] :: (commaK az ++ [sgK [93]])
  else if k = 4 then wdK nm :: sgK [40] :: (commaK az ++ [sgK [41]]) else if k = 5 then [wdK getW]
  else if k = 6 then sgK (sgnT o) :: az.getD 0 []
  else if strg o < out then sgK [40] :: (az.getD 0 [] ++ sgK (sgnT o) :: (az.getD 1 [] ++ [sgK [41]]))
  else az.getD 0 [] ++ sgK (sgnT o) :: az.getD 1 []
mutual
def exK : Ex → Int → List Tk
  | .mk k o n nm az, out => exKW k o n nm (exKs az (outers k o)) out
def exKs : List Ex → List Int → List (List Tk)
  | [], _ => []
  | x :: r, os => exK x (os.headD 0) :: exKs r os.tail
end
def elseW : Str := [101, 108, 115, 101]
def ifW : Str := [105, 102]
def whileW : Str := [119, 104, 105, 108, 101]
def wordK (k : Int) : Str := if k = 6 then [114, 101, 116, 117, 114, 110] else if k = 7 then [112, 117, 116] else if k = 8 then [115, 116, 111, 112] else if k = 9 then [98, 114, 101, 97, 107] else [99, 111, 110, 116, 105, 110, 117, 101]
def stK0 (k : Int) (nm : Str) (es : List (List Tk)) : List Tk :=
  if k = 1 then wdK nm :: sgK [61] :: (es.getD 0 [] ++ [sgK [59]]) else if k = 2 then wdK nm :: sgK [91] :: (es.getD 0 [] ++ sgK [93] :: sgK [61] :: (es.getD 1 [] ++ [sgK [59]]))
  else if k = 5 then wdK nm :: sgK [40] :: (commaK es ++ [sgK [41], sgK [59]]) else wdK (wordK k) :: (commaK es ++ [sgK [59]])
mutual
def stK : Stm → List Tk
  | .mk k nm es b e => if k = 3 ∨ k = 4 then
      wdK (if k = 3 then ifW else whileW) :: sgK [40] :: ((exKs es []).getD 0 [] ++ sgK [41] :: sgK [123] :: (stKs b ++ sgK [125] ::
        (if e.isEmpty = true then [] else if isIf e = true then wdK elseW :: stK1 e else wdK elseW :: sgK [123] :: (stKs e ++ [sgK [125]]))))
    else stK0 k nm (exKs es [])
def stKs : List Stm → List Tk
  | [] => []
  | x :: r => stK x ++ stKs r
def stK1 : List Stm → List Tk
  | [] => []
  | x :: _ => stK x
end
variable {s : Str}
def SH (x : Stm) : Prop := ∃ w r, stK x = wdK w :: r ∧ w ≠ [125] ∧ w ≠ elseW
-- names, numbers, globals, functions
theorem RL.len {s : Str} {a : Nat} {l : List RT} (h : RL s a l) (ha : a ≤ s.length) : l.length + a ≤ s.length + 1 ∧ ∀ t ∈ l, t.text.length ≤ s.length := by
  have hgap : ∀ a, a ≤ s.length → a ≤ gapN s a ∧ gapN s a ≤ s.length := fun a ha => by
    have := skL_le false (s.drop a)
    rw [List.length_drop] at this
    exact ⟨by unfold gapN; omega, by unfold gapN; omega⟩
  have hok : ∀ a, a ≤ s.length → a + (rtA s a).text.length ≤ s.length ∧ (¬ (rtA s a).kind ≤ 1 → 0 < (rtA s a).text.length) := fun a ha => by
    obtain ⟨h1, h2, h3⟩ := rtS_ok (s.drop a)
    rw [List.length_drop] at h1
    exact ⟨by show a + (rtS (s.drop a)).2.1.length ≤ _; omega, h3⟩
  induction h with
  | @stop a t h hk =>
    obtain ⟨g1, g2⟩ := hgap a ha
    have := (hok _ g2).1
    rw [← h] at this
    exact ⟨by rw [List.length_singleton]; omega, fun x hx => by rw [List.mem_singleton.1 hx]; omega⟩
  | @next a t l h hk _ ih =>
    obtain ⟨g1, g2⟩ := hgap a ha
    obtain ⟨h1, h2⟩ := hok _ g2
    rw [← h] at h1 h2
    have ho : t.off = gapN s a := by rw [h]; rfl
    have hp := h2 hk
    obtain ⟨i1, i2⟩ := ih O
    refine ⟨by rw [List.length_cons]; omega, fun x hx => ?_⟩
    rcases List.mem_cons.1 hx with rfl | hx
    · omega
    · exact i2 x hx
open Go.FL
attribute [local irreducible] JC JO JA JB thenQ blockQ retQ AC fill CellsAt QE Ev Mid
theorem Rts.at_ {s : World} {A : Option Addr} {n c k : Nat} {l : List RT} (h : Rts s A n c l) (hk : k < n) : ∃ b off x, A = some ⟨b, off, none⟩ ∧ l[k]? = some x ∧ CellsAt s b (off + k * 4) [.int .i64 x.kind, .int .i64 (x.off : Int), St x.text, .int .u32 x.num] ∧ x.text.length ≤ 9223372036854775807 ∧ U32 x.num := by
  have hl : k < l.length := by rw [← h.1]; exact hk
  obtain ⟨b, off, cs, h1, h2, _, rfl, h5⟩ := h.2.2.2 k l[k] (List.getElem?_eq_getElem hl)
  exact ⟨b, off, l[k], h1, List.getElem?_eq_getElem hl, h2, h5⟩
theorem tokensP_ac (D : Nat) (L : Hl) (s : World) (l : List UInt8) (hl : l.length ≤ 1100000) : AC Tryz.prog D 16 [St l] L s fun v L' s' => L = L' ∧ ∃ A n c' ts, v = .slice A n c' ∧ Rts s' A n c' ts ∧ RL l 0 ts := AC.pubW (tokens_ac D L s l hl)
theorem lawErrors_ac (D : Nat) (L : Hl) (s : World) (hG : GP s) (l v : List UInt8) (hv : v.length ≤ 140737488355328) : AC Tryz.prog D 7 [St l, St v] L s fun v L' _ => v = .bool true ∧ L = L' := by
 refine AC_enter (TT := TT) (fn := Tryz.f7) TT_ok Tryz.func7 V Z Tryz.ntmps7 Z (rs := [.tmp 4]) Z [(0, _), (1, _)] Z <| Sr <| At Z Z <| Zs <| Sr <| Jc Z Z Z (spelled_ac D _ _ (hG.le (Lr D))) ?_
 rintro _ _ s1 h1 ⟨rfl, rfl⟩
 refine ZqnT Z Z <| Nt <| Zz Z <| Zk <| Zt <| Sr <| Zqm Z Z <| Jc Z Z Z (parse_prog D _ _ (hG.le h1) l) ?_
 rintro _ _ s2 h2 ⟨rfl, dq, pq, fq, kq, Agq, ngq, cgq, Afq, nfq, cfq, rfl, hpq, hgq, hfq⟩
 
 refine Zqm Z Z <| Zqx Z Z Z <| Zqx Z Z Z <| JO_allocZ Z [_, _] Z Z ?_
 intro β3 s3 h3
 refine JO_allocZ Z [_, _] Z Z ?_
 intro β4 s4 h4
 refine Wt 1 [_, _] Y9 <| Wt 0 [_, _] Y9 <| Nt <| Zs <| Sr <| W0 Y5 <| Wl 0 Y6 <| Zqne Z Z Z <| Nt <| ?_
 refine JC_ifN Z (fun c5 => ?_) (fun c5 => ?_)
 ·
  refine Sr <| At Z Z <| Zo <| Zu <| ?_
  refine retQ_mk [_, _] L (.inr Z) (.tmp Z (.nil)) Z (h1.t h2|>.t h3|>.t h4) (fun sR hS2 => ?_)
  exact ⟨rfl, rfl⟩
 obtain rfl : fq = 1 := by omega
 obtain ⟨hp0, hl12, tq, _, hkq⟩ := par_er hpq
 have hng : ngq = 0 := by rw [hgq.1, hp0]; rfl
 have hnf : nfq = 0 := by rw [hfq.1, hp0]; rfl
 refine Zk <| Zt <| Zs <| Sr <| W0 Y5 <| Wl 1 Y6 <| Ws Y4 <| JO_q (QE_cast (v' := .bool false) (QE_gt Z Z) (congrArg Value.bool (decide_eq_false O))) Z <| Zqm Z Z <| Zg Z Z <| Wb Y5 <| Zg Z Z <| Wl 1 Y6 <| Zg Z Z <| Ws Y4 <| Zg Z Z <| JO_q (QE_cast (v' := .bool false) (QE_gt Z Z) (congrArg Value.bool (decide_eq_false O))) Z <| ZqF Z Z Z <| Nt <| Zz Z <| Zk <| Zt <| Sr <| Zqm Z Z <| Jc Z Z Z (tokensP_ac D _ _ l O) ?_
 rintro _ _ s6 h6 ⟨rfl, Atk, nt, ct, ts, rfl, hT, hRL⟩
 have hnt := hT.1
 have hnt2 := hT.2.1
 have hnt3 := hT.2.2.1
 refine At Z Z <| Zs <| Sr <| At Z Z <| Zp <| JC_loop (γ := Nat) (fun i => [(0, _), (1, _), (4, _), (6, _), (7, _), (8, .int .i64 (i : Int))]) (fun _ => _) (fun i tw => Le D s6 tw ∧ (i ≤ nt)) (fun i => nt - i) (fun _ _ _ h hl => ⟨h.1.trans hl, h.2⟩) 0 (.cons Z (.cons Z (.cons Z (.cons Z (.cons Z (.cons Z (.nil _))))))) Z ⟨Le.refl _, Nat.zero_le _⟩ ?_
 intro i s7 I7
 have hi0 := I7.2
 refine Zs <| Sr <| Zqm Z Z <| Zqm Z Z <| Ws Y4 <| Zqlt Z Z Z <| Nt <| ?_
 refine JC_ifD Z (fun c8 => ?_) (fun c8 => ?_)
 ·
  have hi : i < nt := by omega
  obtain ⟨bx, ox, x, rfl, hx, hcx, hxl, hxu⟩ := Rts.at_ (hT.le I7.1) hi
  have hxm := List.mem_of_getElem? hx
  have hxa := hRL.mem x hxm
  obtain ⟨hlen1, hlen2⟩ := hRL.len (Nat.zero_le _)
  have hxl2 := hlen2 x hxm
  refine Zk <| Zt <| Zs <| Zp <| Sr <| Zqm Z Z <| Zqm Z Z <| JO_q (QE_iaN Z Z Z Z Z Z (show i < nt by omega)) Z <| JO_q (QE_ldsA Z Z Z (hcx.le (Lr D)) Z) Z <| JO_allocZ Z [_, _, _, _] Z Z ?_
  intro β9 s9 h9
  refine Wt 0 [_, _, _, _] Y9 <| Nt <| Zs <| Sr <| Wb Y5 <| Wl 0 Y6 <| Wb Y5 <| Wl 1 Y6 <| Zqne Z Z Z <| Zqm Z Z <| ?_
  refine JO_caseN (t := 50) Z (fun c10 => ?_) (fun c10 => ?_)
  ·
   refine Wf Y4 <| Wf Y4 <| Wf Y4 <| ZqT Z Z Z <| Nt <| Zy Z <| Zl <| Zv <| Zd <| Zt <| Zr <| Zqm Z Z <| Zqadd Z Z Z (w64 O O) <| Zqa Z Z <| Zn <| ?_
   refine thenQ_n ⟨i + 1, [_], kp, Z, ⟨(I7.1.t h9), O⟩, O⟩
  refine Zg Z Z <| W0 Y5 <| Zg Z Z <| Wl 0 Y6 <| Zg Z Z <| Zqlt Z Z Z <| ZqF Z Z Z <| Nt <| ?_
  refine JC_ifD Z (fun c11 => ?_) (fun c11 => ?_)
  ·
   refine Zl <| Zv <| Zd <| Zt <| Zr <| Zqm Z Z <| Zqadd Z Z Z (w64 O O) <| Zqa Z Z <| Zn <| ?_
   refine thenQ_n ⟨i + 1, [_], kp, Z, ⟨(I7.1.t h9), O⟩, O⟩
  have hxo : (x.off : Int) = kq := by omega
  have hxk0 : ¬ x.kind < 2 := by omega
  rw [hxa] at hxk0
  have hxk : ¬ (rtS (l.drop x.off)).1 < 2 := hxk0
  obtain ⟨hk3, hk4⟩ := rt_rd hxk
  have hxt : x.text.length = (rdS (l.drop x.off)).2 := by rw [hk4]; exact congrArg (fun y : RT => y.text.length) hxa
  have hpos := (rdS_ok (l.drop x.off)).1
  rw [List.length_drop] at hpos
  have hpos2 := (rdS_ok (l.drop x.off)).2.2.2 hk3
  refine Zk <| Zt <| Sr <| Zqm Z Z <| Wb Y5 <| Wl 0 Y6 <| Wb Y5 <| Wl 0 Y6 <| Zqlt2 Z Z Z Z <| JO_q (QE_add' (c := ((x.off + x.text.length : Nat) : Int)) Z Z (by rw [w64 O O]; omega)) Z <| JO_q (QE_stH Z Z Z Z O) Z <| JO_q (QE_sadd Z Z (by simp only [List.length_take, List.length_cons, List.length_nil]; omega)) Z <| Zqm Z Z <| JO_q (QE_cast (v' := St (cutT l (x.off + x.text.length) v)) (QE_sadd Z Z (by simp only [List.length_append, List.length_take, List.length_cons, List.length_nil]; omega)) (congrArg St (by simp [cutT]))) Z ?_
  refine At Z Z <| Sr <| Zqm Z Z <| Jc Z Z Z (parse_prog D _ _ (hG.le (h1.t h2|>.t h3|>.t h4|>.t h6|>.t I7.1|>.t h9)) (cutT l (x.off + x.text.length) v)) ?_
  rintro _ _ s12 h12 ⟨rfl, dr, pr, fr, kr, Agr, ngr, cgr, Afr, nfr, cfr, rfl, hpr, hgr, hfr⟩
     
  refine Zqm Z Z <| Zqx Z Z Z <| Zqx Z Z Z <| JO_allocZ Z [_, _] Z Z ?_
  intro β13 s13 h13
  refine JO_allocZ Z [_, _] Z Z ?_
  intro β14 s14 h14
  refine Wt 1 [_, _] Y9 <| Wt 0 [_, _] Y9 <| Nt <| Sr <| Zqm Z Z <| Zqlt2 Z Z Z Z <| Zqgt Z Z Z <| Zqm Z Z <| ?_
  refine JO_caseD (t := 74) Z (fun c15 => ?_) (fun c15 => ?_)
  ·
   refine Wf Y4 <| Wf Y4 <| Wf Y4 <| ZqT Z Z Z <| At Z Z <| Zo <| Zc <| Zu <| Zu <| Zc <| Zu ?_
   refine retQ_mk [_, _, _, _, _] L (.inr Z) (.tmp Z (.nil)) Z (h1.t h2|>.t h3|>.t h4|>.t h6|>.t I7.1|>.t h9|>.t h12|>.t h13|>.t h14) (fun sR hS2 => ?_)
   exact ⟨rfl, rfl⟩
  refine Zg Z Z ?_
  have hq12 : (cutT l (x.off + x.text.length) v).length ≤ 12000 := by omega
  rw [hxt] at hpr hq12
  have hpe : parP l = (pq, (1, (x.off : Int))) := by rw [hpq, hxo]
  rw [err_same hpe hk3 hq12] at hpr
  cases hpr
  subst hxo
  refine JO_q (QE_ldA 0 [_, _] Z Z Z Z Z) Z <| Zg Z Z <| JO_q (QE_ldA 3 [_, _] Z Z Z Z Z) Z <| Zg Z Z <| JO_q (QE_cast (v' := .bool true) (QE_aeq Z Z (eqFault _ _ _ _)) (bT ⟨Z, Z⟩)) Z <| ZqF Z Z Z <| At Z Z <| Zo <| Zc <| Zu <| Zu <| Zc <| Zu <| ?_
  refine retQ_mk [_, _, _, _, _] L (.inr Z) (.tmp Z (.nil)) Z (h1.t h2|>.t h3|>.t h4|>.t h6|>.t I7.1|>.t h9|>.t h12|>.t h13|>.t h14) (fun sR hS2 => ?_)
  exact ⟨rfl, rfl⟩
 refine Zl <| Zv <| Zv <| Zd <| Zt <| Sr <| At Z Z <| Zo <| ?_
 refine retQ_mk [_, _] L (.inr Z) (.tmp Z (.nil)) Z (h1.t h2|>.t h3|>.t h4|>.t h6|>.t I7.1) (fun sR hS2 => ?_)
 exact ⟨rfl, rfl⟩
end Go.Proofs.YtiljephghfngnaaGreatDoor
namespace Go.Proofs.YtiljephghfngnaaGreatDoor
open Go Go.FL Go.ChangeShapes Go.WideShapes Go.ChangeAt Go.RowKit Go.Deep
theorem own_knob : ownKnob Tryz.prog.godebug = none := by kernel_rfl
theorem laid_out : laidOutB Tryz.prog = true := by kernel_rfl
theorem mark_free (l : List Obj) : ∃ D, ∀ E, D ≤ E → ∀ o ∈ l, o ≠ dum E := by
  induction l with
  | nil => exact ⟨0, fun _ _ _ h => by cases h⟩
  | cons x l ih =>
    obtain ⟨D, hD⟩ := ih
    have hx : ∃ B, ∀ E, B ≤ E → x ≠ dum E := by
      cases x with
      | mapIter a n b c => exact ⟨n + 1, fun E hE h => by simp only [dum, Obj.mapIter.injEq] at h; omega⟩
      | _ => exact ⟨0, fun E _ h => by simp [dum] at h⟩
    obtain ⟨B, hB⟩ := hx
    refine ⟨max D B, fun E hE o ho => ?_⟩
    rcases List.mem_cons.1 ho with rfl | ho
    · exact hB E O
    · exact hD E O o ho
theorem mark_world (W : World) : ∃ D, ∀ k : Nat, W.heap[k]? ≠ some (dum D) := by
  obtain ⟨D, hD⟩ := mark_free W.heap.toList
  refine ⟨D, fun k hk => hD D (Nat.le_refl _) (dum D) ?_ Z⟩
  rw [← Array.getElem?_toList] at hk
  exact List.mem_of_getElem? hk
theorem below_of {D : Nat} {W W' : World} (hD : ∀ k : Nat, W.heap[k]? ≠ some (dum D)) (h : Le D W W') : Below W.heap.size W W' :=
  ⟨h.os, h.tape, h.output, h.size, fun k hk => (h.block k hk).resolve_left (hD k)⟩
theorem law_calls {P : Program} {f : FuncId} {args : List Value} {W : World} (h : ∀ D, AC P D f args [] W fun v L' _ => v = .bool true ∧ [] = L') :
    Calls P f args.toArray W fun e W' => e = .returned (.bool true) ∧ Below W.heap.size W W' := by
  obtain ⟨D, hD⟩ := mark_world W
  refine ((h D).2 ⟨by simp, fun x hx => by cases hx⟩).mono ?_
  rintro e w' ⟨v, L', s', h1, rfl, h3, h4, rfl, rfl⟩
  exact ⟨h1, below_of hD h4⟩
section
variable {H : Type} {enc : TypeId × Value → H} {P : Program}
theorem trodAll_stays {W W' : World} (hl : laidOutB P = true) (hb : Below W.heap.size W W') : ∀ {ts : List TypeId} {vs : List Value} {ds : List (DataW H)} {ps : List MemPlace}, (∀ t ∈ ts, P.readableRec t = true ∧ t < P.types.size) → (∀ x ∈ ps, x.block < W.heap.size) →
    DataW.TrodAll enc P W 0 (fun _ => true) true ts vs ds ps → DataW.TrodAll enc P W' 0 (fun b => decide (b < W.heap.size)) true ts vs ds ps
  | [], _, _, _, _, _, h => by
    obtain ⟨rfl, rfl, rfl⟩ := trodAll_nil h
    exact trodAll_mk0
  | t :: ts, _, _, _, hts, hp, h => by
    obtain ⟨v, vs, d, ds, a, b, rfl, rfl, rfl, h1, h2⟩ := trodAll_cons h
    have ht := hts t (List.mem_cons_self ..)
    exact trodAll_cons_mk (Below.trod hl ht.1 ht.2 h1 hb fun x hx => hp x (List.mem_append_left _ hx)) (trodAll_stays hl hb (fun t' h' => hts t' (List.mem_cons_of_mem _ h')) (fun x hx => hp x (List.mem_append_right _ hx)) h2)
theorem law_post {fn : Func} {s : ChangeSpec} {W W' : World} {args : Array Value} {ds gs : List (DataW H)} {before : List MemPlace} {tb : TypeId} (hl : laidOutB P = true) (hts : ∀ t ∈ fn.params.toList, P.readableRec t = true ∧ t < P.types.size) (hr : fn.resultTypes = #[tb]) (hb : P.underlying tb = some .bool)
    (hv : s.vars = []) (hW : DataW.Whole enc P fn.params.toList s.vars false W args.toList ds gs before) (hfn : s.fn H ds = { results := [.lit (.bool true)], args := ds }) (hB : Below W.heap.size W W') : s.post enc P fn false true false false W args (.bool true) W' := by
  have hlt : ∀ x ∈ before, x.block < W.heap.size := fun x hx => hW.lt x hx
  have hW' := hW
  obtain ⟨p, q, hA, hV, rfl, _, _⟩ := hW
  rw [hv] at hV
  obtain ⟨rfl, rfl⟩ := trodVars_none hV
  refine ⟨ds, [], p ++ [], [], p, [], hW', ?_, ?_, ?_, hB.frame _, fun h => by cases h⟩
  · rw [List.append_nil, hfn, hr]; exact trodAll_cons_mk (shut_bool hb _) trodAll_mk0
  · rw [List.append_nil, hfn]; exact trodAll_stays hl hB hts (fun x hx => hlt x (List.mem_append_left _ hx)) hA
  · rw [List.append_nil, hfn, hv]; rfl
end
def Rd (W : World) (t : TypeId) (cs : List Value) : Prop := ∃ (H : Type) (enc : TypeId × Value → H) (n : Nat) (x : DataW H × List MemPlace), DataW.trod enc Tryz.prog W 0 (fun _ => true) true n t cs = some x
section
variable {W : World} {t e : TypeId} {cs : List Value}
theorem rd_str (ht : Tryz.prog.underlying t = some .string) (h : Rd W t cs) : ∃ l : List UInt8, cs = [St l] ∧ l.length ≤ 9223372036854775807 := by
  obtain ⟨H, enc, n, x, h⟩ := h
  obtain ⟨s, h1, _, h2⟩ := DataW.trod_string ht h
  refine ⟨s.data.toList, by rw [h1], ?_⟩
  have : s.data.toList.length = s.size := by rw [Array.length_toList]; rfl
  simp only [maxLen] at h2
  omega
theorem one_eq {a b : Value} (h : [a] = [b]) : a = b := by injection h
end
set_option maxRecDepth 100000
instance : Inhabited Ex := ⟨.mk 0 0 0 [] []⟩
instance : Inhabited Stm := ⟨.mk 0 [] [] [] []⟩
instance : Inhabited Fnc := ⟨⟨[], [], [], []⟩⟩
instance : Inhabited Glo := ⟨⟨0, [], 0, []⟩⟩
section
variable {H : Type} {enc : TypeId × Value → H} {W : World} {base : Nat} {v : Value} {d : DataW H} {ps : List MemPlace}
theorem rd_of {t : TypeId} (hd : DataW.Trod enc Tryz.prog W 0 (fun _ => true) true t v d ps) : Rd W t v.cells.toList := by
  obtain ⟨n, h⟩ := hd
  exact ⟨H, enc, n, _, h⟩
theorem arg_str (hv : Value.okWide Tryz.prog W .any base 9 v) (hd : DataW.Trod enc Tryz.prog W 0 (fun _ => true) true 9 v d ps) : ∃ l, v = St l ∧ l.length ≤ 9223372036854775807 := by
  obtain ⟨x, h1, h2⟩ := rd_str Tryz.underlying9 (rd_of hd)
  obtain ⟨u, rfl⟩ := okWide_string Tryz.underlying9 hv
  exact ⟨x, one_eq h1, h2⟩
end
theorem gw_var {W : World} {nm : String} {g : Nat} {cs : Array Value} (hg : Tryz.prog.globalNamed nm = some g) (h : W.var? Tryz.prog nm = some cs) : ∃ ty fz, W.heap[g]? = some (.cells cs ty fz) := by
  unfold World.var? at h
  rw [hg] at h
  simp only [Option.bind_some] at h
  split at h
  · rename_i c t f hb
    injection h with h
    subst h
    exact ⟨t, f, hb⟩
  · cases h
theorem row_err (u : TypeId) (hu : Tryz.prog.typeName? 3 u = Tryz.prog.typeName? 3 227) : u = 227 :=
  have hn : Tryz.prog.typeName? 3 227 = some ("*" ++ "errors.errorString") := by kernel_rfl
  typeName_ptr_named (nm := "errors.errorString") V V (by decide) u (hu.trans hn)
theorem gp_of {W : World} (h : laidMetH Tryz.prog Rows.syntaxPrintMatchesSpecRow.laid W) : GP W := by
  rw [MakeChecks.laidMetH_plain _ _ _ V] at h
  have h2 := h.tail.tail
  have hpow := Lib.tabIs_of_head (zs := Lib.pow10Tab) (k := .u64) (g := 2) V V Tryz.underlying216 Tryz.underlying128 V V h2
  have h4 := h2.tail
  obtain ⟨a1, s1, hv1, _⟩ := laid_sentinel (g := 5) h4 V V Tryz.underlying124 (fun u hu => row_err u (hu.trans V)) Tryz.underlying227 Tryz.underlying229 rfl rfl Tryz.underlying9 V V
  obtain ⟨a2, s2, hv2, _⟩ := laid_sentinel (g := 4) h4.tail V V Tryz.underlying124 (fun u hu => row_err u (hu.trans V)) Tryz.underlying227 Tryz.underlying229 rfl rfl Tryz.underlying9 V V
  have hasc := Lib.tabIs_of_head (zs := Lib.asciiSpaceTab) (k := .u8) (g := 0) V V Tryz.underlying119 Tryz.underlying5 V V h4.tail.tail.tail
  refine ⟨⟨?_, ?_, ?_⟩, gw_var (g := 0) V hasc⟩
  · exact gw_var (g := 2) V hpow
  · exact ⟨_, _, World.var?_cell (g := 4) V hv2 0⟩
  · exact ⟨_, _, World.var?_cell (g := 5) V hv1 0⟩
set_option maxRecDepth 100000
section
variable {H : Type} {enc : TypeId × Value → H} {W : World} {base : Nat} {v : Value} {d : DataW H} {ps : List MemPlace}
theorem arg_strD (hv : Value.okWide Tryz.prog W .any base 9 v) (hd : DataW.Trod enc Tryz.prog W 0 (fun _ => true) true 9 v d ps) : ∃ l, v = St l ∧ d = .lit (.string l) ∧ l.length ≤ 9223372036854775807 := by
  obtain ⟨x, h1, h2⟩ := rd_str Tryz.underlying9 (rd_of hd)
  obtain ⟨u, hu, hdd, _, _⟩ := ChangeMaps.open_string Tryz.underlying9 hv hd
  subst hu
  have hx : Value.string u = St x := one_eq h1
  injection hx with hx
  subst hx
  exact ⟨x, rfl, by rw [hdd], h2⟩
theorem str_fits {ts : List TypeId} {ds : List (DataW H)} (h : (DataW.weightsEach Tryz.prog ts ds).all (· ≤ reachBytes) = true) {j : Nat} {t : TypeId} {l : List UInt8} (ht : ts[j]? = some t) (hd : ds[j]? = some (.lit (.string l))) : l.length ≤ 140737488355328 := by
  have h1 := sized_string h ht hd
  have h2 := reachBytes_lt
  omega
end
open Go Go.FL Go.ChangeShapes Go.WideShapes Go.ChangeAt Go.RowKit
theorem syntaxErrorsDoNotDependOnTheRest_reads : ∀ t ∈ Tryz.f7.params.toList, Tryz.prog.readableRec t = true ∧ t < Tryz.prog.types.size := by
  rw [Tryz.params7]
  intro t ht
  simp only [List.mem_cons, List.not_mem_nil, or_false] at ht
  rcases ht with rfl | rfl <;> exact ⟨by kernel_rfl, of_decide_eq_true V⟩
theorem syntaxErrorsDoNotDependOnTheRest_contract (H : Type) (enc : TypeId × Value → H) (W : World) (base : Nat) (args : Array Value) (ds gs : List (DataW H)) (before : List MemPlace)
    (hval : ∀ (j : Nat) t v, Tryz.f7.params[j]? = some t → args[j]? = some v → Value.okWide Tryz.prog W .any base t v)
    (hW : DataW.Whole enc Tryz.prog Tryz.f7.params.toList Rows.syntaxErrorsDoNotDependOnTheRestSpec.vars false W args.toList ds gs before) (hL : laidMetH Tryz.prog Rows.syntaxErrorsDoNotDependOnTheRestRow.laid W) (hZ : (DataW.weightsEach Tryz.prog (Tryz.f7.params.toList ++ Rows.syntaxErrorsDoNotDependOnTheRestSpec.plain.varTypes Tryz.prog) (ds ++ gs)).all (· ≤ reachBytes) = true) :
    Calls Tryz.prog 7 args W fun e W' => ∃ v, e = .returned v ∧ Rows.syntaxErrorsDoNotDependOnTheRestSpec.post enc Tryz.prog Tryz.f7 false true false false W args v W' := by
  have hW' := hW
  obtain ⟨p, q, hA0, hV, rfl, hfz, hnd⟩ := hW'
  have hA : DataW.TrodAll enc Tryz.prog W 0 (fun _ => true) true Tryz.f7.params.toList args.toList ds p := hA0
  rw [Tryz.params7] at hA hval hZ
  obtain ⟨v0, vs0, d0, ds0, p0, q0, hargs0, rfl, rfl, h0, r0⟩ := trodAll_cons hA
  obtain ⟨v1, vs1, d1, ds1, p1, q1, hargs1, rfl, rfl, h1, r1⟩ := trodAll_cons r0
  obtain ⟨rfl, rfl, rfl⟩ := trodAll_nil r1
  obtain rfl : args = #[v0, v1] := by cases args; simp_all
  obtain ⟨rfl, rfl⟩ := trodVars_none hV
  obtain ⟨l0, rfl, hL0⟩ := arg_str (hval 0 9 v0 rfl rfl) h0
  obtain ⟨l1, rfl, hd1, hL1⟩ := arg_strD (hval 1 9 v1 rfl rfl) h1
  subst hd1
  have hk1 := str_fits hZ (j := 1) rfl rfl
  refine (law_calls (args := [_, _]) fun D => lawErrors_ac D [] W (gp_of hL) l0 l1 hk1).mono fun e W' ⟨he, hg⟩ => ?_
  subst he
  exact ⟨_, rfl, law_post laid_out syntaxErrorsDoNotDependOnTheRest_reads V Tryz.underlying4 rfl hW rfl hg⟩
theorem syntaxErrorsDoNotDependOnTheRest_lifted (os : Os) (started : os.Started) (H : Type) (enc : TypeId × Value → H) :
    ReturnsInHanded {} Tryz.checked os 7 .any (fun w args => (Rows.syntaxErrorsDoNotDependOnTheRestSpec.pre enc Tryz.prog Tryz.f7 [] false w args ∧ laidMetH Tryz.prog Rows.syntaxErrorsDoNotDependOnTheRestRow.laid w) ∧ sizedMet enc Tryz.prog Tryz.f7 (OpenSpec.ofChange Rows.syntaxErrorsDoNotDependOnTheRestSpec) false w args) (Rows.syntaxErrorsDoNotDependOnTheRestSpec.post enc Tryz.prog Tryz.f7 false true false false) := by
  refine returnsInHanded_of_change_and (C := Tryz.checked) (X := fun w _ => laidMetH Tryz.prog Rows.syntaxErrorsDoNotDependOnTheRestRow.laid w) (fun _ _ _ hh h => h.of_heap hh) own_knob started V Tryz.func7
    (ChangeSpec.witness_shaped (enc := enc) (C := Tryz.checked) (os := os) (X := fun w _ => laidMetH Tryz.prog Rows.syntaxErrorsDoNotDependOnTheRestRow.laid w) false (World.laidAll Tryz.prog os Rows.syntaxErrorsDoNotDependOnTheRestRow.laid) #[.string .empty, .string .empty] 8 (World.laidAll_os _ _ _)
      (World.shaped_of_ZipB V V) V V V
      (by rw [MakeChecks.laidMetH_plain _ _ _ V]; exact laidMet_laidAll _ V V)) ?_
  intro W base args ds gs before hval hW _ hZ hL _
  exact syntaxErrorsDoNotDependOnTheRest_contract H enc W base args ds gs before hval hW hL hZ
theorem syntaxErrorsDoNotDependOnTheRest_said : Rows.SyntaxErrorsDoNotDependOnTheRestSaid :=
  OpenClaim.holds_of_wide 7 Tryz.f7 rfl rfl rfl rfl rfl rfl rfl ⟨rfl, rfl, rfl, rfl, rfl⟩ rfl rfl rfl rfl rfl V Tryz.func7 V
    (of_decide_eq_true V) (by unfold Func.isWrapper; first | (rw [if_pos (by decide +kernel)]; kernel_rfl) | (rw [if_neg (by decide +kernel)]; exact ⟨rfl, rfl⟩))
    (fun os started H enc _ => syntaxErrorsDoNotDependOnTheRest_lifted os started H enc)
theorem syntaxErrorsDoNotDependOnTheRest_plain (f : FuncId) (fn : Func) (hf : Tryz.pinned.checked.prog.funcNamed Rows.syntaxErrorsDoNotDependOnTheRestRow.func = some f) (hfn : Tryz.pinned.checked.prog.funcs[f]? = some fn) : true = Tryz.pinned.checked.prog.looks [] ∧ ∀ (j : Nat) t, fn.params[j]? = some t → Tryz.pinned.checked.prog.wantsStandIn t = false := by
  obtain rfl : f = 7 := Option.some.inj ((show Tryz.prog.funcNamed Rows.syntaxErrorsDoNotDependOnTheRestRow.func = some 7 by kernel_rfl).symm.trans hf) |>.symm
  obtain rfl : fn = Tryz.f7 := (Option.some.inj (Tryz.func7.symm.trans hfn)).symm
  exact ⟨by kernel_rfl, fun j t ht => by
    rw [Tryz.params7] at ht
    have hm : t ∈ [9, 9] := by simpa using Array.mem_of_getElem? ht
    have hall : ([9, 9].all fun u => !Tryz.prog.wantsStandIn u) = true := by kernel_rfl
    exact (show Tryz.prog.wantsStandIn t = false by simpa using List.all_eq_true.1 hall t hm)⟩
theorem syntaxErrorsDoNotDependOnTheRest_holds : Rows.SyntaxErrorsDoNotDependOnTheRestCardSaid :=
  Claim7.holds_tied_plain_at .later [] _ _ _ _ syntaxErrorsDoNotDependOnTheRest_said (fun _ h => by cases h) V (fun _ h => by cases h) syntaxErrorsDoNotDependOnTheRest_row_tie rfl ⟨rfl, rfl⟩ V rfl syntaxErrorsDoNotDependOnTheRest_plain V
end Go.Proofs.YtiljephghfngnaaGreatDoor
