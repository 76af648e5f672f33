/- Part 7 of the proof of syntaxParseMatchesSpec_holds: texts S19, S20, Ye, Sx, Sy, Sz, Yb, S21, Yc, Yd, U1, U2, It, U3, U4, U5, FlO. -/
import Derived.Test.YtiljephghfngnaaGreatDoorQ27x6
import Derived.ArgAppend
set_option linter.unusedVariables false
set_option linter.unusedSimpArgs false
set_option linter.unnecessarySimpa false
set_option maxRecDepth 100000
set_option maxHeartbeats 8000000
namespace Go.Proofs.YtiljephghfngnaaGreatDoor
open Go.FL
attribute [local irreducible] JC JO JA JB thenQ blockQ retQ AC fill CellsAt QE Ev Mid
theorem take_next {α : Type} {l : List α} {k : Nat} {x : α} (h : l[k]? = some x) : l.take (k + 1) = l.take k ++ [x] := by
  rw [List.take_add_one, h]; rfl
theorem canon_of {l : List UInt8} (h : numL l ≠ none) : canonB l = true ∧ valD 0 l < 4294967296 := by
  unfold numL at h
  split at h
  · assumption
  · exact absurd rfl h
theorem num_bad {l : List UInt8} (h : l = [] ∨ 10 < l.length ∨ (1 < l.length ∧ l[0]? = some 48)) : numL l = none := by
  cases hn : numL l with
  | none => rfl
  | some u =>
    obtain ⟨e, hu⟩ := numL_some hn
    have hd := dec_len hu
    rw [← e] at hd
    have hc := (canon_of (by rw [hn]; simp)).1
    simp only [canonB, Bool.and_eq_true, decide_eq_true_eq, Bool.or_eq_true] at hc
    rcases h with h | h | ⟨h, h2⟩
    · exact absurd h hc.1.1
    · omega
    · rcases hc.2 with h3 | h3
      · omega
      · rw [List.head?_eq_getElem?] at h3; exact absurd h2 h3
theorem num_dig {l : List UInt8} {c : UInt8} {k : Nat} (hc : l[k]? = some c) (h : digB c = false) : numL l = none := by
  cases hn : numL l with
  | none => rfl
  | some u =>
    have hcn := (canon_of (l := l) (by rw [hn]; simp)).1
    simp only [canonB, Bool.and_eq_true] at hcn
    have := List.all_eq_true.1 hcn.1.2 c (List.mem_of_getElem? hc)
    rw [h] at this; cases this
theorem num_large {l : List UInt8} (h : 4294967295 < valD 0 l) : numL l = none := by
  rw [numL, if_neg (fun hh => by omega)]
theorem num_good {l : List UInt8} (h : ¬ (l = [] ∨ 10 < l.length ∨ (1 < l.length ∧ l[0]? = some 48))) (hd : ∀ i c, i < l.length → l[i]? = some c → digB c = true) (hv : ¬ 4294967295 < valD 0 l) : numL l = some (valD 0 l) := by
  have hcn : canonB l = true := by
    simp only [canonB, Bool.and_eq_true, decide_eq_true_eq, Bool.or_eq_true]
    refine ⟨⟨fun e => h (.inl e), List.all_eq_true.2 fun c hc => ?_⟩, ?_⟩
    · obtain ⟨i, hi⟩ := List.mem_iff_getElem?.1 hc
      exact hd i c (List.getElem?_eq_some_iff.1 hi).1 hi
    · by_cases h1 : 1 < l.length
      · right; intro e; exact h (.inr (.inr ⟨h1, by rw [← List.head?_eq_getElem?]; exact e⟩))
      · left; omega
  rw [numL, if_pos ⟨hcn, by omega⟩]
theorem valD_bound {l : List UInt8} (h : ∀ i c, i < l.length → l[i]? = some c → digB c = true) : valD 0 l < 10 ^ l.length := by
  generalize hn : l.length = n
  induction n generalizing l with
  | zero => rw [List.length_eq_zero_iff.1 hn, valD_nil]; simp
  | succ n ih =>
    rcases List.eq_nil_or_concat l with rfl | ⟨r, c, rfl⟩
    · cases hn
    · rw [List.concat_eq_append] at *
      have hrl : r.length = n := by simpa using hn
      have h1 := ih (l := r) (fun i x hi hx => h i x (by simp; omega) (by rw [List.getElem?_append_left hi]; exact hx)) hrl
      have h2 := h r.length c (by simp) (by simp)
      simp only [digB, Bool.and_eq_true, decide_eq_true_eq] at h2
      rw [valD_snoc, Nat.pow_succ]
      omega
theorem valD_take {l : List UInt8} {k : Nat} (hk : k ≤ l.length) (hk10 : l.length ≤ 10) (h : ∀ i c, i < k → l[i]? = some c → digB c = true) : valD 0 (l.take k) < 10000000000 := by
  have h1 := valD_bound (l := l.take k) (fun i c hi hc => h i c (by simp at hi; omega) (by rw [List.getElem?_take] at hc; split at hc; exact hc; cases hc))
  have h2 : 10 ^ (l.take k).length ≤ 10 ^ 10 := Nat.pow_le_pow_right O (by simp; omega)
  omega
theorem digB_iff {c : UInt8} : (48 ≤ (c.toNat : Int) ∧ (c.toNat : Int) ≤ 57) ↔ digB c = true := by
  simp only [digB, Bool.and_eq_true, decide_eq_true_eq]; omega
theorem numberOf_ac (D : Nat) (L : Hl) (s : World) (l : List UInt8) (hl : l.length ≤ 9223372036854775807) : AC Tryz.prog D 68 [St l] L s fun v L' _ => v = .tuple #[.int .u32 (((numL l).getD 0 : Nat) : Int), .bool (numL l).isSome] ∧ L = L' := by
 refine AC_enter (TT := TT) (fn := Tryz.f68) TT_ok Tryz.func68 V Z Tryz.ntmps68 Z (rs := [.tmp 2, .tmp 3]) Z [(0, _)] Z <| Sr <| Zqa Z Z <| At Z Z <| Zs <| ?_
 refine JC_cutB 23 (l = [] ∨ 10 < l.length ∨ (1 < l.length ∧ l[0]? = some 48)) ?_ ?_
 ·
  refine Zr <| Zqm Z Z <| Zqlt2 Z Z Z Z <| Zqeq Z Z Z <| Zqm Z Z <| ?_
  refine JO_caseD (t := 9) Z (fun c2 => ?_) (fun c2 => ?_)
  ·
   refine Wf Y4 <| Wf Y4 <| Wf Y4 <| ZqT Z Z Z <| Zqm Z Z <| Wf Y4 <| Wf Y4 <| Wf Y4 <| Wf Y4 <| Zh Z Z Z <| Zh Z Z Z <| Zh Z Z Z <| Wf Y4 <| ZqT Z Z Z <| Zn <| ?_
   refine thenQ_n (MidB.mk (Lr D) Sb Z ((decide_eq_true (by first | exact .inl (List.length_eq_zero_iff.1 O) | exact .inr (.inl O) | (rintro (h | h | h) <;> first | omega | (have h9 := congrArg List.length h; simp only [List.length_nil] at h9; omega)))).symm))
  refine Zg Z Z <| Zqm Z Z <| Zg Z Z <| Zqlt2 Z Z Z Z <| Zg Z Z <| Zqgt Z Z Z <| ZqF Z Z Z <| Zqm Z Z <| ?_
  refine JO_caseD (t := 14) Z (fun c3 => ?_) (fun c3 => ?_)
  ·
   refine Wf Y4 <| Wf Y4 <| Wf Y4 <| Wf Y4 <| Zh Z Z Z <| Zh Z Z Z <| Zh Z Z Z <| Wf Y4 <| ZqT Z Z Z <| Zn <| ?_
   refine thenQ_n (MidB.mk (Lr D) Sb Z ((decide_eq_true (by first | exact .inl (List.length_eq_zero_iff.1 O) | exact .inr (.inl O) | (rintro (h | h | h) <;> first | omega | (have h9 := congrArg List.length h; simp only [List.length_nil] at h9; omega)))).symm))
  refine Zg Z Z <| Zqm Z Z <| Zg Z Z <| Zqlt2 Z Z Z Z <| Zg Z Z <| Zqgt Z Z Z <| Zg Z Z <| Zqm Z Z <| ?_
  refine JO_caseD (t := 18) Z (fun c4 => ?_) (fun c4 => ?_)
  ·
   refine Zg Z Z <| Zqm Z Z <| Zg Z Z <| ?_
   obtain ⟨c0, hc0⟩ : ∃ c0, l[0]? = some c0 := ⟨_, List.getElem?_eq_getElem O⟩
   refine JO_q (QE_ix Z Z Z Z hc0) Z <| Zg Z Z <| Zqeq Z Z Z <| Zg Z Z <| ZqT Z Z Z <| ZqF Z Z Z <| Zn <| ?_
   refine thenQ_n (MidB.mk (Lr D) Sb Z (decide_eq_decide.2 (⟨fun h => .inr (.inr ⟨by omega, by rw [hc0]; exact congrArg some (u8_eq.2 h)⟩), fun h => by rcases h with h | h | h <;> first | omega | (rw [h] at hc0; cases hc0) | (have h2 := h.2; rw [hc0] at h2; injection h2 with h2; rw [h2]; rfl)⟩)))
  refine Wf Y4 <| Wf Y4 <| Wf Y4 <| Zg Z Z <| ZqF Z Z Z <| ZqF Z Z Z <| Zn <| ?_
  refine thenQ_n (MidB.mk (Lr D) Sb Z ((decide_eq_false (by first | exact .inl (List.length_eq_zero_iff.1 O) | exact .inr (.inl O) | (rintro (h | h | h) <;> first | omega | (have h9 := congrArg List.length h; simp only [List.length_nil] at h9; omega)))).symm))
 intro s1 h1
 refine JC_ifD Z (fun c5 => ?_) (fun c5 => ?_)
 ·
  have h23 := num_bad c5
  refine Sr <| Zqa Z Z <| At Z Z <| Zo <| Zu <| ?_
  refine retQ_mk [] L (.inr Z) (.tmp Z (.tmp Z (.nil))) Z h1 (fun sR hS2 => ?_)
  first
    | (rw [h23]; exact ⟨rfl, rfl⟩)
    | (rw [h35]; exact ⟨rfl, rfl⟩)
    | (rw [h45]; exact ⟨rfl, rfl⟩)
 have h23 := c5
 have hl10 : l.length ≤ 10 := by
   rcases Nat.lt_or_ge 10 l.length with h | h
   · exact absurd (.inr (.inl h)) h23
   · exact h
 refine Zk <| Zt <| Sr <| At Z Z <| Zs <| Sr <| At Z Z <| Zp <| ?_
 refine JC_loop (γ := Nat) (fun k => [(0, _), (2, .int .u32 0), (3, _), (4, .int .i64 ((valD 0 (l.take k) : Nat) : Int)), (5, .int .i64 (k : Int))]) (fun _ => _) (fun k tw => Le D s1 tw ∧ (k ≤ l.length ∧ ∀ i c, i < k → l[i]? = some c → digB c = true)) (fun k => l.length - k) (fun _ _ _ h hl => ⟨h.1.trans hl, h.2⟩) 0 (.cons Z (.cons Z (.cons Z (.cons (congrArg some (congrArg (Value.int .i64) (by rw [List.take_zero, valD_nil]; rfl))) (.cons Z (.nil _)))))) Z ⟨Le.refl _, ⟨Nat.zero_le _, fun i c hi => by omega⟩⟩ ?_
 intro k s6 I6
 have hk0 := I6.2.1
 have hI := I6.2.2
 have hvb := valD_take hk0 O hI
 refine Zs <| Sr <| Zqm Z Z <| Zqm Z Z <| Zqlt2 Z Z Z Z <| Zqlt Z Z Z <| Nt <| ?_
 refine JC_ifD Z (fun c7 => ?_) (fun c7 => ?_)
 ·
  have hk : k < l.length := by omega
  obtain ⟨ch, hch⟩ : ∃ ch, l[k]? = some ch := ⟨_, List.getElem?_eq_getElem hk⟩
  have hc256 := ch.toNat_lt
  refine Zk <| Zt <| Zs <| Zp <| Zs <| Sr <| Zqm Z Z <| Zqm Z Z <| JO_q (QE_ix Z Z Z Z hch) Z <| JO_q (QE_conv' Z Z Z Z Z (w64 O O)) Z <| Jc Z Z Z (in_ac D _ _ _ _ _) ?_
  rintro _ _ s8 h8 ⟨rfl, rfl⟩
  refine Zqno Z Z <| Nt <| ?_
  refine JC_ifN Z (fun c9 => ?_) (fun c9 => ?_)
  ·
   have hnd : digB ch = false := Bool.eq_false_iff.2 fun h => c9 (digB_iff.2 h)
   have h35 := num_dig hch hnd
   refine Sr <| Zqa Z Z <| At Z Z <| Zo <| Zu <| Zc <| Zu <| Zu <| Zc <| Zu ?_
   refine retQ_mk [] L (.inr Z) (.tmp Z (.tmp Z (.nil))) Z (h1.t I6.1|>.t h8) (fun sR hS2 => ?_)
   first
     | (rw [h23]; exact ⟨rfl, rfl⟩)
     | (rw [h35]; exact ⟨rfl, rfl⟩)
     | (rw [h45]; exact ⟨rfl, rfl⟩)
  have hdg : digB ch = true := digB_iff.1 c9
  have hd48 := digB_iff.2 hdg
  refine Zk <| Zt <| Zr <| Zqm Z Z <| Zqmul Z Z Z (w64 O O) <| Zqm Z Z <| Zqm Z Z <| JO_q (QE_ix Z Z Z Z hch) Z <| JO_q (QE_conv' Z Z Z Z Z (w64 O O)) Z <| Zqadd Z Z Z (w64 O O) <| Zqsub Z Z Z (w64 O O) <| Zqa Z Z <| Zn <| Zb <| Zt <| Zr <| Zqm Z Z <| Zqadd Z Z Z (w64 O O) <| Zqa Z Z <| Zn <| ?_
  refine thenQ_n ⟨(k + 1), [], (.cons Z (.cons Z (.cons Z (.cons (congrArg some (congrArg (Value.int .i64) (by rw [take_next hch, valD_snoc]; omega))) kp)))), Z, ⟨(I6.1.t h8), ⟨by omega, below_succ hI hch hdg⟩⟩, O⟩
 have hkl : l.take k = l := List.take_of_length_le O
 rw [hkl] at hvb ⊢
 refine Zl <| Zv <| Zv <| Zd <| Zt <| Zs <| Sr <| Zqm Z Z <| Zqgt Z Z Z <| Nt <| ?_
 refine JC_ifD Z (fun c10 => ?_) (fun c10 => ?_)
 ·
  have h45 := num_large (l := l) O
  refine Sr <| Zqa Z Z <| At Z Z <| Zo <| Zu <| ?_
  refine retQ_mk [] L (.inr Z) (.tmp Z (.tmp Z (.nil))) Z (h1.t I6.1) (fun sR hS2 => ?_)
  first
    | (rw [h23]; exact ⟨rfl, rfl⟩)
    | (rw [h35]; exact ⟨rfl, rfl⟩)
    | (rw [h45]; exact ⟨rfl, rfl⟩)
 have h45 := num_good h23 (fun i c hi h => hI i c O h) O
 refine Zk <| Zt <| Sr <| Zqm Z Z <| JO_q (QE_conv' Z Z Z Z Z (wrap_small O)) Z <| Zqa Z Z <| At Z Z <| Zo <| ?_
 refine retQ_mk [] L (.inr Z) (.tmp Z (.tmp Z (.nil))) Z (h1.t I6.1) (fun sR hS2 => ?_)
 first
   | (rw [h23]; exact ⟨rfl, rfl⟩)
   | (rw [h35]; exact ⟨rfl, rfl⟩)
   | (rw [h45]; exact ⟨rfl, rfl⟩)
theorem rlet_ac (D : Nat) (L : Hl) (s : World) (c : UInt8) : AC Tryz.prog D 66 [.int .u8 (c.toNat : Int)] L s fun v L' _ => v = .bool (letB c) ∧ L = L' := by
 refine AC_enter (TT := TT) (fn := Tryz.f66) TT_ok Tryz.func66 V Z Tryz.ntmps66 Z (rs := [.tmp 2]) Z [(0, _)] Z <| Sr <| At Z Z <| Sr <| Zqm Z Z <| Zqge Z Z Z <| Zqm Z Z <| ?_
 refine JO_caseD (t := 5) Z (fun c1 => ?_) (fun c1 => ?_)
 ·
  refine Zg Z Z <| Zqm Z Z <| Zg Z Z <| Zqle Z Z Z <| ZqT Z Z Z <| At Z Z <| Zo <| ?_
  refine retQ_mk [] L (.inr Z) (.tmp Z (.nil)) Z (Lr D) (fun sR hS2 => ?_)
  refine ⟨?_, Z⟩
  first
    | exact congrArg Value.bool (by rw [let_no O])
    | (simp only [resV]; exact congrArg Value.bool (by rw [Bool.eq_iff_iff, decide_eq_true_eq, let_iff]; omega))
 refine Wf Y4 <| Wf Y4 <| ZqF Z Z Z <| At Z Z <| Zo <| ?_
 refine retQ_mk [] L (.inr Z) (.tmp Z (.nil)) Z (Lr D) (fun sR hS2 => ?_)
 refine ⟨?_, Z⟩
 first
   | exact congrArg Value.bool (by rw [let_no O])
   | (simp only [resV]; exact congrArg Value.bool (by rw [Bool.eq_iff_iff, decide_eq_true_eq, let_iff]; omega))
theorem rdig_ac (D : Nat) (L : Hl) (s : World) (c : UInt8) : AC Tryz.prog D 67 [.int .u8 (c.toNat : Int)] L s fun v L' _ => v = .bool (digB c) ∧ L = L' := by
 refine AC_enter (TT := TT) (fn := Tryz.f67) TT_ok Tryz.func67 V Z Tryz.ntmps67 Z (rs := [.tmp 2]) Z [(0, _)] Z <| Sr <| At Z Z <| Sr <| Zqm Z Z <| Zqge Z Z Z <| Zqm Z Z <| ?_
 refine JO_caseD (t := 5) Z (fun c1 => ?_) (fun c1 => ?_)
 ·
  refine Zg Z Z <| Zqm Z Z <| Zg Z Z <| Zqle Z Z Z <| ZqT Z Z Z <| At Z Z <| Zo <| ?_
  refine retQ_mk [] L (.inr Z) (.tmp Z (.nil)) Z (Lr D) (fun sR hS2 => ?_)
  refine ⟨?_, Z⟩
  first
    | exact congrArg Value.bool (by rw [dig_no O])
    | (simp only [resV]; exact congrArg Value.bool (by rw [Bool.eq_iff_iff, decide_eq_true_eq, dig_iff]; omega))
 refine Wf Y4 <| Wf Y4 <| ZqF Z Z Z <| At Z Z <| Zo <| ?_
 refine retQ_mk [] L (.inr Z) (.tmp Z (.nil)) Z (Lr D) (fun sR hS2 => ?_)
 refine ⟨?_, Z⟩
 first
   | exact congrArg Value.bool (by rw [dig_no O])
   | (simp only [resV]; exact congrArg Value.bool (by rw [Bool.eq_iff_iff, decide_eq_true_eq, dig_iff]; omega))
theorem sq_split : splitB 32 sqT = signsP := by decide +kernel
def rtv (x : RT) : Value := .agg (rtc x).toArray
theorem rtok_ac (D : Nat) (L : Hl) (s : World) (l : List UInt8) (a : Nat) (ha : a ≤ l.length) (hl : l.length ≤ 1100000) : AC Tryz.prog D 39 [St l, .int .i64 (a : Int)] L s fun v L' _ => v = rtv (rtA l a) ∧ L = L' := by
 refine AC_enter (TT := TT) (fn := Tryz.f39) TT_ok Tryz.func39 V Z Tryz.ntmps39 Z (rs := [.cell 4 42]) Z [(0, _), (1, _)] Z <| Sr <| JO_allocZ Z [_, _, _, _] Z Z ?_
 intro β1 s1 h1
 refine Nt <| Zs <| Sr <| Zqm Z Z <| Zqm Z Z <| Zqlt2 Z Z Z Z <| Zqeq Z Z Z <| Nt <| ?_
 refine JC_ifD Z (fun c2 => ?_) (fun c2 => ?_)
 ·
  have hq : rtS (l.drop a) = (0, [], 0) := by rw [List.drop_eq_nil_of_le O]; rfl
  refine Sr <| Zqm Z Z <| JO_q (QE_build [(_, _)] [_, _, _, _] Z Z Z Z Z Z) Z <| Wt 0 [_, _, _, _] Y9 <| Nt <| Zo <| Zu <| ?_
  refine retQ_mk [_] L (.inr Z) (.agg (us := [_, _, _, _]) 0 Z Z Z Z Z (.nil)) Z h1 (fun sR hS2 => ?_)
  refine ⟨?_, Z⟩
  simp only [rtv, rtc, rtA, hq]
  first
    | rfl
    | (rw [← hw]; rfl)
 obtain ⟨c, r0, hu⟩ := drop_cons c2 ha
 have hal : a < l.length := by omega
 have hc0 : l[a]? = some c := by have := congrArg (fun u => u[0]?) hu; simpa [List.getElem?_drop] using this
 refine Zk <| Zt <| Sr <| Zqm Z Z <| At Z Z <| Zs <| Zp <| JC_loop (γ := Nat) (fun k => [(0, _), (1, _), (4, _), (5, .int .i64 (k : Int))]) (fun _ => _) (fun k tw => Le D s1 tw ∧ (a ≤ k ∧ k ≤ l.length ∧ k + ((l.drop k).takeWhile (tkB c)).length = a + ((l.drop a).takeWhile (tkB c)).length)) (fun k => l.length - k) (fun _ _ _ h hl => ⟨h.1.trans hl, h.2⟩) a (.cons Z (.cons Z (.cons Z (.cons Z (.nil _))))) Z ⟨Le.refl _, ⟨Nat.le_refl _, ha, Z⟩⟩ ?_
 intro k s3 I3
 obtain ⟨hk0, hk1, hk3⟩ := I3.2
 refine Zs ?_
 refine JC_cutB 51 (tkAt c l k = true) ?_ ?_
 ·
  refine Zr <| Zqm Z Z <| Zqm Z Z <| Zqlt2 Z Z Z Z <| Zqlt Z Z Z <| Zqm Z Z <| ?_
  refine JO_caseD (t := 22) Z (fun c5 => ?_) (fun c5 => ?_)
  ·
   refine Zg Z Z ?_
   obtain ⟨ch, hch⟩ : ∃ ch, l[k]? = some ch := ⟨_, List.getElem?_eq_getElem O⟩
   refine Zqm Z Z <| Zg Z Z <| Zqm Z Z <| Zg Z Z <| JO_q (QE_ix Z Z Z Z hc0) Z <| Zg Z Z <| Jc Z Z Z (rlet_ac D _ _ c) ?_
   rintro _ _ s6 h6 ⟨rfl, rfl⟩
   refine Zg Z Z <| Zqm Z Z <| ?_
   refine JO_case (t := 27) Z (fun c7 => ?_) (fun c7 => ?_)
   ·
    refine Zg Z Z <| Zqm Z Z <| Zg Z Z <| Zqm Z Z <| Zg Z Z <| JO_q (QE_ix Z Z Z Z hch) Z <| Zg Z Z <| Jc Z Z Z (rlet_ac D _ _ ch) ?_
    rintro _ _ s8 h8 ⟨rfl, rfl⟩
    refine Zg Z Z <| Zqm Z Z <| ?_
    refine JO_case (t := 32) Z (fun c9 => ?_) (fun c9 => ?_)
    ·
     refine Wf Y4 <| Wf Y4 <| Wf Y4 <| Wf Y4 <| Zg Z Z <| ZqT Z Z Z <| Zg Z Z <| ZqT Z Z Z <| Zg Z Z <| Zqm Z Z <| Wf Y4 <| Wf Y4 <| Wf Y4 <| Wf Y4 <| Wf Y4 <| Zh Z Z Z <| Zh Z Z Z <| Zh Z Z Z <| Zh Z Z Z <| Wf Y4 <| Zg Z Z <| ZqT Z Z Z <| ZqT Z Z Z <| Zn <| ?_
     refine thenQ_n (MidB.mk (h6.t h8) Sb Z ((decide_eq_true (by first | exact tk_no O | exact tk_ll hch As As | exact tk_ld hch As As | exact tk_dd hch As As | exact tk_n1 hch As As | exact tk_n2 hch As As | exact tk_n3 hch As As)).symm))
    refine Zg Z Z <| Zqm Z Z <| Zg Z Z <| Zqm Z Z <| Zg Z Z <| JO_q (QE_ix Z Z Z Z hch) Z <| Zg Z Z <| Jc Z Z Z (rdig_ac D _ _ ch) ?_
    rintro _ _ s10 h10 ⟨rfl, rfl⟩
    refine Zg Z Z <| ZqF Z Z Z <| Zg Z Z <| ZqT Z Z Z <| Zg Z Z <| Zqm Z Z <| ?_
    refine JO_case (t := 39) Z (fun c11 => ?_) (fun c11 => ?_)
    ·
     refine Wf Y4 <| Wf Y4 <| Wf Y4 <| Wf Y4 <| Wf Y4 <| Zh Z Z Z <| Zh Z Z Z <| Zh Z Z Z <| Zh Z Z Z <| Wf Y4 <| Zg Z Z <| ZqT Z Z Z <| ZqT Z Z Z <| Zn <| ?_
     refine thenQ_n (MidB.mk (h6.t h8|>.t h10) Sb Z ((decide_eq_true (by first | exact tk_no O | exact tk_ll hch As As | exact tk_ld hch As As | exact tk_dd hch As As | exact tk_n1 hch As As | exact tk_n2 hch As As | exact tk_n3 hch As As)).symm))
    refine Zg Z Z <| Zqm Z Z <| Zg Z Z <| Zqm Z Z <| Zg Z Z <| JO_q (QE_ix Z Z Z Z hc0) Z <| Zg Z Z <| Jc Z Z Z (rdig_ac D _ _ c) ?_
    rintro _ _ s12 h12 ⟨rfl, rfl⟩
    refine Zg Z Z <| Zqm Z Z <| ?_
    refine JO_case (t := 44) Z (fun c13 => ?_) (fun c13 => ?_)
    ·
     refine Zg Z Z <| Zqm Z Z <| Zg Z Z <| Zqm Z Z <| Zg Z Z <| JO_q (QE_ix Z Z Z Z hch) Z <| Zg Z Z <| Jc Z Z Z (rdig_ac D _ _ ch) ?_
     rintro _ _ s14 h14 ⟨rfl, rfl⟩
     refine Zg Z Z <| ZqT Z Z Z <| Zg Z Z <| ZqF Z Z Z <| ZqT Z Z Z <| Zn <| ?_
     refine thenQ_n (MidB.mk (h6.t h8|>.t h10|>.t h12|>.t h14) Sb Z ((by first | exact tk_e1 hch As As | exact tk_e2 hch As As)))
    refine Wf Y4 <| Wf Y4 <| Wf Y4 <| Wf Y4 <| Zg Z Z <| ZqF Z Z Z <| Zg Z Z <| ZqF Z Z Z <| ZqT Z Z Z <| Zn <| ?_
    refine thenQ_n (MidB.mk (h6.t h8|>.t h10|>.t h12) Sb Z ((decide_eq_false (by first | exact tk_no O | exact tk_ll hch As As | exact tk_ld hch As As | exact tk_dd hch As As | exact tk_n1 hch As As | exact tk_n2 hch As As | exact tk_n3 hch As As)).symm))
   refine Wf Y4 <| Wf Y4 <| Wf Y4 <| Wf Y4 <| Wf Y4 <| Zh Z Z Z <| Zh Z Z Z <| Zh Z Z Z <| Zh Z Z Z <| Wf Y4 <| Zg Z Z <| ZqF Z Z Z <| Zg Z Z <| Zqm Z Z <| Zg Z Z <| Zqm Z Z <| Zg Z Z <| Zqm Z Z <| Zg Z Z <| JO_q (QE_ix Z Z Z Z hc0) Z <| Zg Z Z <| Jc Z Z Z (rdig_ac D _ _ c) ?_
   rintro _ _ s15 h15 ⟨rfl, rfl⟩
   refine Zg Z Z <| Zqm Z Z <| ?_
   refine JO_case (t := 44) Z (fun c16 => ?_) (fun c16 => ?_)
   ·
    refine Zg Z Z <| Zqm Z Z <| Zg Z Z <| Zqm Z Z <| Zg Z Z <| JO_q (QE_ix Z Z Z Z hch) Z <| Zg Z Z <| Jc Z Z Z (rdig_ac D _ _ ch) ?_
    rintro _ _ s17 h17 ⟨rfl, rfl⟩
    refine Zg Z Z <| ZqT Z Z Z <| Zg Z Z <| ZqF Z Z Z <| ZqT Z Z Z <| Zn <| ?_
    refine thenQ_n (MidB.mk (h6.t h15|>.t h17) Sb Z ((by first | exact tk_e1 hch As As | exact tk_e2 hch As As)))
   refine Wf Y4 <| Wf Y4 <| Wf Y4 <| Wf Y4 <| Zg Z Z <| ZqF Z Z Z <| Zg Z Z <| ZqF Z Z Z <| ZqT Z Z Z <| Zn <| ?_
   refine thenQ_n (MidB.mk (h6.t h15) Sb Z ((decide_eq_false (by first | exact tk_no O | exact tk_ll hch As As | exact tk_ld hch As As | exact tk_dd hch As As | exact tk_n1 hch As As | exact tk_n2 hch As As | exact tk_n3 hch As As)).symm))
  refine Wf Y4 <| Wf Y4 <| Wf Y4 <| Wf Y4 <| Wf Y4 <| Zh Z Z Z <| Zh Z Z Z <| Zh Z Z Z <| Zh Z Z Z <| Zh Z Z Z <| Zh Z Z Z <| Zh Z Z Z <| Zh Z Z Z <| Zh Z Z Z <| Zh Z Z Z <| Wf Y4 <| Wf Y4 <| Zh Z Z Z <| Zh Z Z Z <| Zh Z Z Z <| Zh Z Z Z <| Zh Z Z Z <| Zh Z Z Z <| Zh Z Z Z <| Zh Z Z Z <| Zh Z Z Z <| Zh Z Z Z <| Wf Y4 <| ZqF Z Z Z <| Zn <| ?_
  refine thenQ_n (MidB.mk (Lr D) Sb Z ((decide_eq_false (by first | exact tk_no O | exact tk_ll hch As As | exact tk_ld hch As As | exact tk_dd hch As As | exact tk_n1 hch As As | exact tk_n2 hch As As | exact tk_n3 hch As As)).symm))
 intro s4 h4
 refine JC_ifD Z (fun c18 => ?_) (fun c18 => ?_)
 ·
  obtain ⟨hs1, hs2⟩ := tk_step c18
  refine Zk <| Zt <| Zp <| Zr <| Zqm Z Z <| JO_q (QE_add' (c := ((k + 1 : Nat) : Int)) Z Z (by rw [w64 O O]; omega)) Z <| Zqa Z Z <| Zn <| Zb <| ?_
  refine thenQ_n ⟨k + 1, [], kp, Z, ⟨(I3.1.t h4), ⟨by omega, by omega, by omega⟩⟩, O⟩
 have hs0 := tk_stop c18
 rw [hs0, Nat.add_zero] at hk3
 refine Zl <| Zv <| Zv <| Zd <| Zt <| Zs <| Sr <| Zqm Z Z <| Zqm Z Z <| Zqgt Z Z Z <| Nt ?_
 refine JC_ifD Z (fun c19 => ?_) (fun c19 => ?_)
 ·
  have htp : 0 < ((l.drop a).takeWhile (tkB c)).length := by omega
  have htk : k - a = ((l.drop a).takeWhile (tkB c)).length := by omega
  have htl : ((l.drop a).takeWhile (tkB c)).length ≤ (l.drop a).length := take_le _
  rw [List.length_drop] at htl
  refine Sr <| Zqm Z Z <| Zqm Z Z <| Zqm Z Z <| Zqm Z Z <| JO_q (QE_cast (v' := St ((l.drop a).takeWhile (tkB c))) (QE_stLH Z Z Z Z Z O O) (congrArg St (by rw [htk]; exact take_tw _))) Z <| JO_q (QE_build [(_, _), (_, _), (_, _)] [_, _, _, _] Z Z Z Z Z Z) Z <| JO_allocZ Z [_, _, _, _] Z Z ?_
  intro β20 s20 h20
  refine Wt 0 [_, _, _, _] Y9 <| Nt <| Zs <| Sr <| Zqm Z Z <| Zqm Z Z <| JO_q (QE_ix Z Z Z Z hc0) Z <| Jc Z Z Z (rdig_ac D _ _ c) ?_
  rintro _ _ s21 h21 ⟨rfl, rfl⟩
  refine Nt <| ?_
  refine JC_if Z (fun c22 => ?_) (fun c22 => ?_)
  ·
   have hcd : digB c = true := c22
   have hcl := dig_let hcd
   have hw : ((l.drop a).takeWhile (tkB c)) = digL (l.drop a) := tk_dig hcd
   refine Sr <| Wb Y5 <| Wl 0 Y6 <| Jc Z Z Z (numberOf_ac D _ _ ((l.drop a).takeWhile (tkB c)) O) ?_
   rintro _ _ s23 h23 ⟨rfl, rfl⟩
   refine Zqm Z Z <| Zqx Z Z Z <| Zqx Z Z Z <| Zqa Z Z <| At Z Z <| Sr <| Zqm Z Z <| Wb Y5 <| Wt 0 [_, _, _, _] Y9 <| Nt <| Sr <| Zqm Z Z <| Nt <| ?_
   refine JC_if Z (fun c24 => ?_) (fun c24 => ?_)
   ·
    have hq := rt_num1 hu hcl hcd (by rw [← hw]; exact c24)
    refine Zr <| W0 Y5 <| Wt 0 [_, _, _, _] Y9 <| Nt <| Sr <| JO_q (QE_ldA 0 [_, _, _, _] Z Z Z Z Z) Z <| Wt 1 [_, _, _, _] Y9 <| Nt <| Zo <| Zu <| ?_
    refine retQ_mk [_, _] L (.inr Z) (.agg (us := [_, _, _, _]) 1 Z Z Z Z Z (.nil)) Z (h1.t I3.1|>.t h4|>.t h20|>.t h21|>.t h23) (fun sR hS2 => ?_)
    refine ⟨?_, Z⟩
    simp only [rtv, rtc, rtA, hq]
    first
      | rfl
      | (rw [← hw]; rfl)
   have hq := rt_num0 hu hcl hcd (by rw [← hw]; exact c24)
   refine Zk <| Zt <| Sr <| JO_q (QE_ldA 0 [_, _, _, _] Z Z Z Z Z) Z <| Wt 1 [_, _, _, _] Y9 <| Nt <| Zo <| Zu <| ?_
   refine retQ_mk [_, _] L (.inr Z) (.agg (us := [_, _, _, _]) 1 Z Z Z Z Z (.nil)) Z (h1.t I3.1|>.t h4|>.t h20|>.t h21|>.t h23) (fun sR hS2 => ?_)
   refine ⟨?_, Z⟩
   simp only [rtv, rtc, rtA, hq]
   first
     | rfl
     | (rw [← hw]; rfl)
  have hcd : digB c = false := c22
  have hcl := tk_pos hu htp hcd
  have hw : ((l.drop a).takeWhile (tkB c)) = wordL (l.drop a) := tk_word hcl
  have hq := rt_word hu hcl
  refine Sr <| Wb Y5 <| Wl 0 Y6 <| Jc Z Z Z (rkw_ac D _ _ ((l.drop a).takeWhile (tkB c))) ?_
  rintro _ _ s25 h25 ⟨rfl, rfl⟩
  refine Nt <| ?_
  refine JC_if Z (fun c26 => ?_) (fun c26 => ?_)
  ·
   rw [if_pos (by rw [← hw]; exact c26)] at hq
   refine Zr <| W0 Y5 <| Wt 0 [_, _, _, _] Y9 <| Nt <| Sr <| JO_q (QE_ldA 0 [_, _, _, _] Z Z Z Z Z) Z <| Wt 1 [_, _, _, _] Y9 <| Nt <| Zo <| Zu <| ?_
   refine retQ_mk [_, _] L (.inr Z) (.agg (us := [_, _, _, _]) 1 Z Z Z Z Z (.nil)) Z (h1.t I3.1|>.t h4|>.t h20|>.t h21|>.t h25) (fun sR hS2 => ?_)
   refine ⟨?_, Z⟩
   simp only [rtv, rtc, rtA, hq]
   first
     | rfl
     | (rw [← hw]; rfl)
  rw [if_neg (by rw [← hw, show kwB ((l.drop a).takeWhile (tkB c)) = false from c26]; decide)] at hq
  refine Sr <| Wb Y5 <| Wl 0 Y6 <| Jc Z Z Z (rident_ac D _ _ ((l.drop a).takeWhile (tkB c)) O) ?_
  rintro _ _ s27 h27 ⟨rfl, rfl⟩
  refine Nt <| ?_
  refine JC_if Z (fun c28 => ?_) (fun c28 => ?_)
  ·
   rw [if_pos (by rw [← hw]; exact c28)] at hq
   refine Zr <| W0 Y5 <| Wt 0 [_, _, _, _] Y9 <| Nt <| Sr <| JO_q (QE_ldA 0 [_, _, _, _] Z Z Z Z Z) Z <| Wt 1 [_, _, _, _] Y9 <| Nt <| Zo <| Zu <| ?_
   refine retQ_mk [_, _] L (.inr Z) (.agg (us := [_, _, _, _]) 1 Z Z Z Z Z (.nil)) Z (h1.t I3.1|>.t h4|>.t h20|>.t h21|>.t h25|>.t h27) (fun sR hS2 => ?_)
   refine ⟨?_, Z⟩
   simp only [rtv, rtc, rtA, hq]
   first
     | rfl
     | (rw [← hw]; rfl)
  rw [if_neg (by rw [← hw, show identB ((l.drop a).takeWhile (tkB c)) = false from c28]; decide)] at hq
  refine Zk <| Zt <| Sr <| JO_q (QE_ldA 0 [_, _, _, _] Z Z Z Z Z) Z <| Wt 1 [_, _, _, _] Y9 <| Nt <| Zo <| Zu <| ?_
  refine retQ_mk [_, _] L (.inr Z) (.agg (us := [_, _, _, _]) 1 Z Z Z Z Z (.nil)) Z (h1.t I3.1|>.t h4|>.t h20|>.t h21|>.t h25|>.t h27) (fun sR hS2 => ?_)
  refine ⟨?_, Z⟩
  simp only [rtv, rtc, rtA, hq]
  first
    | rfl
    | (rw [← hw]; rfl)
 obtain ⟨hcl, hcd⟩ := tk_zero hu (show ¬ 0 < ((l.drop a).takeWhile (tkB c)).length by omega)
 refine Zk <| Zt <| Zs <| Sr <| Zqm Z Z <| Zqm Z Z <| JO_q (QE_ix Z Z Z Z hc0) Z <| Zqeq Z Z Z <| Nt <| ?_
 refine JC_ifD Z (fun c29 => ?_) (fun c29 => ?_)
 ·
  have hq := rt_chr hu c29
  refine Zs ?_
  refine JC_cutB 123 (chrB (l.drop a) = true) ?_ ?_
  ·
   refine Zr <| Zqm Z Z <| JO_q (QE_add' (c := ((a + 2 : Nat) : Int)) Z Z (by rw [w64 O O]; omega)) Z <| Zqm Z Z <| Zqlt2 Z Z Z Z <| Zqlt Z Z Z <| Zqm Z Z <| ?_
   refine JO_caseD (t := 95) Z (fun c31 => ?_) (fun c31 => ?_)
   ·
    refine Zg Z Z ?_
    obtain ⟨c1, hc1⟩ : ∃ c1, l[a + 1]? = some c1 := ⟨_, List.getElem?_eq_getElem O⟩
    obtain ⟨c2, hc2⟩ : ∃ c2, l[a + 2]? = some c2 := ⟨_, List.getElem?_eq_getElem O⟩
    have e1 : (l.drop a)[1]? = some c1 := by rw [List.getElem?_drop]; exact hc1
    have e2 : (l.drop a)[2]? = some c2 := by rw [List.getElem?_drop]; exact hc2
    have hb1 := c1.toNat_lt
    refine Zqm Z Z <| Zg Z Z <| Zqm Z Z <| Zg Z Z <| JO_q (QE_add' (c := ((a + 2 : Nat) : Int)) Z Z (by rw [w64 O O]; omega)) Z <| Zg Z Z <| JO_q (QE_ix Z Z Z Z hc2) Z <| Zg Z Z <| Zqeq Z Z Z <| ZqT Z Z Z <| Zqm Z Z <| ?_
    refine JO_caseD (t := 102) Z (fun c32 => ?_) (fun c32 => ?_)
    ·
     refine Zg Z Z <| Zqm Z Z <| Zg Z Z <| Zqm Z Z <| Zg Z Z <| JO_q (QE_add' (c := ((a + 1 : Nat) : Int)) Z Z (by rw [w64 O O]; omega)) Z <| Zg Z Z <| JO_q (QE_ix Z Z Z Z hc1) Z <| Zg Z Z <| JO_q (QE_conv' Z Z Z Z Z (w64 O O)) Z <| Zg Z Z <| Jc Z Z Z (in_ac D _ _ _ _ _) ?_
     rintro _ _ s33 h33 ⟨rfl, rfl⟩
     refine ZqT Z Z Z <| Zqm Z Z <| ?_
     refine JO_caseD (t := 110) Z (fun c34 => ?_) (fun c34 => ?_)
     ·
      refine Zg Z Z <| Zqm Z Z <| Zg Z Z <| Zqm Z Z <| Zg Z Z <| JO_q (QE_add' (c := ((a + 1 : Nat) : Int)) Z Z (by rw [w64 O O]; omega)) Z <| Zg Z Z <| JO_q (QE_ix Z Z Z Z hc1) Z <| Zg Z Z <| Zqne Z Z Z <| ZqT Z Z Z <| Zqm Z Z <| ?_
      refine JO_caseN (t := 117) Z (fun c35 => ?_) (fun c35 => ?_)
      ·
       refine Zg Z Z <| Zqm Z Z <| Zg Z Z <| Zqm Z Z <| Zg Z Z <| JO_q (QE_add' (c := ((a + 1 : Nat) : Int)) Z Z (by rw [w64 O O]; omega)) Z <| Zg Z Z <| JO_q (QE_ix Z Z Z Z hc1) Z <| Zg Z Z <| Zqne Z Z Z <| ZqT Z Z Z <| Zn <| ?_
       refine thenQ_n (MidB.mk h33 Sb Z (ndec_eq (by rw [chr_iff e1 e2]; omega)))
      refine Wf Y4 <| Wf Y4 <| Wf Y4 <| Wf Y4 <| Wf Y4 <| ZqF Z Z Z <| Zn <| ?_
      refine thenQ_n (MidB.mk h33 Sb Z ((decide_eq_false (by first | exact chr_short (by rw [List.length_drop]; omega) | (rw [chr_iff e1 e2]; omega))).symm))
     refine Wf Y4 <| Wf Y4 <| Wf Y4 <| Wf Y4 <| Wf Y4 <| ZqF Z Z Z <| Zqm Z Z <| Wf Y4 <| Wf Y4 <| Wf Y4 <| Wf Y4 <| Wf Y4 <| ZqF Z Z Z <| Zn <| ?_
     refine thenQ_n (MidB.mk h33 Sb Z ((decide_eq_false (by first | exact chr_short (by rw [List.length_drop]; omega) | (rw [chr_iff e1 e2]; omega))).symm))
    refine Wf Y4 <| Wf Y4 <| Wf Y4 <| Wf Y4 <| Wf Y4 <| Wf Y4 <| ZqF Z Z Z <| Zqm Z Z <| Wf Y4 <| Wf Y4 <| Wf Y4 <| Wf Y4 <| Wf Y4 <| ZqF Z Z Z <| Zqm Z Z <| Wf Y4 <| Wf Y4 <| Wf Y4 <| Wf Y4 <| Wf Y4 <| ZqF Z Z Z <| Zn <| ?_
    refine thenQ_n (MidB.mk (Lr D) Sb Z ((decide_eq_false (by first | exact chr_short (by rw [List.length_drop]; omega) | (rw [chr_iff e1 e2]; omega))).symm))
   refine Wf Y4 <| Wf Y4 <| Wf Y4 <| Wf Y4 <| Wf Y4 <| ZqF Z Z Z <| Zqm Z Z <| Wf Y4 <| Wf Y4 <| Wf Y4 <| Wf Y4 <| Wf Y4 <| Wf Y4 <| ZqF Z Z Z <| Zqm Z Z <| Wf Y4 <| Wf Y4 <| Wf Y4 <| Wf Y4 <| Wf Y4 <| ZqF Z Z Z <| Zqm Z Z <| Wf Y4 <| Wf Y4 <| Wf Y4 <| Wf Y4 <| Wf Y4 <| ZqF Z Z Z <| Zn <| ?_
   refine thenQ_n (MidB.mk (Lr D) Sb Z ((decide_eq_false (by first | exact chr_short (by rw [List.length_drop]; omega) | (rw [chr_iff e1 e2]; omega))).symm))
  intro s30 h30
  refine JC_ifD Z (fun c36 => ?_) (fun c36 => ?_)
  ·
   have hz3 := chr_len c36
   rw [List.length_drop] at hz3
   obtain ⟨c1, hc1⟩ : ∃ c1, l[a + 1]? = some c1 := ⟨_, List.getElem?_eq_getElem O⟩
   have e1 : (l.drop a).getD 1 0 = c1 := by rw [List.getD_eq_getElem?_getD, List.getElem?_drop, hc1]; rfl
   rw [if_pos c36, e1] at hq
   refine Zs <| JC_drawE drawsMixed 13 Z [0] (by intro x hx; exact eraseAll_mem hx) ?_
   intro s37 h37
   refine za 0 Z (QE_mv Z) Z <| za 1 Z (QE_mv Z) Z <| za 2 Z (QE_mv Z) Z <| za 3 Z (QE_mv Z) Z <| za 4 Z (QE_add' (c := ((a + 3 : Nat) : Int)) Z Z (by rw [w64 O O]; omega)) Z <| za 5 Z (QE_cast (v' := St ((l.drop a).take 3)) (QE_stLH Z Z Z Z Z O O) (congrArg (fun n => St ((l.drop a).take n)) O)) Z <| za 6 Z (QE_mv Z) Z <| za 7 Z (QE_mv Z) Z <| za 8 Z (QE_add' (c := ((a + 1 : Nat) : Int)) Z Z (by rw [w64 O O]; omega)) Z <| za 9 Z (QE_ix Z Z Z Z hc1) Z <| za 10 Z (QE_conv' Z Z Z Z Z (wrap_small (by have := c1.toNat_lt; omega))) Z ?_
   refine za 11 Z (QE_build [(_, _), (_, _), (_, _), (_, _)] [_, _, _, _] Z Z Z Z Z Z) Z <| JA_1 12 V <| Wu Z trivial 0 [_, _, _, _] Y9 (fun _ hx => sub_mem (sbE _) hx) <| JA_done V <| Zt <| Zo <| Zu <| Zu <| ?_
   refine retQ_mk [_] L (.inr Z) (.agg (us := [_, _, _, _]) 0 Z Z Z Z Z (.nil)) Z (h1.t I3.1|>.t h4|>.t h30|>.t h37) (fun sR hS2 => ?_)
   refine ⟨?_, Z⟩
   simp only [rtv, rtc, rtA, hq]
   first
     | rfl
     | (rw [← hw]; rfl)
  rw [if_neg c36] at hq
  refine Zk <| Zt <| Sr <| Zqm Z Z <| JO_q (QE_build [(_, _), (_, _)] [_, _, _, _] Z Z Z Z Z Z) Z <| Wt 0 [_, _, _, _] Y9 <| Nt <| Zo <| Zu <| ?_
  refine retQ_mk [_] L (.inr Z) (.agg (us := [_, _, _, _]) 0 Z Z Z Z Z (.nil)) Z (h1.t I3.1|>.t h4|>.t h30) (fun sR hS2 => ?_)
  refine ⟨?_, Z⟩
  simp only [rtv, rtc, rtA, hq]
  first
    | rfl
    | (rw [← hw]; rfl)
 have hq := rt_sign hu hcl hcd c29
 refine Zk <| Zt <| Sr <| Jc Z Z Z (split_ac D _ _ sqT 32 (by decide)) ?_
 rintro _ _ s38 h38 ⟨rfl, Ak, nk, ck, rfl, hK⟩
 rw [sq_split] at hK
 have hnk : nk = 29 := hK.1
 refine At Z Z <| Zs <| Sr <| At Z Z <| Zp <| JC_loop (γ := Nat) (fun k2 => [(0, _), (1, _), (4, _), (9, _), (10, .int .i64 (k2 : Int))]) (fun _ => _) (fun k2 tw => Le D s38 tw ∧ (k2 ≤ 29 ∧ ∀ j y, j < k2 → signsP[j]? = some y → y.isPrefixOf (l.drop a) = false)) (fun k2 => 29 - k2) (fun _ _ _ h hl => ⟨h.1.trans hl, h.2⟩) 0 (.cons Z (.cons Z (.cons Z (.cons Z (.cons Z (.nil _)))))) Z ⟨Le.refl _, ⟨by omega, fun j y h => by omega⟩⟩ ?_
 intro k2 s39 I39
 obtain ⟨hj1, hb⟩ := I39.2
 refine Zs <| Sr <| Zqm Z Z <| Zqm Z Z <| Ws Y4 <| Zqlt Z Z Z <| Nt <| ?_
 refine JC_ifD Z (fun c40 => ?_) (fun c40 => ?_)
 ·
  obtain ⟨bk, ok, xk, rfl, hxk, hck, _⟩ := Strs.at_ (hK.le I39.1) (show k2 < nk by omega)
  have hxl : xk.length ≤ 2 := (show ∀ x ∈ signsP, x.length ≤ 2 by decide) xk (List.mem_of_getElem? hxk)
  refine Zk <| Zt <| Zs <| Zp <| ?_
  refine JC_cutB 171 (xk.isPrefixOf (l.drop a) = true) ?_ ?_
  ·
   refine JC_draw drawsMixed 27 Z _ (fun _ h => h) ?_
   intro s42 h42
   refine za 0 Z (QE_mv Z) Z <| za 1 Z (QE_mv Z) Z <| za 2 Z (QE_mv Z) Z <| za 3 Z (QE_ia1 Z Z Z Z Z Z (show k2 < nk by omega)) Z <| za 4 Z (QE_ldsR0 Z Z Z (hck.le h42) Z) Z <| za 5 Z (QE_lenT Z Z Z) Z <| za 6 Z (QE_add' (c := ((a + xk.length : Nat) : Int)) Z Z (by rw [w64 O O]; omega)) Z <| za 7 Z (QE_mv Z) Z <| za 8 Z (QE_lenT Z Z Z) Z <| za 9 Z (QE_le Z Z) Z <| za 10 Z (QE_mv Z) Z ?_
   refine JA_caseD (t := 155) Z (fun c43 => ?_) (fun c43 => ?_)
   ·
    refine zg 11 Z ⟨_, Z, Z⟩ (QE_mv Z) Z <| zg 12 Z ⟨_, Z, Z⟩ (QE_mv Z) Z <| zg 13 Z ⟨_, Z, Z⟩ (QE_mv Z) Z <| zg 14 Z ⟨_, Z, Z⟩ (QE_mv Z) Z <| zg 15 Z ⟨_, Z, Z⟩ (QE_mv Z) Z <| zg 16 Z ⟨_, Z, Z⟩ (QE_ia1 Z Z Z Z Z Z (show k2 < nk by omega)) Z <| zg 17 Z ⟨_, Z, Z⟩ (QE_ldsR0 Z Z Z (hck.le h42) Z) Z <| zg 18 Z ⟨_, Z, Z⟩ (QE_lenT Z Z Z) Z <| zg 19 Z ⟨_, Z, Z⟩ (QE_add' (c := ((a + xk.length : Nat) : Int)) Z Z (by rw [w64 O O]; omega)) Z <| zg 20 Z ⟨_, Z, Z⟩ (QE_cast (v' := St ((l.drop a).take xk.length)) (QE_stLH Z Z Z Z Z O O) (congrArg (fun n => St ((l.drop a).take n)) O)) Z ?_
    refine zg 21 Z ⟨_, Z, Z⟩ (QE_mv Z) Z <| zg 22 Z ⟨_, Z, Z⟩ (QE_mv Z) Z <| zg 23 Z ⟨_, Z, Z⟩ (QE_ia1 Z Z Z Z Z Z (show k2 < nk by omega)) Z <| zg 24 Z ⟨_, Z, Z⟩ (QE_ldsR0 Z Z Z (hck.le h42) Z) Z <| zg 25 Z ⟨_, Z, Z⟩ (QE_seq Z Z) Z <| za 26 Z (QE_pickT Z Z) Z <| JA_done V ?_
    refine thenQ_n (MidB.mk h42 Sb Z (decide_eq_decide.2 (by exact pre_iff)))
   refine zn 11 Z Z Z Z Z <| zn 12 Z Z Z Z Z <| zn 13 Z Z Z Z Z <| zn 14 Z Z Z Z Z <| zn 15 Z Z Z Z Z <| zn 16 Z Z Z Z Z <| zn 17 Z Z Z Z Z <| zn 18 Z Z Z Z Z <| zn 19 Z Z Z Z Z <| zn 20 Z Z Z Z Z <| zn 21 Z Z Z Z Z <| zn 22 Z Z Z Z Z <| zn 23 Z Z Z Z Z <| zn 24 Z Z Z Z Z <| zn 25 Z Z Z Z Z <| za 26 Z (QE_pickF Z Z) Z <| JA_done V ?_
   refine thenQ_n (MidB.mk h42 Sb Z ((decide_eq_false (by exact pre_long (by rw [List.length_drop]; omega))).symm))
  intro s41 h41
  refine JC_ifD Z (fun c44 => ?_) (fun c44 => ?_)
  ·
   rw [find_hit hxk c44 hb] at hq
   refine Sr <| Zqm Z Z <| Zqm Z Z <| Zqm Z Z <| JO_q (QE_ia1 Z Z Z Z Z Z (show k2 < nk by omega)) Z <| JO_q (QE_ldsR0 Z Z Z (hck.le h41) Z) Z <| JO_q (QE_build [(_, _), (_, _), (_, _)] [_, _, _, _] Z Z Z Z Z Z) Z <| Wt 0 [_, _, _, _] Y9 <| Nt <| Zo <| Zc <| Zu <| Zu <| Zc <| Zu <| ?_
   refine retQ_mk [_] L (.inr Z) (.agg (us := [_, _, _, _]) 0 Z Z Z Z Z (.nil)) Z (h1.t I3.1|>.t h4|>.t h38|>.t I39.1|>.t h41) (fun sR hS2 => ?_)
   refine ⟨?_, Z⟩
   simp only [rtv, rtc, rtA, hq]
   first
     | rfl
     | (rw [← hw]; rfl)
  have hxf := c44
  refine Zk <| Zb <| Zt <| Zr <| Zqm Z Z <| JO_q (QE_add' (c := ((k2 + 1 : Nat) : Int)) Z Z (by rw [w64 O O]; omega)) Z <| Zqa Z Z <| Zn <| ?_
  refine thenQ_n ⟨k2 + 1, [], kp, Z, ⟨(I39.1.t h41), ⟨by omega, fun j y hj hy => by
    rcases (show j < k2 ∨ j = k2 by omega) with h | rfl
    · exact hb j y h hy
    · rw [hxk] at hy; injection hy with hy; rw [← hy]; exact Bool.eq_false_iff.2 hxf⟩⟩, O⟩
 rw [find_miss fun j y hj => hb j y O] at hq
 refine Zl <| Zv <| Zv <| Zd <| Zt <| Sr <| Zqm Z Z <| JO_q (QE_build [(_, _), (_, _)] [_, _, _, _] Z Z Z Z Z Z) Z <| Wt 0 [_, _, _, _] Y9 <| Nt <| Zo <| ?_
 refine retQ_mk [_] L (.inr Z) (.agg (us := [_, _, _, _]) 0 Z Z Z Z Z (.nil)) Z (h1.t I3.1|>.t h4|>.t h38|>.t I39.1) (fun sR hS2 => ?_)
 refine ⟨?_, Z⟩
 simp only [rtv, rtc, rtA, hq]
 first
   | rfl
   | (rw [← hw]; rfl)
def RtR (_ : World) (x : RT) (cs : List Value) : Prop := cs = rtc x ∧ x.text.length ≤ 9223372036854775807 ∧ U32 x.num
def Rts (s : World) (A : Option Addr) (n c : Nat) (l : List RT) : Prop := Sl 4 RtR s A n c l
theorem Rts.le {D : Nat} {s s' : World} {A : Option Addr} {n c : Nat} {l : List RT} (h : Rts s A n c l) (hl : Le D s s') : Rts s' A n c l := Sl.le (fun _ _ (h : RtR s _ _) => (h : RtR s' _ _)) h hl
theorem flat_snoc (css : List (List Value)) (cs : List Value) : (css ++ [cs]).flatten = css.flatten ++ cs := by simp
def gpB (b : Bool) (c : UInt8) : Bool := (b && decide (c ≠ 10)) || decide (c = 32) || decide (c = 9) || decide (c = 10) || decide (c = 35)
def gpAt (b : Bool) (l : Str) (k : Nat) : Bool := match l[k]? with
  | some d => gpB b d
  | none => false
theorem gp_no {b : Bool} {l : Str} {k : Nat} (h : ¬ k < l.length) : ¬ gpAt b l k = true := by rw [gpAt, List.getElem?_eq_none O]; simp
theorem u8n {c : UInt8} {n : Nat} (hn : n < 256) : (c = UInt8.ofNat n) = ((c.toNat : Int) = (n : Int)) := propext (byte_eq hn).symm
theorem gp_iff {b : Bool} {l : Str} {k : Nat} {c : UInt8} (h : l[k]? = some c) : gpAt b l k = true ↔ (b = true ∧ (c.toNat : Int) ≠ 10) ∨ (c.toNat : Int) = 32 ∨ (c.toNat : Int) = 9 ∨ (c.toNat : Int) = 10 ∨ (c.toNat : Int) = 35 := by
  have e : gpAt b l k = gpB b c := by rw [gpAt, h]
  have k10 : (c = 10) = ((c.toNat : Int) = 10) := u8n (n := 10) (by decide)
  have k32 : (c = 32) = ((c.toNat : Int) = 32) := u8n (n := 32) (by decide)
  have k9 : (c = 9) = ((c.toNat : Int) = 9) := u8n (n := 9) (by decide)
  have k35 : (c = 35) = ((c.toNat : Int) = 35) := u8n (n := 35) (by decide)
  rw [e, gpB]
  simp only [Bool.or_eq_true, Bool.and_eq_true, decide_eq_true_eq, k10, k32, k9, k35, ne_eq, or_assoc]
theorem gp_T {l : Str} {k : Nat} {c : UInt8} {b : Bool} (h : l[k]? = some c) (hb : b = true) : gpAt b l k = true := by
  rw [gp_iff h]
  by_cases h10 : (c.toNat : Int) = 10
  · exact .inr (.inr (.inr (.inl h10)))
  · exact .inl ⟨hb, h10⟩
theorem gp_F {l : Str} {k : Nat} {c : UInt8} {b : Bool} (h : l[k]? = some c) (hb : b = false) : gpAt b l k = true ↔ ((c.toNat : Int) = 32 ∨ (c.toNat : Int) = 9 ∨ (c.toNat : Int) = 10 ∨ (c.toNat : Int) = 35) := by
  rw [gp_iff h, hb]; simp
theorem gp_in {l : Str} {k : Nat} {b : Bool} (h : gpAt b l k = true) : ∃ c, l[k]? = some c := by
  unfold gpAt at h
  cases hc : l[k]? with
  | none => rw [hc] at h; cases h
  | some c => exact ⟨c, rfl⟩
theorem gp_hash {l : Str} {k : Nat} {c : UInt8} {b : Bool} (h : l[k]? = some c) (hc : (c.toNat : Int) = 35) : k + 1 + skL true (l.drop (k + 1)) = k + skL b (l.drop k) := by
  obtain rfl : c = 35 := (byte_eq (n := 35) (by decide)).1 hc
  rw [drop_at h]
  cases b
  · rw [skL, if_neg (by decide), if_pos rfl]; omega
  · rw [skL, if_neg (by decide)]; omega
theorem gp_nl {l : Str} {k : Nat} {c : UInt8} {b : Bool} (h : l[k]? = some c) (hc : (c.toNat : Int) = 10) : k + 1 + skL false (l.drop (k + 1)) = k + skL b (l.drop k) := by
  obtain rfl : c = 10 := (byte_eq (n := 10) (by decide)).1 hc
  rw [drop_at h]
  cases b
  · rw [skL, if_pos (by decide)]; omega
  · rw [skL, if_pos rfl]; omega
theorem gp_other {l : Str} {k : Nat} {c : UInt8} {b : Bool} (h : l[k]? = some c) (h1 : ¬ (c.toNat : Int) = 35) (h2 : ¬ (c.toNat : Int) = 10) (hg : gpAt b l k = true) : k + 1 + skL b (l.drop (k + 1)) = k + skL b (l.drop k) := by
  rw [drop_at h]
  cases b
  · have h3 := (gp_F h rfl).1 hg
    have h4 : c = 32 ∨ c = 9 ∨ c = 10 := by
      rcases h3 with h3 | h3 | h3 | h3
      · exact .inl ((byte_eq (n := 32) (by decide)).1 h3)
      · exact .inr (.inl ((byte_eq (n := 9) (by decide)).1 h3))
      · exact absurd h3 h2
      · exact absurd h3 h1
    rw [skL, if_pos h4]; omega
  · rw [skL, if_neg (by rintro rfl; exact h2 (by decide))]; omega
theorem gp_end {l : Str} {k : Nat} {b : Bool} (h : ¬ gpAt b l k = true) (hk : k ≤ l.length) : k + skL b (l.drop k) = k ∧ (b = true → k = l.length) := by
  by_cases hlt : k < l.length
  · obtain ⟨c, hc⟩ : ∃ c, l[k]? = some c := ⟨_, List.getElem?_eq_getElem hlt⟩
    have h3 : b = false := by
      cases b
      · rfl
      · exact absurd (gp_T hc rfl) h
    subst h3
    have h4 := fun h5 => h ((gp_F hc rfl).2 h5)
    refine ⟨?_, fun h => by cases h⟩
    rw [drop_at hc, skL, if_neg (by rintro (h | h | h) <;> subst h <;> exact h4 (by decide)), if_neg (by rintro h; subst h; exact h4 (by decide))]; rfl
  · have e : k = l.length := by omega
    refine ⟨?_, fun _ => e⟩
    rw [List.drop_eq_nil_of_le O]; cases b <;> rfl
theorem rt_ok (s : Str) (a : Nat) (ha : a ≤ s.length) : a + (rtA s a).text.length ≤ s.length ∧ U32 (rtA s a).num ∧ (¬ (rtA s a).kind ≤ 1 → 0 < (rtA s a).text.length) := by
  obtain ⟨h1, h2, h3⟩ := rtS_ok (s.drop a)
  rw [List.length_drop] at h1
  exact ⟨by show a + (rtS (s.drop a)).2.1.length ≤ _; omega, h2, h3⟩
theorem Own.rts {A : Hl} {Ad : Option Addr} {n c : Nat} {l : List RT} {s : World} (h : FL.Own 42 4 A (.slice Ad n c) n (l.map rtc).flatten) (hp : Pub A s) (hl : ∀ x ∈ l, x.text.length ≤ 9223372036854775807 ∧ U32 x.num) (hn : n = l.length) : Rts s Ad n c l := by
  refine Own.rows (l := l) (css := l.map rtc) h hp ?_ hn
  clear h hn
  induction l with
  | nil => exact All2.nil
  | cons x r ih => exact All2.cons ⟨rfl, rfl, hl x (List.mem_cons_self ..)⟩ (ih fun y hy => hl y (List.mem_cons_of_mem _ hy))
theorem tokens_ac (D : Nat) (L : Hl) (s : World) (l : List UInt8) (hl : l.length ≤ 1100000) : AC Tryz.prog D 16 [St l] L s fun v L' s' => ∃ M', L' = M' ++ L ∧ ∀ s2, Le D s' s2 → Pub M' s2 → ∃ A n c' ts, v = .slice A n c' ∧ Rts s2 A n c' ts ∧ RL l 0 ts := by
 refine AC_enter (TT := TT) (fn := Tryz.f16) TT_ok Tryz.func16 V Z Tryz.ntmps16 Z (rs := [.tmp 2]) Z [(0, _)] Z <| Sr <| At Z Z <| Sr <| At Z Z <| Sr <| At Z Z <| Sr <| At Z Z <| Zp <| ?_
 refine JC_loop (γ := Nat × Value × Hl × List RT) (fun g => [(0, _), (2, _), (3, g.2.1), (4, .int .i64 (g.1 : Int)), (5, .bool false)]) (fun g => g.2.2.1 ++ L) (fun g tw => Le D s tw ∧ (g.1 ≤ l.length ∧ g.2.2.2.length ≤ g.1 ∧ FL.Own 42 4 g.2.2.1 g.2.1 g.2.2.2.length (g.2.2.2.map rtc).flatten ∧ (∀ x ∈ g.2.2.2, x.text.length ≤ 9223372036854775807 ∧ U32 x.num) ∧ ∀ ts, RL l g.1 ts → RL l 0 (g.2.2.2 ++ ts))) (fun g => l.length - g.1) (fun _ _ _ h hl => ⟨h.1.trans hl, h.2⟩) (0, .slice none 0 0, [], []) (.cons Z (.cons Z (.cons Z (.cons Z (.cons Z (.nil _)))))) Z ⟨Le.refl _, ⟨Nat.zero_le _, Nat.le_refl _, Own.nil, (fun x hx => by cases hx), fun ts h => h⟩⟩ ?_
 intro g s1 I1
 obtain ⟨i, vo, Mo, out⟩ := g
 obtain ⟨hi0, hol, hO, hall, hR⟩ := I1.2
 simp only at hi0 hol hO hall hR
 dsimp only
 refine Zp <| Zs <| Zp <| JC_loop (γ := Nat × Bool) (fun q => [(0, _), (2, _), (3, _), (4, .int .i64 (q.1 : Int)), (5, .bool q.2)]) (fun _ => _) (fun q tw => Le D s1 tw ∧ (i ≤ q.1 ∧ q.1 ≤ l.length ∧ q.1 + skL q.2 (l.drop q.1) = gapN l i)) (fun q => l.length - q.1) (fun _ _ _ h hl => ⟨h.1.trans hl, h.2⟩) (i, false) (.cons Z (.cons Z (.cons Z (.cons Z (.cons Z (.nil _)))))) Z ⟨Le.refl _, ⟨Nat.le_refl _, hi0, Z⟩⟩ ?_
 intro q s2 I2
 obtain ⟨e, b⟩ := q
 obtain ⟨he0, he1, he2⟩ := I2.2
 simp only at he0 he1 he2
 dsimp only
 refine Zs ?_
 refine JC_cutB 43 (gpAt b l e = true) ?_ ?_
 ·
  refine Zr <| Zqm Z Z <| Zqm Z Z <| Zqlt2 Z Z Z Z <| Zqlt Z Z Z <| Zqm Z Z <| ?_
  refine JO_caseD (t := 11) Z (fun c4 => ?_) (fun c4 => ?_)
  ·
   refine Zg Z Z ?_
   obtain ⟨ch, hch⟩ : ∃ ch, l[e]? = some ch := ⟨_, List.getElem?_eq_getElem O⟩
   refine Zqm Z Z <| Zg Z Z <| Zqm Z Z <| ?_
   refine JO_case (t := 13) Z (fun c5 => ?_) (fun c5 => ?_)
   ·
    refine Zg Z Z <| Zqm Z Z <| Zg Z Z <| Zqm Z Z <| Zg Z Z <| JO_q (QE_ix Z Z Z Z hch) Z <| Zg Z Z <| Zqne Z Z Z <| Zg Z Z <| ZqT Z Z Z <| Zg Z Z <| Zqm Z Z <| ?_
    refine JO_caseN (t := 19) Z (fun c6 => ?_) (fun c6 => ?_)
    ·
     refine Wf Y4 <| Wf Y4 <| Wf Y4 <| Wf Y4 <| Zg Z Z <| ZqT Z Z Z <| Zg Z Z <| Zqm Z Z <| Wf Y4 <| Wf Y4 <| Wf Y4 <| Wf Y4 <| Zg Z Z <| ZqT Z Z Z <| Zg Z Z <| Zqm Z Z <| Wf Y4 <| Wf Y4 <| Wf Y4 <| Wf Y4 <| Zg Z Z <| ZqT Z Z Z <| Zg Z Z <| Zqm Z Z <| Wf Y4 <| Wf Y4 <| Wf Y4 <| Wf Y4 <| Zg Z Z <| ZqT Z Z Z <| ZqT Z Z Z <| Zn <| ?_
     refine thenQ_n (MidB.mk (Lr D) Sb Z ((decide_eq_true (by first | exact gp_no O | exact gp_T hch As | (rw [gp_F hch As]; omega) | (rw [gp_iff hch]; omega))).symm))
    refine Zg Z Z <| Zqm Z Z <| Zg Z Z <| Zqm Z Z <| Zg Z Z <| JO_q (QE_ix Z Z Z Z hch) Z <| Zg Z Z <| Zqeq Z Z Z <| Zg Z Z <| ZqF Z Z Z <| Zg Z Z <| Zqm Z Z <| ?_
    refine JO_caseD (t := 25) Z (fun c7 => ?_) (fun c7 => ?_)
    ·
     refine Wf Y4 <| Wf Y4 <| Wf Y4 <| Wf Y4 <| Zg Z Z <| ZqT Z Z Z <| Zg Z Z <| Zqm Z Z <| Wf Y4 <| Wf Y4 <| Wf Y4 <| Wf Y4 <| Zg Z Z <| ZqT Z Z Z <| Zg Z Z <| Zqm Z Z <| Wf Y4 <| Wf Y4 <| Wf Y4 <| Wf Y4 <| Zg Z Z <| ZqT Z Z Z <| ZqT Z Z Z <| Zn <| ?_
     refine thenQ_n (MidB.mk (Lr D) Sb Z ((decide_eq_true (by first | exact gp_no O | exact gp_T hch As | (rw [gp_F hch As]; omega) | (rw [gp_iff hch]; omega))).symm))
    refine Zg Z Z <| Zqm Z Z <| Zg Z Z <| Zqm Z Z <| Zg Z Z <| JO_q (QE_ix Z Z Z Z hch) Z <| Zg Z Z <| Zqeq Z Z Z <| Zg Z Z <| ZqF Z Z Z <| Zg Z Z <| Zqm Z Z <| ?_
    refine JO_caseD (t := 31) Z (fun c8 => ?_) (fun c8 => ?_)
    ·
     refine Wf Y4 <| Wf Y4 <| Wf Y4 <| Wf Y4 <| Zg Z Z <| ZqT Z Z Z <| Zg Z Z <| Zqm Z Z <| Wf Y4 <| Wf Y4 <| Wf Y4 <| Wf Y4 <| Zg Z Z <| ZqT Z Z Z <| ZqT Z Z Z <| Zn <| ?_
     refine thenQ_n (MidB.mk (Lr D) Sb Z ((decide_eq_true (by first | exact gp_no O | exact gp_T hch As | (rw [gp_F hch As]; omega) | (rw [gp_iff hch]; omega))).symm))
    refine Zg Z Z <| Zqm Z Z <| Zg Z Z <| Zqm Z Z <| Zg Z Z <| JO_q (QE_ix Z Z Z Z hch) Z <| Zg Z Z <| Zqeq Z Z Z <| Zg Z Z <| ZqF Z Z Z <| Zg Z Z <| Zqm Z Z <| ?_
    refine JO_caseD (t := 37) Z (fun c9 => ?_) (fun c9 => ?_)
    ·
     refine Wf Y4 <| Wf Y4 <| Wf Y4 <| Wf Y4 <| Zg Z Z <| ZqT Z Z Z <| ZqT Z Z Z <| Zn <| ?_
     refine thenQ_n (MidB.mk (Lr D) Sb Z ((decide_eq_true (by first | exact gp_no O | exact gp_T hch As | (rw [gp_F hch As]; omega) | (rw [gp_iff hch]; omega))).symm))
    refine Zg Z Z <| Zqm Z Z <| Zg Z Z <| Zqm Z Z <| Zg Z Z <| JO_q (QE_ix Z Z Z Z hch) Z <| Zg Z Z <| Zqeq Z Z Z <| Zg Z Z <| ZqF Z Z Z <| ZqT Z Z Z <| Zn <| ?_
    refine thenQ_n (MidB.mk (Lr D) Sb Z (decide_eq_decide.2 (by first | exact gp_no O | exact gp_T hch As | (rw [gp_F hch As]; omega) | (rw [gp_iff hch]; omega))))
   refine Wf Y4 <| Wf Y4 <| Wf Y4 <| Wf Y4 <| Zg Z Z <| ZqF Z Z Z <| Zg Z Z <| Zqm Z Z <| Zg Z Z <| Zqm Z Z <| Zg Z Z <| Zqm Z Z <| Zg Z Z <| JO_q (QE_ix Z Z Z Z hch) Z <| Zg Z Z <| Zqeq Z Z Z <| Zg Z Z <| ZqF Z Z Z <| Zg Z Z <| Zqm Z Z <| ?_
   refine JO_caseD (t := 25) Z (fun c10 => ?_) (fun c10 => ?_)
   ·
    refine Wf Y4 <| Wf Y4 <| Wf Y4 <| Wf Y4 <| Zg Z Z <| ZqT Z Z Z <| Zg Z Z <| Zqm Z Z <| Wf Y4 <| Wf Y4 <| Wf Y4 <| Wf Y4 <| Zg Z Z <| ZqT Z Z Z <| Zg Z Z <| Zqm Z Z <| Wf Y4 <| Wf Y4 <| Wf Y4 <| Wf Y4 <| Zg Z Z <| ZqT Z Z Z <| ZqT Z Z Z <| Zn <| ?_
    refine thenQ_n (MidB.mk (Lr D) Sb Z ((decide_eq_true (by first | exact gp_no O | exact gp_T hch As | (rw [gp_F hch As]; omega) | (rw [gp_iff hch]; omega))).symm))
   refine Zg Z Z <| Zqm Z Z <| Zg Z Z <| Zqm Z Z <| Zg Z Z <| JO_q (QE_ix Z Z Z Z hch) Z <| Zg Z Z <| Zqeq Z Z Z <| Zg Z Z <| ZqF Z Z Z <| Zg Z Z <| Zqm Z Z <| ?_
   refine JO_caseD (t := 31) Z (fun c11 => ?_) (fun c11 => ?_)
   ·
    refine Wf Y4 <| Wf Y4 <| Wf Y4 <| Wf Y4 <| Zg Z Z <| ZqT Z Z Z <| Zg Z Z <| Zqm Z Z <| Wf Y4 <| Wf Y4 <| Wf Y4 <| Wf Y4 <| Zg Z Z <| ZqT Z Z Z <| ZqT Z Z Z <| Zn <| ?_
    refine thenQ_n (MidB.mk (Lr D) Sb Z ((decide_eq_true (by first | exact gp_no O | exact gp_T hch As | (rw [gp_F hch As]; omega) | (rw [gp_iff hch]; omega))).symm))
   refine Zg Z Z <| Zqm Z Z <| Zg Z Z <| Zqm Z Z <| Zg Z Z <| JO_q (QE_ix Z Z Z Z hch) Z <| Zg Z Z <| Zqeq Z Z Z <| Zg Z Z <| ZqF Z Z Z <| Zg Z Z <| Zqm Z Z <| ?_
   refine JO_caseD (t := 37) Z (fun c12 => ?_) (fun c12 => ?_)
   ·
    refine Wf Y4 <| Wf Y4 <| Wf Y4 <| Wf Y4 <| Zg Z Z <| ZqT Z Z Z <| ZqT Z Z Z <| Zn <| ?_
    refine thenQ_n (MidB.mk (Lr D) Sb Z ((decide_eq_true (by first | exact gp_no O | exact gp_T hch As | (rw [gp_F hch As]; omega) | (rw [gp_iff hch]; omega))).symm))
   refine Zg Z Z <| Zqm Z Z <| Zg Z Z <| Zqm Z Z <| Zg Z Z <| JO_q (QE_ix Z Z Z Z hch) Z <| Zg Z Z <| Zqeq Z Z Z <| Zg Z Z <| ZqF Z Z Z <| ZqT Z Z Z <| Zn <| ?_
   refine thenQ_n (MidB.mk (Lr D) Sb Z (decide_eq_decide.2 (by first | exact gp_no O | exact gp_T hch As | (rw [gp_F hch As]; omega) | (rw [gp_iff hch]; omega))))
  refine Wf Y4 <| Wf Y4 <| Zh Z Z Z <| Zh Z Z Z <| Zh Z Z Z <| Zh Z Z Z <| Wf Y4 <| Wf Y4 <| Zh Z Z Z <| Zh Z Z Z <| Zh Z Z Z <| Zh Z Z Z <| Wf Y4 <| Wf Y4 <| Zh Z Z Z <| Zh Z Z Z <| Zh Z Z Z <| Zh Z Z Z <| Wf Y4 <| Wf Y4 <| Zh Z Z Z <| Zh Z Z Z <| Zh Z Z Z <| Zh Z Z Z <| Wf Y4 <| Wf Y4 <| Zh Z Z Z <| Zh Z Z Z <| Zh Z Z Z <| Zh Z Z Z <| Wf Y4 <| ZqF Z Z Z <| Zn <| ?_
  refine thenQ_n (MidB.mk (Lr D) Sb Z ((decide_eq_false (by first | exact gp_no O | exact gp_T hch As | (rw [gp_F hch As]; omega) | (rw [gp_iff hch]; omega))).symm))
 intro s3 h3
 refine JC_ifD Z (fun c13 => ?_) (fun c13 => ?_)
 ·
  have hgp := c13
  obtain ⟨cg, hcg⟩ := gp_in hgp
  have hel := (List.getElem?_eq_some_iff.1 hcg).1
  refine Zk <| Zt <| Zp <| Zs <| Sr <| Zqm Z Z <| Zqm Z Z <| JO_q (QE_ix Z Z Z Z hcg) Z <| Zqeq Z Z Z <| Nt <| ?_
  refine JC_ifD Z (fun c14 => ?_) (fun c14 => ?_)
  ·
   have hst := gp_hash (b := b) hcg c14
   refine Zr <| At Z Z <| Zr <| Zqm Z Z <| JO_q (QE_add' (c := ((e + 1 : Nat) : Int)) Z Z (by rw [w64 O O]; omega)) Z <| Zqa Z Z <| Zn <| Zb <| ?_
   refine thenQ_n ⟨(e + 1, true), [], kp, Z, ⟨(I2.1.t h3), ⟨by simp only; omega, by simp only; omega, by simp only; omega⟩⟩, (by simp only; omega)⟩
  refine Sr <| Zqm Z Z <| Zqm Z Z <| JO_q (QE_ix Z Z Z Z hcg) Z <| Zqeq Z Z Z <| Nt <| ?_
  refine JC_ifD Z (fun c15 => ?_) (fun c15 => ?_)
  ·
   have hst := gp_nl (b := b) hcg c15
   refine Zr <| At Z Z <| Zr <| Zqm Z Z <| JO_q (QE_add' (c := ((e + 1 : Nat) : Int)) Z Z (by rw [w64 O O]; omega)) Z <| Zqa Z Z <| Zn <| Zb <| ?_
   refine thenQ_n ⟨(e + 1, false), [], kp, Z, ⟨(I2.1.t h3), ⟨by simp only; omega, by simp only; omega, by simp only; omega⟩⟩, (by simp only; omega)⟩
  have hst := gp_other hcg As c15 hgp
  refine Zk <| Zt <| Zr <| Zqm Z Z <| JO_q (QE_add' (c := ((e + 1 : Nat) : Int)) Z Z (by rw [w64 O O]; omega)) Z <| Zqa Z Z <| Zn <| Zb <| ?_
  refine thenQ_n ⟨(e + 1, b), [], kp, Z, ⟨(I2.1.t h3), ⟨by simp only; omega, by simp only; omega, by simp only; omega⟩⟩, (by simp only; omega)⟩
 obtain ⟨hend, hcm⟩ := gp_end c13 he1
 have heG : gapN l i = e := by rw [← he2, hend]
 have heT : rtA l e = rtA l (gapN l i) := by rw [heG]
 obtain ⟨hr1, hr2, hr3⟩ := rt_ok l e he1
 refine Zl <| Zv <| Zv <| Zd <| Zt <| Sr <| Zqm Z Z <| Zqm Z Z <| Jc Z Z Z (rtok_ac D _ _ l e he1 hl) ?_
 rintro _ _ s16 h16 ⟨rfl, rfl⟩
 have hall2 : ∀ x ∈ out ++ [rtA l e], x.text.length ≤ 9223372036854775807 ∧ U32 x.num := fun x hx => by
   rcases List.mem_append.1 hx with hx | hx
   · exact hall x hx
   · rw [List.mem_singleton.1 hx]; exact ⟨by omega, hr2⟩
 refine JO_allocZ Z [_, _, _, _] Z Z ?_
 intro β17 s17 h17
 refine Wt 0 [_, _, _, _] Y9 <| Nt <| Sr <| Zqm Z Z <| JO_q (QE_ldA 0 [_, _, _, _] Z Z Z Z Z) Z <| JO_bs [(_, _)] [_, _, _, _] Z Z Z Z Z Z Z Z Z ?_
 intro βn s18 h18 hcb
 refine JO_app (sz := 4) [_] Mo L Z Z Z Z Z Z Z hO (Row.of_cells (hcb.le (Lr D)) Z Z) ⟨by simp [ti42]; omega, by omega⟩ Z ?_
 intro v2 A2x s19 h19 o2
 obtain ⟨Av2, cv2, rfl, _, _⟩ := Own.slice o2
 simp only [cQ9, nQ9]
 refine At Z Z <| Zs <| Sr <| W0 Y5 <| Wl 0 Y6 <| Zqle Z Z Z <| Nt <| ?_
 refine JC_ifD Z (fun c20 => ?_) (fun c20 => ?_)
 ·
  have hz := c20
  refine Sr <| Zqm Z Z <| At Z Z <| Zo <| Zu <| Zc <| Zu <| Zc <| ?_
  refine retQ_mk [_] _ (.inr Z) (.tmp Z (.nil)) Z (I1.1.t I2.1|>.t h3|>.t h16|>.t h17|>.t h18|>.t h19) (fun sR hS2 => ?_)
  refine ⟨_, Z, fun s2 hs2 hp => ⟨_, _, _, out ++ [rtA l e], Z, ?_, hR _ (.stop heT hz)⟩⟩
  exact Own.rts (by simp only [List.map_append, List.map_cons, List.map_nil, flat_snoc]; exact o2) hp hall2 (by simp)
 have hz := c20
 have hpos := hr3 hz
 obtain rfl : b = false := by
   cases b
   · rfl
   · have := hcm rfl; omega
 refine Zk <| Zt <| Zr <| Zqm Z Z <| Wb Y5 <| Wl 0 Y6 <| Zqlt2 Z Z Z Z <| JO_q (QE_add' (c := ((e + (rtA l e).text.length : Nat) : Int)) Z Z (by rw [w64 O O]; omega)) Z <| Zqa Z Z <| Zn <| Zb <| ?_
 refine thenQ_n ⟨(e + (rtA l e).text.length, .slice Av2 (out.length + 1) cv2, A2x, out ++ [rtA l e]), [_], kp, Z, ⟨(I1.1.t I2.1|>.t h3|>.t h16|>.t h17|>.t h18|>.t h19), ⟨by simp only; omega, by simp only [List.length_append, List.length_cons, List.length_nil]; omega, by simp only [List.length_append, List.length_cons, List.length_nil, List.map_append, List.map_cons, List.map_nil, flat_snoc]; exact o2, hall2, fun ts hts => by simp only [List.append_assoc, List.cons_append, List.nil_append]; exact hR _ (.next heT hz hts)⟩⟩, (by simp only; omega)⟩
end Go.Proofs.YtiljephghfngnaaGreatDoor
namespace Go.Proofs.YtiljephghfngnaaGreatDoor
open Go Go.FL
def tok3 (t : PS) : Prop := t.next.kind = 1 ∨ t.next.kind = 2 ∨ t.next.kind = 3
def WF (s : Str) (t : PS) : Prop := t.next = (rdQ s t.next.off).1 ∧ t.behind = (rdQ s t.next.off).2
def Rch (s : Str) (t t' : PS) : Prop := t' = t ∨ (tok3 t ∧ t.behind ≤ t'.behind ∧ WF s t')
def Lo (G : PS → Prop) (s : Str) (t : PS) {α : Type} (r r' : PR α) : Prop := match r with
  | .ok x t1 => Rch s t t1 ∧ (G t1 → r' = .ok x t1)
  | .er t1 => Rch s t t1 ∧ (G t1 → r' = .er t1)
  | .out => True
def commaK : List (List Tk) → List Tk
  | [] => []
  | [x] => x
  | x :: y :: r => x ++ sgK [44] :: commaK (y :: r)
def getW : Str := [103, 101, 116]
def exKW (k o n : Int) (nm : Str) (az : List (List Tk)) (out : Int) : List Tk :=
  if k = 1 then [nuK n] else if k = 2 then [wdK nm] else if k = 3 then wdK nm :: sgK [91] :: (commaK az ++ [sgK [93]])
  else if k = 4 then wdK nm :: sgK [40] :: (commaK az ++ [sgK [41]]) else if k = 5 then [wdK getW]
  else if k = 6 then sgK (sgnT o) :: az.getD 0 []
  else if strg o < out then sgK [40] :: (az.getD 0 [] ++ sgK (sgnT o) :: (az.getD 1 [] ++ [sgK [41]]))
  else az.getD 0 [] ++ sgK (sgnT o) :: az.getD 1 []
mutual
def exK : Ex → Int → List Tk
  | .mk k o n nm az, out => exKW k o n nm (exKs az (outers k o)) out
def exKs : List Ex → List Int → List (List Tk)
  | [], _ => []
  | x :: r, os => exK x (os.headD 0) :: exKs r os.tail
end
def elseW : Str := [101, 108, 115, 101]
def ifW : Str := [105, 102]
def whileW : Str := [119, 104, 105, 108, 101]
def wordK (k : Int) : Str := if k = 6 then [114, 101, 116, 117, 114, 110] else if k = 7 then [112, 117, 116] else if k = 8 then [115, 116, 111, 112] else if k = 9 then [98, 114, 101, 97, 107] else [99, 111, 110, 116, 105, 110, 117, 101]
def stK0 (k : Int) (nm : Str) (es : List (List Tk)) : List Tk :=
  if k = 1 then wdK nm :: sgK [61] :: (es.getD 0 [] ++ [sgK [59]]) else if k = 2 then wdK nm :: sgK [91] :: (es.getD 0 [] ++ sgK [93] :: sgK [61] :: (es.getD 1 [] ++ [sgK [59]]))
  else if k = 5 then wdK nm :: sgK [40] :: (commaK es ++ [sgK [41], sgK [59]]) else wdK (wordK k) :: (commaK es ++ [sgK [59]])
mutual
def stK : Stm → List Tk
  | .mk k nm es b e => if k = 3 ∨ k = 4 then
      wdK (if k = 3 then ifW else whileW) :: sgK [40] :: ((exKs es []).getD 0 [] ++ sgK [41] :: sgK [123] :: (stKs b ++ sgK [125] ::
        (if e.isEmpty = true then [] else if isIf e = true then wdK elseW :: stK1 e else wdK elseW :: sgK [123] :: (stKs e ++ [sgK [125]]))))
    else stK0 k nm (exKs es [])
def stKs : List Stm → List Tk
  | [] => []
  | x :: r => stK x ++ stKs r
def stK1 : List Stm → List Tk
  | [] => []
  | x :: _ => stK x
end
variable {s : Str}
def binW (w : Str) : Int := if idxOf (fun x => decide (w = x)) (signL.drop 4) 0 < 0 then 0 else idxOf (fun x => decide (w = x)) (signL.drop 4) 0 + 4
variable {s : Str}
def SH (x : Stm) : Prop := ∃ w r, stK x = wdK w :: r ∧ w ≠ [125] ∧ w ≠ elseW
-- names, numbers, globals, functions
theorem tok_hd {u : Str} (h : tk3 (rdS u).1) : ∀ c, u.head? = some c → wsB c = false ∧ c ≠ 35 := by
  have no4 : ∀ {w : Str} {x : Int}, ¬ tk3 ((4 : Int), w, x) := fun h => by rcases h with h | h | h <;> (have h' : (4 : Int) = _ := h; exact absurd h' (by decide))
  match u with
  | [] => intro c hc; cases hc
  | c :: r =>
    intro d hd
    obtain rfl : c = d := by simpa using hd
    rw [rdS] at h
    split at h
    · rename_i hc; exact al_ws (by simp [alB, hc])
    · split at h
      · rename_i hc; exact al_ws (by simp [alB, hc])
      · split at h
        · rename_i hc; subst hc; decide
        · cases hf : signsP.find? (fun x => x.isPrefixOf (c :: r)) with
          | none => rw [hf] at h; exact absurd h no4
          | some x =>
            have h1 := List.find?_some hf
            have h2 := List.mem_of_find?_eq_some hf
            have h3 : x ≠ [] ∧ wsB (x.getD 0 0) = false ∧ x.getD 0 0 ≠ 35 := (show ∀ x ∈ signsP, x ≠ [] ∧ wsB (x.getD 0 0) = false ∧ x.getD 0 0 ≠ 35 by decide +kernel) x h2
            match x, h3, h1 with
            | [], h3, _ => exact absurd rfl h3.1
            | y :: q, h3, h1 =>
              simp only [List.isPrefixOf, Bool.and_eq_true, beq_iff_eq] at h1
              obtain rfl := h1.1
              exact h3.2
theorem rd_rt {u : Str} (h : tk3 (rdS u).1) : u.take (rdS u).2 = (rdS u).1.2.1 ∧ ¬ (rtS u).1 ≤ 1 ∧ (rtS u).2.1 = (rdS u).1.2.1 ∧ (rdS u).2 = (rdS u).1.2.1.length ∧ (rdS u).2 ≤ u.length := by
  have no4 : ∀ {w : Str} {x : Int}, ¬ tk3 ((4 : Int), w, x) := fun h => by rcases h with h | h | h <;> (have h' : (4 : Int) = _ := h; exact absurd h' (by decide))
  match u with
  | [] => rcases h with h | h | h <;> exact absurd h (by decide)
  | c :: r =>
    have hl := (rdS_ok (c :: r)).1
    refine ⟨?_, ?_⟩
    · rw [rdS] at h ⊢
      split at h
      · rename_i hc
        rw [if_pos hc]
        split at h
        · rename_i hk
          rw [if_pos hk]
          exact take_tw _
        · exact absurd h no4
      · rename_i hc
        rw [if_neg hc]
        split at h
        · rename_i hd
          rw [if_pos hd]
          cases hn : numL (digL (c :: r)) with
          | none => rw [hn] at h; exact absurd h no4
          | some n => exact take_tw _
        · rename_i hd
          rw [if_neg hd]
          split at h
          · rename_i hq
            rw [if_pos hq]
            split at h
            · rename_i hb; rw [if_pos hb]
            · exact absurd h no4
          · rename_i hq
            rw [if_neg hq]
            cases hf : signsP.find? (fun x => x.isPrefixOf (c :: r)) with
            | none => rw [hf] at h; exact absurd h no4
            | some x => exact pre_iff.2 (by have := List.find?_some hf; simpa using this)
    · rw [rdS] at h hl ⊢
      rw [rtS]
      split at h
      · rename_i hc
        rw [if_pos hc] at hl
        rw [if_pos hc, if_pos hc]
        split at h
        · rename_i hk
          rw [if_pos hk] at hl
          rw [if_pos hk]
          rcases Bool.or_eq_true_iff.1 hk with hk | hk
          · rw [if_pos hk]; exact ⟨by show ¬ (4 : Int) ≤ 1; decide, rfl, rfl, hl⟩
          · split
            · exact ⟨by show ¬ (4 : Int) ≤ 1; decide, rfl, rfl, hl⟩
            · exact ⟨by show ¬ (2 : Int) ≤ 1; decide, rfl, rfl, hl⟩
        · exact absurd h no4
      · rename_i hc
        rw [if_neg hc] at hl
        rw [if_neg hc, if_neg hc]
        split at h
        · rename_i hd
          rw [if_pos hd] at hl
          rw [if_pos hd, if_pos hd]
          cases hn : numL (digL (c :: r)) with
          | none => rw [hn] at h; exact absurd h no4
          | some n => rw [hn] at hl; exact ⟨by show ¬ (3 : Int) ≤ 1; decide, rfl, rfl, hl⟩
        · rename_i hd
          rw [if_neg hd] at hl
          rw [if_neg hd, if_neg hd]
          split at h
          · rename_i hq
            rw [if_pos hq] at hl
            rw [if_pos hq, if_pos hq]
            split at h
            · rename_i hb
              rw [if_pos hb] at hl
              rw [if_pos hb, if_pos hb]
              have h3 := chr_len hb
              exact ⟨by show ¬ (3 : Int) ≤ 1; decide, rfl, by show 3 = ((c :: r).take 3).length; rw [List.length_take]; omega, hl⟩
            · exact absurd h no4
          · rename_i hq
            rw [if_neg hq] at hl
            rw [if_neg hq, if_neg hq]
            cases hf : signsP.find? (fun x => x.isPrefixOf (c :: r)) with
            | none => rw [hf] at h; exact absurd h no4
            | some x => rw [hf] at hl; exact ⟨by show ¬ (4 : Int) ≤ 1; decide, rfl, rfl, hl⟩
theorem RL.len {s : Str} {a : Nat} {l : List RT} (h : RL s a l) (ha : a ≤ s.length) : l.length + a ≤ s.length + 1 ∧ ∀ t ∈ l, t.text.length ≤ s.length := by
  have hgap : ∀ a, a ≤ s.length → a ≤ gapN s a ∧ gapN s a ≤ s.length := fun a ha => by
    have := skL_le false (s.drop a)
    rw [List.length_drop] at this
    exact ⟨by unfold gapN; omega, by unfold gapN; omega⟩
  have hok : ∀ a, a ≤ s.length → a + (rtA s a).text.length ≤ s.length ∧ (¬ (rtA s a).kind ≤ 1 → 0 < (rtA s a).text.length) := fun a ha => by
    obtain ⟨h1, h2, h3⟩ := rtS_ok (s.drop a)
    rw [List.length_drop] at h1
    exact ⟨by show a + (rtS (s.drop a)).2.1.length ≤ _; omega, h3⟩
  induction h with
  | @stop a t h hk =>
    obtain ⟨g1, g2⟩ := hgap a ha
    have := (hok _ g2).1
    rw [← h] at this
    exact ⟨by rw [List.length_singleton]; omega, fun x hx => by rw [List.mem_singleton.1 hx]; omega⟩
  | @next a t l h hk _ ih =>
    obtain ⟨g1, g2⟩ := hgap a ha
    obtain ⟨h1, h2⟩ := hok _ g2
    rw [← h] at h1 h2
    have ho : t.off = gapN s a := by rw [h]; rfl
    have hp := h2 hk
    obtain ⟨i1, i2⟩ := ih O
    refine ⟨by rw [List.length_cons]; omega, fun x hx => ?_⟩
    rcases List.mem_cons.1 hx with rfl | hx
    · omega
    · exact i2 x hx
open Go.FL
attribute [local irreducible] JC JO JA JB thenQ blockQ retQ AC fill CellsAt QE Ev Mid
theorem Rts.at_ {s : World} {A : Option Addr} {n c k : Nat} {l : List RT} (h : Rts s A n c l) (hk : k < n) : ∃ b off x, A = some ⟨b, off, none⟩ ∧ l[k]? = some x ∧ CellsAt s b (off + k * 4) [.int .i64 x.kind, .int .i64 (x.off : Int), St x.text, .int .u32 x.num] ∧ x.text.length ≤ 9223372036854775807 ∧ U32 x.num := by
  have hl : k < l.length := by rw [← h.1]; exact hk
  obtain ⟨b, off, cs, h1, h2, _, rfl, h5⟩ := h.2.2.2 k l[k] (List.getElem?_eq_getElem hl)
  exact ⟨b, off, l[k], h1, List.getElem?_eq_getElem hl, h2, h5⟩
theorem tokensP_ac (D : Nat) (L : Hl) (s : World) (l : List UInt8) (hl : l.length ≤ 1100000) : AC Tryz.prog D 16 [St l] L s fun v L' s' => L = L' ∧ ∃ A n c' ts, v = .slice A n c' ∧ Rts s' A n c' ts ∧ RL l 0 ts := AC.pubW (tokens_ac D L s l hl)
end Go.Proofs.YtiljephghfngnaaGreatDoor
namespace Go.Proofs.YtiljephghfngnaaGreatDoor
open Go Go.FL
def TA (l : Str) (ts : List RT) (i : Nat) (t : PS) : Prop := ∃ u : PS, t = advP l u ∧ u.behind ≤ l.length ∧ RL l u.behind (ts.drop i)
theorem TA.zero {l : Str} {ts : List RT} (h : RL l 0 ts) : TA l ts 0 (advP l zeroT) := ⟨zeroT, rfl, Nat.zero_le _, h⟩
def RTok (x : RT) (t : Tok) : Prop := x.off = t.off ∧ ((x.kind = 0 ∧ t.kind = 0) ∨ (x.kind = 1 ∧ t.kind = 4) ∨ (x.kind = 2 ∧ t.kind = 1 ∧ kwB t.text = false ∧ identB t.text = true ∧ x.text = t.text) ∨ (x.kind = 3 ∧ t.kind = 2 ∧ x.num = t.num) ∨ (x.kind = 4 ∧ x.text = t.text ∧ ((t.kind = 1 ∧ kwB t.text = true) ∨ (t.kind = 3 ∧ t.text ∈ signsP))))
theorem rtok_at (l : Str) (a : Nat) : RTok (rtA l a) (rdQ l a).1 := by
  refine ⟨Z, ?_⟩
  show ((rtS (l.drop a)).1 = 0 ∧ (rdS (l.drop a)).1.1 = 0) ∨ ((rtS (l.drop a)).1 = 1 ∧ (rdS (l.drop a)).1.1 = 4) ∨ ((rtS (l.drop a)).1 = 2 ∧ (rdS (l.drop a)).1.1 = 1 ∧ kwB (rdS (l.drop a)).1.2.1 = false ∧ identB (rdS (l.drop a)).1.2.1 = true ∧ (rtS (l.drop a)).2.1 = (rdS (l.drop a)).1.2.1) ∨ ((rtS (l.drop a)).1 = 3 ∧ (rdS (l.drop a)).1.1 = 2 ∧ (rtS (l.drop a)).2.2 = (rdS (l.drop a)).1.2.2) ∨ ((rtS (l.drop a)).1 = 4 ∧ (rtS (l.drop a)).2.1 = (rdS (l.drop a)).1.2.1 ∧ (((rdS (l.drop a)).1.1 = 1 ∧ kwB (rdS (l.drop a)).1.2.1 = true) ∨ ((rdS (l.drop a)).1.1 = 3 ∧ (rdS (l.drop a)).1.2.1 ∈ signsP)))
  generalize l.drop a = u
  match u with
  | [] => exact .inl ⟨rfl, rfl⟩
  | c :: r =>
    rw [rtS, rdS]
    split
    · rename_i hc
      split
      · rename_i hk
        rw [if_pos (by rw [hk]; rfl)]
        exact .inr (.inr (.inr (.inr ⟨rfl, rfl, .inl ⟨rfl, hk⟩⟩)))
      · rename_i hk
        split
        · rename_i hi
          rw [if_pos (by rw [hi, Bool.or_true])]
          exact .inr (.inr (.inl ⟨rfl, rfl, by simpa using hk, hi, rfl⟩))
        · rename_i hi
          rw [if_neg (by simp [hk, hi])]
          exact .inr (.inl ⟨rfl, rfl⟩)
    · split
      · cases hn : numL (digL (c :: r)) with
        | none => exact .inr (.inl ⟨rfl, rfl⟩)
        | some n => exact .inr (.inr (.inr (.inl ⟨rfl, rfl, rfl⟩)))
      · split
        · split
          · exact .inr (.inr (.inr (.inl ⟨rfl, rfl, rfl⟩)))
          · exact .inr (.inl ⟨rfl, rfl⟩)
        · cases hf : signsP.find? (fun x => x.isPrefixOf (c :: r)) with
          | none => exact .inr (.inl ⟨rfl, rfl⟩)
          | some x => exact .inr (.inr (.inr (.inr ⟨rfl, rfl, .inr ⟨rfl, List.mem_of_find?_eq_some hf⟩⟩)))
theorem drop_hd {ts : List RT} {i : Nat} {x : RT} {r : List RT} (h : ts.drop i = x :: r) : ts[i]? = some x ∧ i < ts.length ∧ ts.drop (i + 1) = r := by
  have h1 : i < ts.length := by
    rcases Nat.lt_or_ge i ts.length with h2 | h2
    · exact h2
    · rw [List.drop_eq_nil_of_le h2] at h; cases h
  rw [List.drop_eq_getElem_cons h1] at h
  injection h with h2 h3
  exact ⟨by rw [List.getElem?_eq_getElem h1, h2], h1, h3⟩
variable {l : Str} {ts : List RT} {i : Nat} {t : PS}
theorem TA.at_ (h : TA l ts i t) : ∃ x, ts[i]? = some x ∧ RTok x t.next ∧ i < ts.length := by
  obtain ⟨u, rfl, hu, hr⟩ := h
  generalize hd : ts.drop i = d at hr
  cases hr with
  | @stop _ x h _ =>
    obtain ⟨h1, h2, _⟩ := drop_hd hd
    exact ⟨x, h1, by rw [h]; exact rtok_at l _, h2⟩
  | @next _ x r h _ _ =>
    obtain ⟨h1, h2, _⟩ := drop_hd hd
    exact ⟨x, h1, by rw [h]; exact rtok_at l _, h2⟩
theorem TA.lt (h : TA l ts i t) : i < ts.length := by obtain ⟨_, _, _, h⟩ := h.at_; exact h
theorem TA.next (h : TA l ts i t) (ht : tok3 t) : TA l ts (i + 1) (advP l t) := by
  obtain ⟨u, rfl, hu, hr⟩ := h
  have hb : u.behind + skL false (l.drop u.behind) ≤ l.length := by
    have := skL_le false (l.drop u.behind)
    rw [List.length_drop] at this; omega
  have hk3 : tk3 (rdS (l.drop (gapN l u.behind))).1 := ht
  obtain ⟨_, hk, h4, h5, h6⟩ := rd_rt hk3
  rw [List.length_drop] at h6
  generalize hd : ts.drop i = d at hr
  cases hr with
  | @stop _ x h hk' =>
    rw [h] at hk'
    exact absurd hk' hk
  | @next _ x r h _ hl =>
    obtain ⟨h1, h2, h3⟩ := drop_hd hd
    have e : x.off + x.text.length = (advP l u).behind := by
      rw [h]
      show gapN l u.behind + (rtS (l.drop (gapN l u.behind))).2.1.length = gapN l u.behind + (rdS (l.drop (gapN l u.behind))).2
      rw [h4, h5]
    refine ⟨advP l u, Z, ?_, by rw [h3, ← e]; exact hl⟩
    show gapN l u.behind + (rdS (l.drop (gapN l u.behind))).2 ≤ l.length
    have : gapN l u.behind ≤ l.length := hb
    omega
theorem TA.isN (h : TA l ts i t) {w : Str} (hw : isP t w = true) : TA l ts (i + 1) (advP l t) := h.next (isP_tok hw)
theorem TA.nmN (h : TA l ts i t) (hw : isNm t = true) : TA l ts (i + 1) (advP l t) := h.next (isNm_tok hw)
theorem TA.nuN (h : TA l ts i t) (hw : t.next.kind = 2) : TA l ts (i + 1) (advP l t) := h.next (.inr (.inl hw))
theorem RTok.off {x : RT} (h : RTok x t.next) : x.off = t.next.off := h.1
theorem RTok.is {x : RT} (h : RTok x t.next) {w : Str} (hw : identB w = false) : isP t w = true ↔ (x.kind = 4 ∧ x.text = w) := by
  have e : isP t w = ((decide (t.next.kind = 3) || decide (t.next.kind = 1)) && decide (t.next.text = w)) := rfl
  rw [e]
  rcases h.2 with ⟨h1, h2⟩ | ⟨h1, h2⟩ | ⟨h1, h2, _, h3, h4⟩ | ⟨h1, h2, _⟩ | ⟨h1, h2, h3⟩
  · rw [h2, h1]; constructor
    · intro h; simp at h
    · rintro ⟨h, _⟩; exact absurd h (by decide)
  · rw [h2, h1]; constructor
    · intro h; simp at h
    · rintro ⟨h, _⟩; exact absurd h (by decide)
  · constructor
    · intro h
      simp only [Bool.and_eq_true, decide_eq_true_eq] at h
      rw [h.2, hw] at h3; cases h3
    · rintro ⟨h, _⟩; rw [h1] at h; exact absurd h (by decide)
  · rw [h2, h1]; constructor
    · intro h; simp at h
    · rintro ⟨h, _⟩; exact absurd h (by decide)
  · rw [h1, h2]
    rcases h3 with ⟨h3, _⟩ | ⟨h3, _⟩ <;> rw [h3] <;> simp
theorem RTok.nm {x : RT} (h : RTok x t.next) : isNm t = true ↔ x.kind = 2 := by
  have e : isNm t = (decide (t.next.kind = 1) && !kwB t.next.text) := rfl
  rw [e]
  rcases h.2 with ⟨h1, h2⟩ | ⟨h1, h2⟩ | ⟨h1, h2, h3, _, _⟩ | ⟨h1, h2, _⟩ | ⟨h1, h2, h3⟩
  · rw [h2, h1]; simp
  · rw [h2, h1]; simp
  · rw [h2, h1, h3]; simp
  · rw [h2, h1]; simp
  · rw [h1]
    rcases h3 with ⟨h3, h4⟩ | ⟨h3, _⟩
    · rw [h3, h4]; simp
    · rw [h3]; simp
theorem RTok.nmT {x : RT} (h : RTok x t.next) (hn : x.kind = 2) : x.text = t.next.text := by
  rcases h.2 with ⟨h1, _⟩ | ⟨h1, _⟩ | ⟨_, _, _, _, h4⟩ | ⟨h1, _⟩ | ⟨h1, _⟩
  · rw [h1] at hn; exact absurd hn (by decide)
  · rw [h1] at hn; exact absurd hn (by decide)
  · exact h4
  · rw [h1] at hn; exact absurd hn (by decide)
  · rw [h1] at hn; exact absurd hn (by decide)
theorem RTok.nu {x : RT} (h : RTok x t.next) : t.next.kind = 2 ↔ x.kind = 3 := by
  rcases h.2 with ⟨h1, h2⟩ | ⟨h1, h2⟩ | ⟨h1, h2, _⟩ | ⟨h1, h2, _⟩ | ⟨h1, _, h3⟩
  · rw [h2, h1]; decide
  · rw [h2, h1]; decide
  · rw [h2, h1]; decide
  · rw [h2, h1]; decide
  · rw [h1]
    rcases h3 with ⟨h3, _⟩ | ⟨h3, _⟩ <;> rw [h3] <;> decide
theorem RTok.nuV {x : RT} (h : RTok x t.next) (hn : x.kind = 3) : x.num = t.next.num := by
  rcases h.2 with ⟨h1, _⟩ | ⟨h1, _⟩ | ⟨h1, _⟩ | ⟨_, _, h4⟩ | ⟨h1, _⟩
  · rw [h1] at hn; exact absurd hn (by decide)
  · rw [h1] at hn; exact absurd hn (by decide)
  · rw [h1] at hn; exact absurd hn (by decide)
  · exact h4
  · rw [h1] at hn; exact absurd hn (by decide)
theorem RTok.en {x : RT} (h : RTok x t.next) : t.next.kind = 0 ↔ x.kind = 0 := by
  rcases h.2 with ⟨h1, h2⟩ | ⟨h1, h2⟩ | ⟨h1, h2, _⟩ | ⟨h1, h2, _⟩ | ⟨h1, _, h3⟩
  · rw [h2, h1]
  · rw [h2, h1]; decide
  · rw [h2, h1]; decide
  · rw [h2, h1]; decide
  · rw [h1]
    rcases h3 with ⟨h3, _⟩ | ⟨h3, _⟩ <;> rw [h3] <;> decide
-- operators
theorem sgn_fix : ∀ n : _root_.Fin 22, 1 ≤ n.val → identB (sgnT (n.val : Int)) = false ∧ kwB (sgnT (n.val : Int)) = false ∧ (4 ≤ n.val → binW (sgnT (n.val : Int)) = (n.val : Int)) := by decide +kernel
theorem sgn_id {o : Int} (h1 : 1 ≤ o) (h2 : o ≤ 21) : identB (sgnT o) = false ∧ kwB (sgnT o) = false ∧ (4 ≤ o → binW (sgnT o) = o) := by
  obtain ⟨n, rfl⟩ := Int.eq_ofNat_of_zero_le (show 0 ≤ o by omega)
  have := sgn_fix ⟨n, by omega⟩ (by show 1 ≤ n; omega)
  exact ⟨this.1, this.2.1, fun h => this.2.2 (by show 4 ≤ n; omega)⟩
theorem RTok.k3 {x : RT} (h : RTok x t.next) {w : Str} (hw : isP t w = true) (h1 : identB w = false) (h2 : kwB w = false) : t.next.kind = 3 ∧ t.next.text = w := by
  have h3 := (h.is h1).1 hw
  have e : ((decide (t.next.kind = 3) || decide (t.next.kind = 1)) && decide (t.next.text = w)) = true := hw
  simp only [Bool.and_eq_true, Bool.or_eq_true, decide_eq_true_eq] at e
  rcases h.2 with ⟨k, _⟩ | ⟨k, _⟩ | ⟨k, _⟩ | ⟨k, _⟩ | ⟨_, _, k | k⟩
  · rw [k] at h3; exact absurd h3.1 (by decide)
  · rw [k] at h3; exact absurd h3.1 (by decide)
  · rw [k] at h3; exact absurd h3.1 (by decide)
  · rw [k] at h3; exact absurd h3.1 (by decide)
  · have := k.2; rw [e.2, h2] at this; cases this
  · exact ⟨k.1, e.2⟩
theorem bin_hit {x : RT} (h : RTok x t.next) {o : Int} (h1 : 4 ≤ o) (h2 : o ≤ 21) (hw : isP t (sgnT o) = true) : binP t = o := by
  obtain ⟨i1, i2, i3⟩ := sgn_id (show 1 ≤ o by omega) h2
  obtain ⟨k1, k2⟩ := h.k3 hw i1 i2
  have := i3 h1
  unfold binW at this
  unfold binP
  rw [if_neg (by rw [k1]; decide), k2]; exact this
theorem idx_got {q : Str → Bool} : ∀ {l : List Str} {k j : Nat}, idxOf q l k = (j : Int) → k ≤ j ∧ ∃ y, l[j - k]? = some y ∧ q y = true
  | [], k, j, h => by rw [idxOf] at h; omega
  | y :: r, k, j, h => by
    rw [idxOf] at h
    split at h
    · rename_i h1
      have : j = k := by omega
      subst this
      exact ⟨Nat.le_refl _, y, by simp, h1⟩
    · obtain ⟨h2, z, h3, h4⟩ := idx_got h
      exact ⟨by omega, z, by rw [show j - k = (j - (k + 1)) + 1 by omega]; simpa using h3, h4⟩
theorem bin_in {t : PS} (h : binP t ≠ 0) : 4 ≤ binP t ∧ binP t ≤ 21 ∧ isP t (sgnT (binP t)) = true := by
  unfold binP at h ⊢
  split
  · rename_i h1; rw [if_pos h1] at h; exact absurd rfl h
  · rename_i h1
    rw [if_neg h1] at h
    split
    · rename_i h2; rw [if_pos h2] at h; exact absurd rfl h
    · rename_i h2
      obtain ⟨k, hk⟩ := Int.eq_ofNat_of_zero_le (Int.not_lt.1 h2)
      obtain ⟨_, y, hy, hq⟩ := idx_got hk
      have hk18 : k < 18 := (List.getElem?_eq_some_iff.1 hy).1
      rw [hk]
      refine ⟨by omega, by omega, ?_⟩
      have e : sgnT (((k : Nat) : Int) + 4) = y := by
        have : (((k : Nat) : Int) + 4).toNat = k + 4 := by omega
        rw [sgnT, this, List.getD_eq_getElem?_getD]
        have h3 : signL[k + 4]? = some y := by rw [← hy, List.getElem?_drop, Nat.add_comm]; rfl
        rw [h3]; rfl
      rw [e]
      show ((decide (t.next.kind = 3) || decide (t.next.kind = 1)) && decide (t.next.text = y)) = true
      have : t.next.kind = 3 := by simpa using h1
      rw [this, hq]; rfl
theorem bin_miss {t : PS} (h : ∀ o : Int, 4 ≤ o → o ≤ 21 → isP t (sgnT o) = false) : binP t = 0 := by
  refine Classical.byContradiction fun hb => ?_
  obtain ⟨h1, h2, h3⟩ := bin_in hb
  rw [h _ h1 h2] at h3; cases h3
def uP (t : PS) : Int := if isP t [33] = true then 1 else if isP t [45] = true then 2 else if isP t [126] = true then 3 else 0
theorem un_hit {t : PS} {o : Int} (h1 : 1 ≤ o) (h2 : o ≤ 3) (hw : isP t (sgnT o) = true) (hb : ∀ j : Int, 1 ≤ j → j < o → isP t (sgnT j) = false) : uP t = o := by
  rcases (show o = 1 ∨ o = 2 ∨ o = 3 by omega) with rfl | rfl | rfl
  · exact if_pos hw
  · have e1 : isP t [33] = false := hb 1 (by decide) (by decide)
    rw [uP, if_neg (by rw [e1]; decide)]; exact if_pos hw
  · have e1 : isP t [33] = false := hb 1 (by decide) (by decide)
    have e2 : isP t [45] = false := hb 2 (by decide) (by decide)
    rw [uP, if_neg (by rw [e1]; decide), if_neg (by rw [e2]; decide)]; exact if_pos hw
theorem un_miss {t : PS} (h : ∀ o : Int, 1 ≤ o → o ≤ 3 → isP t (sgnT o) = false) : uP t = 0 := by
  have e1 : isP t [33] = false := h 1 (by decide) (by decide)
  have e2 : isP t [45] = false := h 2 (by decide) (by decide)
  have e3 : isP t [126] = false := h 3 (by decide) (by decide)
  rw [uP, if_neg (by rw [e1]; decide), if_neg (by rw [e2]; decide), if_neg (by rw [e3]; decide)]
theorem un_tok {t : PS} (h : uP t ≠ 0) : tok3 t := by
  unfold uP at h
  split at h
  · rename_i h1; exact isP_tok h1
  · split at h
    · rename_i h1; exact isP_tok h1
    · split at h
      · rename_i h1; exact isP_tok h1
      · exact absurd rfl h
theorem un_rng (t : PS) : 0 ≤ uP t ∧ uP t ≤ 3 := by unfold uP; repeat' split <;> omega
def simR (l : Str) (n : Nat) (t : PS) : PR Ex :=
  if t.next.kind = 2 then .ok (.mk 1 0 t.next.num [] []) (advP l t)
  else if isP t [103, 101, 116] = true then .ok (.mk 5 0 0 [] []) (advP l t)
  else if isP t [40] = true then (pExpr l n 1 (advP l t)).and fun x t => (expP l [[41]] t).and fun _ t => .ok x t
  else (nameP l t).and fun w t =>
    if isP t [91] = true then (pExpr l n 1 (advP l t)).and fun x t => (expP l [[93]] t).and fun _ t => .ok (.mk 3 0 0 w [x]) t
    else if isP t [40] = true then (pArgs l n (advP l t)).and fun a t => .ok (.mk 4 0 0 w a) t
    else .ok (.mk 2 0 0 w []) t
theorem arg_sim (l : Str) (n : Nat) (t : PS) : pArg l (n + 1) t = if uP t ≠ 0 then (pArg l n (advP l t)).and fun x t2 => .ok (.mk 6 (uP t) 0 [] [x]) t2 else simR l n t := by
  rw [pArg]
  unfold uP
  by_cases h1 : isP t [33] = true
  · simp only [h1, if_true]; rfl
  · by_cases h2 : isP t [45] = true
    · simp only [h1, h2, if_true, if_false]; rfl
    · by_cases h3 : isP t [126] = true
      · simp only [h1, h2, h3, if_true, if_false]; rfl
      · simp only [h1, h2, h3, if_false]; rfl
theorem and_and {α β γ : Type} (a : PR α) (f : α → PS → PR β) (g : β → PS → PR γ) : (a.and f).and g = a.and fun x t => (f x t).and g := by cases a <;> rfl
theorem andOut {α β : Type} {r : PR β} {a : PR α} {k : α → PS → PR β} (h : r = a.and k) (hr : r ≠ .out) : a ≠ .out := by
  rintro rfl; exact hr h
def wrapU : List Int → Ex → Ex
  | [], x => x
  | o :: r, x => .mk 6 o 0 [] [wrapU r x]
theorem pr_id {α : Type} (a : PR α) : (a.and fun x t => .ok x t) = a := by cases a <;> rfl
theorem wrapU_snoc (os : List Int) (o : Int) (x : Ex) : wrapU (os ++ [o]) x = wrapU os (.mk 6 o 0 [] [x]) := by
  induction os with
  | nil => rfl
  | cons a os ih => rw [List.cons_append, wrapU, wrapU, ih]
theorem arg_pos {l : Str} {n : Nat} {t : PS} {α : Type} {k : Ex → PS → PR α} {r : PR α} (h : r = (pArg l n t).and k) (hr : r ≠ .out) : ∃ m, n = m + 1 := by
  cases n with
  | zero => exact absurd (h.trans (by rw [pArg]; rfl)) hr
  | succ m => exact ⟨m, rfl⟩
theorem un_step {l : Str} {n : Nat} {t : PS} {os : List Int} {r : PR Ex} (h : r = (pArg l (n + 1) t).and fun x t => .ok (wrapU os x) t) (hu : uP t ≠ 0) : r = (pArg l n (advP l t)).and fun x t2 => .ok (wrapU (os ++ [uP t]) x) t2 := by
  rw [h, arg_sim, if_pos hu, and_and]
  congr 1; funext x t2
  rw [wrapU_snoc]; rfl
theorem un_stop {l : Str} {n : Nat} {t : PS} {os : List Int} {r : PR Ex} (h : r = (pArg l (n + 1) t).and fun x t => .ok (wrapU os x) t) (hu : uP t = 0) : r = (simR l n t).and fun x t2 => .ok (wrapU os x) t2 := by
  rw [h, arg_sim, if_neg (fun h => h hu)]
structure WtS where
  v : Ex
  o : Int
  n : Nat
def contF (l : Str) : List WtS → Nat → Ex → PS → PR Ex
  | [], n, x, t => pLoop l n 1 x t
  | f :: r, n, x, t => (pLoop l n (strg f.o + 1) x t).and fun y t2 => contF l r f.n (.mk 7 f.o 0 [] [f.v, y]) t2
theorem loop_one {l : Str} {n : Nat} {least : Int} {x : Ex} {t : PS} (h : ¬ (binP t ≠ 0 ∧ least ≤ strg (binP t))) (hn : pLoop l n least x t ≠ .out) : pLoop l n least x t = .ok x t := by
  cases n with
  | zero => exact absurd (by rw [pLoop]) hn
  | succ n => rw [pLoop, if_neg h]
theorem cont_red {l : Str} {f : WtS} {st : List WtS} {n : Nat} {x : Ex} {t : PS} {r : PR Ex} (h : r = contF l (f :: st) n x t) (hr : r ≠ .out) (ho : binP t = 0 ∨ strg (binP t) ≤ strg f.o) : r = contF l st f.n (.mk 7 f.o 0 [] [f.v, x]) t := by
  rw [contF] at h
  rw [loop_one O (andOut h hr)] at h
  exact h
theorem cont_end {l : Str} {n : Nat} {x : Ex} {t : PS} {r : PR Ex} (h : r = contF l [] n x t) (hr : r ≠ .out) (ho : binP t = 0) : r = .ok x t := by
  rw [contF] at h
  rw [h] at hr
  rw [h, loop_one (fun h => h.1 ho) hr]
theorem strg_1 (o : Int) : 1 ≤ strg o ∧ strg o ≤ 5 := by unfold strg; repeat' split <;> omega
theorem loop_more {l : Str} {n : Nat} {least : Int} {x : Ex} {t : PS} (h : binP t ≠ 0) (hle : least ≤ strg (binP t)) (hn : pLoop l n least x t ≠ .out) : ∃ m k, pLoop l n least x t = (pArg l m (advP l t)).and fun y t2 => (pLoop l m (strg (binP t) + 1) y t2).and fun y t3 => pLoop l k least (.mk 7 (binP t) 0 [] [x, y]) t3 := by
  cases n with
  | zero => exact absurd (by rw [pLoop]) hn
  | succ n =>
    rw [pLoop, if_pos ⟨h, hle⟩] at hn ⊢
    cases n with
    | zero => exact absurd (by rw [pExpr]; rfl) hn
    | succ n => exact ⟨n, n + 1, by rw [pExpr, and_and]⟩
theorem cont_push {l : Str} {st : List WtS} {n : Nat} {x : Ex} {t : PS} {r : PR Ex} (h : r = contF l st n x t) (hr : r ≠ .out) (ho : binP t ≠ 0) (hs : ∀ f q, st = f :: q → strg f.o < strg (binP t)) :
    ∃ m k, r = (pArg l m (advP l t)).and fun y t2 => contF l (⟨x, binP t, k⟩ :: st) m y t2 := by
  cases st with
  | nil =>
    rw [contF] at h
    obtain ⟨m, k, e⟩ := loop_more ho (strg_1 _).1 (by rw [← h]; exact hr)
    exact ⟨m, k, by rw [h, e]; rfl⟩
  | cons f st =>
    rw [contF] at h
    have := hs f st rfl
    obtain ⟨m, k, e⟩ := loop_more ho (show strg f.o + 1 ≤ strg (binP t) by omega) (andOut h hr)
    refine ⟨m, k, ?_⟩
    rw [h, e, and_and]
    congr 1; funext y t2
    rw [and_and]; rfl
theorem expr_cont {l : Str} {n : Nat} {t : PS} {r : PR Ex} (h : r = pExpr l n 1 t) (hr : r ≠ .out) : ∃ m, r = (pArg l m t).and fun x t2 => contF l [] m x t2 := by
  cases n with
  | zero => exact absurd (h.trans (by rw [pExpr])) hr
  | succ n => exact ⟨n, by rw [h, pExpr]; rfl⟩
variable {l : Str}
theorem expY {w : Str} {ws : List Str} {t : PS} (h : isP t w = true) : expP l (w :: ws) t = expP l ws (advP l t) := by rw [expP, if_pos h]
theorem expN {w : Str} {ws : List Str} {t : PS} (h : isP t w = false) : expP l (w :: ws) t = .er t := by rw [expP, if_neg (by rw [h]; decide)]
theorem exp0 {t : PS} : expP l [] t = .ok () t := by rw [expP]
theorem okPR {α β : Type} (a : α) (t : PS) (k : α → PS → PR β) : (PR.ok a t).and k = k a t := rfl
theorem erPR {α β : Type} (t : PS) (k : α → PS → PR β) : (PR.er t : PR α).and k = .er t := rfl
theorem nmY {t : PS} (h : isNm t = true) : nameP l t = .ok t.next.text (advP l t) := if_pos h
theorem nmN {t : PS} (h : ¬ isNm t = true) : nameP l t = .er t := if_neg h
theorem nuY {t : PS} (h : t.next.kind = 2) : numbP l t = .ok t.next.num (advP l t) := if_pos h
theorem nuN {t : PS} (h : ¬ t.next.kind = 2) : numbP l t = .er t := if_neg h
theorem isP_two {t : PS} {w v : Str} (h : isP t w = true) (h2 : isP t v = true) : w = v := by
  simp only [isP, Bool.and_eq_true, decide_eq_true_eq] at h h2
  rw [← h.2, h2.2]
theorem isP_other {t : PS} {w v : Str} (h : isP t w = true) (hv : w ≠ v) : isP t v = false := by
  rw [Bool.eq_false_iff]; exact fun h2 => hv (isP_two h h2)
def pGrd (l : Str) (m : Nat) (kd : Int) (t : PS) : PR Stm := (pCond l m t).and fun c t => .ok (.mk kd [] [c.1] c.2 []) t
theorem grd_un (l : Str) (m : Nat) (kd : Int) (t : PS) : pGrd l (m + 1) kd t = (expP l [[40]] t).and fun _ t => (pExpr l m 1 t).and fun x t => (expP l [[41], [123]] t).and fun _ t => (pRest l m [] t).and fun b t => .ok (.mk kd [] [x] b []) t := by
  rw [pGrd, pCond, and_and]; congr 1; funext _ t
  rw [and_and]; congr 1; funext x t
  rw [and_and]; congr 1; funext _ t
  rw [and_and]; rfl
theorem grd_pos {m : Nat} {kd : Int} {t : PS} {r : PR Stm} (h : r = pGrd l m kd t) (hr : r ≠ .out) : ∃ k, m = k + 1 := by
  cases m with
  | zero => exact absurd (h.trans (by rw [pGrd, pCond]; rfl)) hr
  | succ m => exact ⟨m, rfl⟩
def setEls (y : Stm) (e : List Stm) : Stm := .mk y.kind y.name y.exprs y.body e
theorem if_grd (l : Str) (m : Nat) (t : PS) : pIf l (m + 1) t = (pGrd l m 3 t).and fun y t =>
    if isP t [101, 108, 115, 101] = true then
      (if isP (advP l t) [105, 102] = true then (pIf l m (advP l (advP l t))).and fun z t => .ok (setEls y [z]) t
       else (expP l [[123]] (advP l t)).and fun _ t => (pRest l m [] t).and fun e t => .ok (setEls y e) t)
    else .ok y t := by
  rw [pIf, pGrd, and_and]; rfl
theorem if_pos' {m : Nat} {t : PS} {r : PR Stm} (h : r = pIf l m t) (hr : r ≠ .out) : ∃ k, m = k + 1 := by
  cases m with
  | zero => exact absurd (h.trans (by rw [pIf])) hr
  | succ m => exact ⟨m, rfl⟩
def nmR (l : Str) (m : Nat) (w : Str) (t : PS) : PR Stm :=
  if isP t [40] = true then (pArgs l m (advP l t)).and fun a t => (expP l [[59]] t).and fun _ t => .ok (.mk 5 w a [] []) t
  else if isP t [91] = true then (pExpr l m 1 (advP l t)).and fun x t => (expP l [[93], [61]] t).and fun _ t => (pExpr l m 1 t).and fun y t => (expP l [[59]] t).and fun _ t => .ok (.mk 2 w [x, y] [] []) t
  else (expP l [[61]] t).and fun _ t => (pExpr l m 1 t).and fun x t => (expP l [[59]] t).and fun _ t => .ok (.mk 1 w [x] [] []) t
def w5 : List Str := [[114, 101, 116, 117, 114, 110], [112, 117, 116], [115, 116, 111, 112], [98, 114, 101, 97, 107], [99, 111, 110, 116, 105, 110, 117, 101]]
def stW (l : Str) (m : Nat) (t : PS) : Nat → PR Stm
  | 0 => .er t
  | j + 1 => if isP t (w5.getD (4 - j) []) = true then
      (if 2 < 4 - j then (expP l [[59]] (advP l t)).and fun _ t => .ok (.mk (6 + ((4 - j : Nat) : Int)) [] [] [] []) t
       else (pExpr l m 1 (advP l t)).and fun x t => (expP l [[59]] t).and fun _ t => .ok (.mk (6 + ((4 - j : Nat) : Int)) [] [x] [] []) t)
    else stW l m t j
theorem nm_ref (l : Str) (m : Nat) (w : Str) (t : PS) : (if isP t [61] = true then (pExpr l m 1 (advP l t)).and fun x t2 => (expP l [[59]] t2).and fun _ t2 => .ok (Stm.mk 1 w [x] [] []) t2
       else if isP t [91] = true then (pExpr l m 1 (advP l t)).and fun x t2 => (expP l [[93], [61]] t2).and fun _ t2 => (pExpr l m 1 t2).and fun y t2 => (expP l [[59]] t2).and fun _ t2 => .ok (Stm.mk 2 w [x, y] [] []) t2
       else (expP l [[40]] t).and fun _ t2 => (pArgs l m t2).and fun a t2 => (expP l [[59]] t2).and fun _ t2 => .ok (Stm.mk 5 w a [] []) t2) = nmR l m w t := by
  unfold nmR
  by_cases h1 : isP t [61] = true
  · have h2 := isP_other (v := [40]) h1 (by decide)
    have h3 := isP_other (v := [91]) h1 (by decide)
    rw [if_pos h1, if_neg (by rw [h2]; decide), if_neg (by rw [h3]; decide), expY h1]; rfl
  · have h1' : isP t [61] = false := by simpa using h1
    rw [if_neg h1]
    by_cases h2 : isP t [91] = true
    · have h3 := isP_other (v := [40]) h2 (by decide)
      rw [if_pos h2, if_neg (by rw [h3]; decide), if_pos h2]
    · rw [if_neg h2]
      by_cases h3 : isP t [40] = true
      · rw [if_pos h3, expY h3]; rfl
      · have h3' : isP t [40] = false := by simpa using h3
        rw [if_neg h3, if_neg h2, expN h3', expN h1']; rfl
theorem stm_ref (l : Str) (m : Nat) (t : PS) : pStm l (m + 1) t = if isNm t = true then nmR l m t.next.text (advP l t)
    else if isP t [105, 102] = true then pIf l m (advP l t)
    else if isP t [119, 104, 105, 108, 101] = true then pGrd l m 4 (advP l t)
    else stW l m t 5 := by
  rw [pStm, nm_ref]; rfl
theorem stm_pos {m : Nat} {t : PS} {r : PR Stm} (h : r = pStm l m t) (hr : r ≠ .out) : ∃ k, m = k + 1 := by
  cases m with
  | zero => exact absurd (h.trans (by rw [pStm])) hr
  | succ m => exact ⟨m, rfl⟩
theorem elems_pos {α : Type} {m : Nat} {a : List Ex} {t : PS} {k : List Ex → PS → PR α} {r : PR α} (h : r = (pElems l m a t).and k) (hr : r ≠ .out) : ∃ j, m = j + 1 := by
  cases m with
  | zero => exact absurd (h.trans (by rw [pElems]; rfl)) hr
  | succ m => exact ⟨m, rfl⟩
theorem elems_un (l : Str) (m : Nat) (a : List Ex) (t : PS) {α : Type} (k : List Ex → PS → PR α) : (pElems l (m + 1) a t).and k = (pExpr l m 1 t).and fun x t => if isP t [44] = true then (pElems l m (a ++ [x]) (advP l t)).and k else k (a ++ [x]) t := by
  rw [pElems, and_and]; congr 1; funext x t
  split <;> rfl
theorem args_pos {m : Nat} {t : PS} {r : PR (List Ex)} (h : r = pArgs l m t) (hr : r ≠ .out) : ∃ j, m = j + 1 := by
  cases m with
  | zero => exact absurd (h.trans (by rw [pArgs])) hr
  | succ m => exact ⟨m, rfl⟩
theorem names_pos' {m : Nat} {a : List Str} {t : PS} {r : PR (List Str)} (h : r = pNames l m a t) (hr : r ≠ .out) : ∃ j, m = j + 1 := by
  cases m with
  | zero => exact absurd (h.trans (by rw [pNames])) hr
  | succ m => exact ⟨m, rfl⟩
-- globals
def w3 : List Str := [[99, 111, 110, 115, 116], [118, 97, 114], [97, 114, 114, 97, 121]]
def gkP (t : PS) : Nat → Int
  | 0 => 0
  | k + 1 => if isP t (w3.getD k []) = true then (k : Int) + 1 else gkP t k
theorem gk_rng (t : PS) : gkP t 3 = 0 ∨ gkP t 3 = 1 ∨ gkP t 3 = 2 ∨ gkP t 3 = 3 := by
  simp only [gkP]; repeat' split
  all_goals simp
theorem gk_tok {t : PS} (h : gkP t 3 ≠ 0) : tok3 t := by
  simp only [gkP] at h
  split at h
  · rename_i h1; exact isP_tok h1
  · split at h
    · rename_i h1; exact isP_tok h1
    · split at h
      · rename_i h1; exact isP_tok h1
      · exact absurd rfl h
def sepW (b : Bool) : Str := if b = true then [61] else [44]
def numK (l : Str) (w : Str) (v : Int) (a : List Int) (t : PS) : PR Glo := (expP l [[59]] t).and fun _ t => .ok ⟨3, w, v, a⟩ t
def gloR (l : Str) (m : Nat) (k : Int) (w : Str) (t : PS) : PR Glo :=
  if k = 1 then (expP l [[61]] t).and fun _ t => (numbP l t).and fun v t => (expP l [[59]] t).and fun _ t => .ok ⟨1, w, v, []⟩ t
  else if k = 3 then (expP l [[91]] t).and fun _ t => (numbP l t).and fun v t => (expP l [[93]] t).and fun _ t => if isP t (sepW true) = true then (pNums l m [] (advP l t)).and (numK l w v) else numK l w v [] t
  else (expP l [[59]] t).and fun _ t => .ok ⟨2, w, 0, []⟩ t
theorem glo_ref (l : Str) (m : Nat) (t : PS) : pGlo l m t = if gkP t 3 = 0 then .er t else (nameP l (advP l t)).and fun w t2 => gloR l m (gkP t 3) w t2 := by
  have e0 : w3.getD 0 [] = [99, 111, 110, 115, 116] := rfl
  have e1 : w3.getD 1 [] = [118, 97, 114] := rfl
  have e2 : w3.getD 2 [] = [97, 114, 114, 97, 121] := rfl
  unfold pGlo
  by_cases h1 : isP t [99, 111, 110, 115, 116] = true
  · have h2 := isP_other (v := [118, 97, 114]) h1 (by decide)
    have h3 := isP_other (v := [97, 114, 114, 97, 121]) h1 (by decide)
    have hg : gkP t 3 = 1 := by simp only [gkP, e0, e1, e2, h1, h2, h3]; rfl
    rw [if_pos h1, hg]; rfl
  · rw [if_neg h1]
    have h1' : isP t [99, 111, 110, 115, 116] = false := by simpa using h1
    by_cases h2 : isP t [118, 97, 114] = true
    · have h3 := isP_other (v := [97, 114, 114, 97, 121]) h2 (by decide)
      have hg : gkP t 3 = 2 := by simp only [gkP, e0, e1, e2, h1', h2, h3]; rfl
      rw [if_pos h2, hg]; rfl
    · rw [if_neg h2]
      have h2' : isP t [118, 97, 114] = false := by simpa using h2
      by_cases h3 : isP t [97, 114, 114, 97, 121] = true
      · have hg : gkP t 3 = 3 := by simp only [gkP, e0, e1, e2, h1', h2', h3]; rfl
        rw [hg, expY h3]; rfl
      · have h3' : isP t [97, 114, 114, 97, 121] = false := by simpa using h3
        have hg : gkP t 3 = 0 := by simp only [gkP, e0, e1, e2, h1', h2', h3']; rfl
        rw [hg, expN h3']; rfl
theorem nums_pos {α : Type} {m : Nat} {a : List Int} {t : PS} {k : List Int → PS → PR α} {r : PR α} (h : r = (pNums l m a t).and k) (hr : r ≠ .out) : ∃ j, m = j + 1 := by
  cases m with
  | zero => exact absurd (h.trans (by rw [pNums]; rfl)) hr
  | succ m => exact ⟨m, rfl⟩
theorem nums_un (l : Str) (m : Nat) (a : List Int) (t : PS) {α : Type} (k : List Int → PS → PR α) : (pNums l (m + 1) a t).and k = (numbP l t).and fun x t => if isP t (sepW false) = true then (pNums l m (a ++ [x]) (advP l t)).and k else k (a ++ [x]) t := by
  rw [pNums, and_and]; congr 1; funext x t
  show (if isP t [44] = true then pNums l m (a ++ [x]) (advP l t) else PR.ok (a ++ [x]) t).and k = if isP t [44] = true then (pNums l m (a ++ [x]) (advP l t)).and k else k (a ++ [x]) t
  split <;> rfl
open Go.FL
attribute [local irreducible] JC JO JA JB thenQ blockQ retQ AC fill CellsAt QE Ev Mid
theorem QE_addN {P : Program} {TT : TyTab} {D : Nat} {fr : Fr} {ty : Nat} {K : Hl} {s0 : World} {x y : Operand} (k : Nat) {i : Nat} {t t' : Nat} (hx : lk fr x = some (.int .i64 (i : Int))) (hy : lk fr y = some (.int .i64 (k : Int))) (h : i + k ≤ 9223372036854775807) : QE P TT D fr (.binOp .add t x y t') ty K s0 (.int .i64 ((i + k : Nat) : Int)) := QE_add' hx hy (by rw [w64 O O]; omega)
def RX (l : Str) (ts : List RT) (i : Nat) {α : Type} (V : World → α → Value → Prop) (r : PR α) (s : World) (v : Value) : Prop :=
  (∃ x e, ∃ k : Nat, ∃ t, v = .tuple #[e, .int .i64 (k : Int), .bool true] ∧ V s x e ∧ TA l ts k t ∧ i < k ∧ r = .ok x t) ∨
  (∃ x e, ∃ k : Nat, ∃ t, v = .tuple #[e, .int .i64 (k : Int), .bool false] ∧ V s x e ∧ TA l ts k t ∧ i ≤ k ∧ r = .er t)
def RC (f : FuncId) (l : Str) (ts : List RT) {α : Type} (R : Nat → PS → PR α) (V : World → α → Value → Prop) (N : Nat) : Prop := ∀ (D : Nat) (L : Hl) (s : World) (A : Option Addr) (n c i : Nat) (t : PS) (m : Nat) (hT : Rts s A n c ts) (hz : ts.length ≤ 20000) (ht : TA l ts i t) (hN : ts.length ≤ i + N) (hr : R m t ≠ .out),
  AC Tryz.prog D f [.slice A n c, .int .i64 (i : Int)] L s fun v L' s' => L = L' ∧ RX l ts i V (R m t) s' v
theorem ris_ac (l : Str) (ts : List RT) (D : Nat) (L : Hl) (s : World) (A : Option Addr) (n c i : Nat) (t : PS) (hT : Rts s A n c ts) (hz : ts.length ≤ 20000) (ht : TA l ts i t) (w : Str) (hw : identB w = false) : AC Tryz.prog D 34 [.slice A n c, .int .i64 (i : Int), St w] L s fun v L' _ => v = .bool (isP t w) ∧ L = L' := by
 have hn := hT.1
 have hn2 := hT.2.1
 have hn3 := hT.2.2.1
 obtain ⟨x0, hx0, hr0, hi0⟩ := ht.at_
 obtain ⟨b0, o0, x00, rfl, hx00, hc0, hxl0, hxu0⟩ := Rts.at_ hT (show i < n by omega)
 obtain rfl : x0 = x00 := Option.some.inj (hx0.symm.trans hx00)
 refine AC_enter (TT := TT) (fn := Tryz.f34) TT_ok Tryz.func34 V Z Tryz.ntmps34 Z (rs := [.tmp 6]) Z [(0, _), (1, _), (2, _)] Z <| Sr <| At Z Z <| Sr <| Zqm Z Z <| Zqm Z Z <| JO_q (QE_iaN Z Z Z Z Z Z (show i < n by omega)) Z <| W0 Y5 <| JO_q (QE_ldsR0 Z Z Z (hc0.le (Lr D)) Z) Z <| Zqeq Z Z Z <| Zqm Z Z <| ?_
 refine JO_caseD (t := 13) Z (fun c1 => ?_) (fun c1 => ?_)
 ·
  refine Zg Z Z <| Zqm Z Z <| Zg Z Z <| Zqm Z Z <| Zg Z Z <| JO_q (QE_iaN Z Z Z Z Z Z (show i < n by omega)) Z <| Zg Z Z <| JO_q (QE_fa Z Z Z Z) Z <| Zg Z Z <| JO_q (QE_ldsR 2 Z Z Z (hc0.le (Lr D)) Z) Z <| Zg Z Z <| Zqm Z Z <| Zg Z Z <| Zqse Z Z Z <| ZqT Z Z Z <| At Z Z <| Zo <| ?_
  refine retQ_mk [] L (.inr Z) (.tmp Z (.nil)) Z (Lr D) (fun sR hS2 => ?_)
  refine ⟨congrArg Value.bool ?_, Z⟩
  rw [Bool.eq_iff_iff, hr0.is hw]
  first
    | (rw [decide_eq_true_eq]; exact ⟨fun h => ⟨by omega, h⟩, fun h => h.2⟩)
    | exact ⟨fun h => absurd h (by decide), fun h => absurd h.1 O⟩
 refine Wf Y4 <| Wf Y4 <| Wf Y4 <| Wf Y4 <| Wf Y4 <| Wf Y4 <| Wf Y4 <| ZqF Z Z Z <| At Z Z <| Zo <| ?_
 refine retQ_mk [] L (.inr Z) (.tmp Z (.nil)) Z (Lr D) (fun sR hS2 => ?_)
 refine ⟨congrArg Value.bool ?_, Z⟩
 rw [Bool.eq_iff_iff, hr0.is hw]
 first
   | (rw [decide_eq_true_eq]; exact ⟨fun h => ⟨by omega, h⟩, fun h => h.2⟩)
   | exact ⟨fun h => absurd h (by decide), fun h => absurd h.1 O⟩
theorem risf_ac (l : Str) (ts : List RT) (D : Nat) (L : Hl) (s : World) (A : Option Addr) (n c i : Nat) (t : PS) (hT : Rts s A n c ts) (hz : ts.length ≤ 20000) (ht : TA l ts i t) (w : Str) (hw : identB w = false) : AC Tryz.prog D 34 [.slice A n c, .int .i64 (i : Int), St w] L s fun v L' _ => L = L' ∧ ((isP t w = true ∧ v = .bool true) ∨ (isP t w = false ∧ v = .bool false)) :=
  (ris_ac l ts D L s A n c i t hT hz ht w hw).mono fun v L' s' _ ⟨h1, h2⟩ => ⟨h2, by
    cases hb : isP t w with
    | true => exact .inl ⟨rfl, by rw [h1, hb]⟩
    | false => exact .inr ⟨rfl, by rw [h1, hb]⟩⟩
theorem rop_ac (l : Str) (ts : List RT) (D : Nat) (L : Hl) (s : World) (A : Option Addr) (n c i : Nat) (t : PS) (hT : Rts s A n c ts) (hz : ts.length ≤ 20000) (ht : TA l ts i t) : AC Tryz.prog D 153 [.slice A n c, .int .i64 (i : Int)] L s fun v L' _ => v = .int .i64 (binP t) ∧ L = L' := by
 have hn := hT.1
 have hn2 := hT.2.1
 have hn3 := hT.2.2.1
 obtain ⟨x0, hx0, hr0, hi0⟩ := ht.at_
 refine AC_enter (TT := TT) (fn := Tryz.f153) TT_ok Tryz.func153 V Z Tryz.ntmps153 Z (rs := [.tmp 4]) Z [(0, _), (1, _)] Z <| Sr <| At Z Z <| Zs <| Sr <| At Z Z <| Zp <| JC_loop (γ := Int) (fun o => [(0, _), (1, _), (4, _), (5, .int .i64 o)]) (fun _ => _) (fun o tw => Le D s tw ∧ (4 ≤ o ∧ o ≤ 22 ∧ ∀ j : Int, 4 ≤ j → j < o → isP t (sgnT j) = false)) (fun o => (22 - o).toNat) (fun _ _ _ h hl => ⟨h.1.trans hl, h.2⟩) 4 (.cons Z (.cons Z (.cons Z (.cons Z (.nil _))))) Z ⟨Le.refl _, ⟨by omega, by omega, fun j h1 h2 => by omega⟩⟩ ?_
 intro o s1 I1
 obtain ⟨ho1, ho2, hno⟩ := I1.2
 refine Zs <| Sr <| Zqm Z Z <| Zqle Z Z Z <| Nt <| ?_
 refine JC_ifD Z (fun c2 => ?_) (fun c2 => ?_)
 ·
  refine Zk <| Zt <| Zs <| Zp <| Sr <| Zqm Z Z <| Zqm Z Z <| Zqm Z Z <| Jc Z Z Z (rsgn_ac D _ _ o ⟨by omega, by omega⟩) ?_
  rintro _ _ s3 h3 ⟨rfl, rfl⟩
  refine Jc Z Z Z (risf_ac l ts D _ _ _ n c i t (hT.le (I1.1.t h3)) hz ht (sgnT o) (sgn_id O O).1) ?_
  rintro _ _ s4 h4 ⟨rfl, (⟨hb4, rfl⟩ | ⟨hb4, rfl⟩)⟩
  ·
   refine Nt <| Zy Z <| Sr <| Zqm Z Z <| At Z Z <| Zo <| Zc <| Zu <| Zu <| Zc <| Zu <| ?_
   refine retQ_mk [] L (.inr Z) (.tmp Z (.nil)) Z (I1.1.t h3|>.t h4) (fun sR hS2 => ?_)
   exact ⟨congrArg (Value.int .i64) (bin_hit hr0 O O hb4).symm, rfl⟩
  refine Nt <| Zz Z <| Zk <| Zb <| Zt <| Zr <| Zqm Z Z <| Zqadd Z Z Z (w64 O O) <| Zqa Z Z <| Zn <| ?_
  refine thenQ_n ⟨o + 1, [], kp, Z, ⟨(I1.1.t h3|>.t h4), ⟨by omega, by omega, fun j h1 h2 => by
    rcases (show j < o ∨ j = o by omega) with h | rfl
    · exact hno j h1 h
    · exact hb4⟩⟩, O⟩
 refine Zl <| Zv <| Zv <| Zd <| Zt <| Sr <| At Z Z <| Zo <| ?_
 refine retQ_mk [] L (.inr Z) (.tmp Z (.nil)) Z I1.1 (fun sR hS2 => ?_)
 exact ⟨congrArg (Value.int .i64) (bin_miss fun j h1 h2 => hno j h1 O).symm, rfl⟩
theorem run_ac (l : Str) (ts : List RT) (D : Nat) (L : Hl) (s : World) (A : Option Addr) (n c i : Nat) (t : PS) (hT : Rts s A n c ts) (hz : ts.length ≤ 20000) (ht : TA l ts i t) : AC Tryz.prog D 168 [.slice A n c, .int .i64 (i : Int)] L s fun v L' _ => v = .int .i64 (uP t) ∧ L = L' := by
 have hn := hT.1
 have hn2 := hT.2.1
 have hn3 := hT.2.2.1
 obtain ⟨x0, hx0, hr0, hi0⟩ := ht.at_
 refine AC_enter (TT := TT) (fn := Tryz.f168) TT_ok Tryz.func168 V Z Tryz.ntmps168 Z (rs := [.tmp 4]) Z [(0, _), (1, _)] Z <| Sr <| At Z Z <| Zs <| Sr <| At Z Z <| Zp <| JC_loop (γ := Int) (fun o => [(0, _), (1, _), (4, _), (5, .int .i64 o)]) (fun _ => _) (fun o tw => Le D s tw ∧ (1 ≤ o ∧ o ≤ 4 ∧ ∀ j : Int, 1 ≤ j → j < o → isP t (sgnT j) = false)) (fun o => (4 - o).toNat) (fun _ _ _ h hl => ⟨h.1.trans hl, h.2⟩) 1 (.cons Z (.cons Z (.cons Z (.cons Z (.nil _))))) Z ⟨Le.refl _, ⟨by omega, by omega, fun j h1 h2 => by omega⟩⟩ ?_
 intro o s1 I1
 obtain ⟨ho1, ho2, hno⟩ := I1.2
 refine Zs <| Sr <| Zqm Z Z <| Zqle Z Z Z <| Nt <| ?_
 refine JC_ifD Z (fun c2 => ?_) (fun c2 => ?_)
 ·
  refine Zk <| Zt <| Zs <| Zp <| Sr <| Zqm Z Z <| Zqm Z Z <| Zqm Z Z <| Jc Z Z Z (rsgn_ac D _ _ o ⟨by omega, by omega⟩) ?_
  rintro _ _ s3 h3 ⟨rfl, rfl⟩
  refine Jc Z Z Z (risf_ac l ts D _ _ _ n c i t (hT.le (I1.1.t h3)) hz ht (sgnT o) (sgn_id O O).1) ?_
  rintro _ _ s4 h4 ⟨rfl, (⟨hb4, rfl⟩ | ⟨hb4, rfl⟩)⟩
  ·
   refine Nt <| Zy Z <| Sr <| Zqm Z Z <| At Z Z <| Zo <| Zc <| Zu <| Zu <| Zc <| Zu <| ?_
   refine retQ_mk [] L (.inr Z) (.tmp Z (.nil)) Z (I1.1.t h3|>.t h4) (fun sR hS2 => ?_)
   exact ⟨congrArg (Value.int .i64) (un_hit O O hb4 hno).symm, rfl⟩
  refine Nt <| Zz Z <| Zk <| Zb <| Zt <| Zr <| Zqm Z Z <| Zqadd Z Z Z (w64 O O) <| Zqa Z Z <| Zn <| ?_
  refine thenQ_n ⟨o + 1, [], kp, Z, ⟨(I1.1.t h3|>.t h4), ⟨by omega, by omega, fun j h1 h2 => by
    rcases (show j < o ∨ j = o by omega) with h | rfl
    · exact hno j h1 h
    · exact hb4⟩⟩, O⟩
 refine Zl <| Zv <| Zv <| Zd <| Zt <| Sr <| At Z Z <| Zo <| ?_
 refine retQ_mk [] L (.inr Z) (.tmp Z (.nil)) Z I1.1 (fun sR hS2 => ?_)
 exact ⟨congrArg (Value.int .i64) (un_miss fun j h1 h2 => hno j h1 O).symm, rfl⟩
def RCE (l : Str) (ts : List RT) (N : Nat) : Prop := RC 125 l ts (fun m t => pExpr l m 1 t) ExV N
def RCL (l : Str) (ts : List RT) (N : Nat) : Prop := RC 151 l ts (fun m t => pArgs l m t) ExsV N
def RCS (l : Str) (ts : List RT) (N : Nat) : Prop := RC 169 l ts (fun m t => simR l m t) ExV N
def RCO (l : Str) (ts : List RT) (N : Nat) : Prop := RC 152 l ts (fun m t => pArg l m t) ExV N
structure QG where
  xs : List Ex
  v : Value
  M : Hl
  css : List (List Value)
  k : Nat
  t : PS
  m : Nat
theorem own_snoc2 {e sz m : Nat} {M : Hl} {v : Value} {css : List (List Value)} {w : List Value} (h : FL.Own e sz M v m (css.flatten ++ w)) : FL.Own e sz M v m (css ++ [w]).flatten := by
  rw [List.flatten_append]; simpa using h
abbrev argK (l : Str) : List Ex → PS → PR (List Ex) := fun a t => (expP l [[41]] t).and fun _ t => .ok a t
theorem rsim_st (l : Str) (ts : List RT) (N : Nat) (ihE : RCE l ts N) (ihL : RCL l ts N) : RCS l ts (N + 1) := by
 intro D L s A n c i t m hT hz ht hN hr
 refine AC.pubW (R := fun v s => RX l ts i ExV (simR l m t) s v) ?_
 try dsimp only at hr
 obtain ⟨r, hq⟩ : ∃ r, r = simR l m t := ⟨_, rfl⟩
 rw [← hq] at hr ⊢
 have hn := hT.1
 have hn2 := hT.2.1
 have hn3 := hT.2.2.1
 obtain ⟨x0, hx0, hr0, hi0⟩ := ht.at_
 obtain ⟨b0, o0, x00, rfl, hx00, hc0, hxl0, hxu0⟩ := Rts.at_ hT (show i < n by omega)
 obtain rfl : x0 = x00 := Option.some.inj (hx0.symm.trans hx00)
 rw [simR] at hq
 refine AC_enter (TT := TT) (fn := Tryz.f169) TT_ok Tryz.func169 V Z Tryz.ntmps169 Z (rs := [.cell 4 97, .tmp 5, .tmp 6]) Z [(0, _), (1, _)] Z <| Sr <| JO_allocZ Z [_, _, _, _, _] Z Z ?_
 intro β1 s1 h1
 refine Zqa Z Z <| At Z Z <| Zs <| Sr <| Zqm Z Z <| Zqm Z Z <| JO_q (QE_iaN Z Z Z Z Z Z (show i < n by omega)) Z <| W0 Y5 <| JO_q (QE_ldsR0 Z Z Z (hc0.le h1) Z) Z <| Zqeq Z Z Z <| Nt <| ?_
 refine JC_ifD Z (fun c2 => ?_) (fun c2 => ?_)
 ·
  rw [if_pos (hr0.nu.2 c2), ← hr0.nuV c2] at hq
  refine Sr <| Zqm Z Z <| Zqm Z Z <| JO_q (QE_iaN Z Z Z Z Z Z (show i < n by omega)) Z <| JO_q (QE_fa Z Z Z Z) Z <| JO_q (QE_ldsR 3 Z Z Z (hc0.le h1) Z) Z <| JO_q (QE_build [(_, _), (_, _)] [_, _, _, _, _] Z Z Z Z Z Z) Z <| Zqm Z Z <| JO_q (QE_addN 1 Z Z O) Z <| Wt 0 [_, _, _, _, _] Y9 <| Zqa Z Z <| At Z Z <| Zo <| Zu <| ?_
  refine retQ_mk [_] L (.inr Z) (.agg (us := [_, _, _, _, _]) 0 Z Z Z Z Z (.tmp Z (.tmp Z (.nil)))) Z h1 (fun sR hS2 => ?_)
  exact ⟨[], rfl, fun s2 hs2 hp => .inl ⟨.mk 1 0 x0.num [] [], _, _, _, rfl, ⟨0, none, 0, 0, rfl, exs_nil 0 _, hxu0, nilz⟩, (ht.nuN (hr0.nu.2 c2)), O, hq⟩⟩
 rw [if_neg (fun h => c2 (hr0.nu.1 h))] at hq
 refine Zk <| Zt <| Zs <| Sr <| Zqm Z Z <| Zqm Z Z <| Jc Z Z Z (risf_ac l ts D _ _ _ n c i t (hT.le h1) hz ht [103, 101, 116] (by decide +kernel)) ?_
 rintro _ _ s3 h3 ⟨rfl, (⟨hb3, rfl⟩ | ⟨hb3, rfl⟩)⟩
 ·
  rw [if_pos hb3] at hq
  refine Nt <| Zy Z <| Sr <| JO_q (QE_build [(_, _)] [_, _, _, _, _] Z Z Z Z Z Z) Z <| Zqm Z Z <| JO_q (QE_addN 1 Z Z O) Z <| Wt 0 [_, _, _, _, _] Y9 <| Zqa Z Z <| At Z Z <| Zo <| Zu <| ?_
  refine retQ_mk [_] L (.inr Z) (.agg (us := [_, _, _, _, _]) 0 Z Z Z Z Z (.tmp Z (.tmp Z (.nil)))) Z (h1.t h3) (fun sR hS2 => ?_)
  exact ⟨[], rfl, fun s2 hs2 hp => .inl ⟨.mk 5 0 0 [] [], _, _, _, rfl, ⟨0, none, 0, 0, rfl, exs_nil 0 _, u32z, nilz⟩, (ht.isN hb3), O, hq⟩⟩
 rw [if_neg (bNe hb3)] at hq
 refine Nt <| Zz Z <| Zk <| Zt <| Zs <| Sr <| Zqm Z Z <| Zqm Z Z <| Jc Z Z Z (risf_ac l ts D _ _ _ n c i t (hT.le (h1.t h3)) hz ht [40] (by decide +kernel)) ?_
 rintro _ _ s4 h4 ⟨rfl, (⟨hb4, rfl⟩ | ⟨hb4, rfl⟩)⟩
 ·
  rw [if_pos hb4] at hq
  refine Nt <| Zy Z <| Sr <| Zqm Z Z <| Zqm Z Z <| JO_q (QE_addN 1 Z Z O) Z <| Jc Z Z Z (ihE D _ _ _ n c (i + 1) (advP l t) _ (hT.le (h1.t h3|>.t h4)) hz (ht.isN hb4) O (andOut hq hr)) ?_
  rintro _ _ s5 h5 ⟨rfl, (⟨x5, _, k5, t5, rfl, ⟨d5, A5, n5, c5, rfl, hE5, hu5, hn5⟩, ht5, hk5, he5⟩ | ⟨x5, _, k5, t5, rfl, ⟨d5, A5, n5, c5, rfl, hE5, hu5, hn5⟩, ht5, hk5, he5⟩)⟩
  ·
   have hl5 := ht5.lt
   try dsimp only at he5
   rw [he5] at hq
   simp only [okPR, erPR] at hq
   refine Zqm Z Z <| Zqx Z Z Z <| Zqx Z Z Z <| Zqx Z Z Z <| JO_allocZ Z [_, _, _, _, _] Z Z ?_
   intro β6 s6 h6
   refine Wt 0 [_, _, _, _, _] Y9 <| Zqa Z Z <| At Z Z <| Zs <| Sr <| Zqm Z Z <| ZqnT Z Z <| Zqm Z Z <| Zg Z Z <| Zqm Z Z <| Zg Z Z <| Zqm Z Z <| Zg Z Z <| Jc Z Z Z (risf_ac l ts D _ _ _ n c k5 t5 (hT.le (h1.t h3|>.t h4|>.t h5|>.t h6)) hz ht5 [41] (by decide +kernel)) ?_
   rintro _ _ s7 h7 ⟨rfl, (⟨hb7, rfl⟩ | ⟨hb7, rfl⟩)⟩
   ·
    rw [expY hb7] at hq
    simp only [exp0, okPR, erPR] at hq
    refine Zg Z Z <| ZqnT Z Z <| ZqF Z Z Z <| Nt <| Zz Z <| Zk <| Zt <| Sr <| JO_q (QE_ldA 0 [_, _, _, _, _] Z Z Z Z Z) Z <| Zqm Z Z <| JO_q (QE_addN 1 Z Z O) Z <| Wt 1 [_, _, _, _, _] Y9 <| Zqa Z Z <| At Z Z <| Zo <| Zu <| ?_
    refine retQ_mk [_, _] L (.inr Z) (.agg (us := [_, _, _, _, _]) 1 Z Z Z Z Z (.tmp Z (.tmp Z (.nil)))) Z (h1.t h3|>.t h4|>.t h5|>.t h6|>.t h7) (fun sR hS2 => ?_)
    exact ⟨[], rfl, fun s2 hs2 hp => .inl ⟨x5, _, _, _, rfl, ⟨d5, A5, n5, c5, rfl, hE5.le (h6.t h7|>.t (hS2.t hs2)), hu5, hn5⟩, (ht5.isN hb7), O, hq⟩⟩
   rw [expN hb7] at hq
   simp only [okPR, erPR] at hq
   refine Zg Z Z <| ZqnF Z Z <| ZqF Z Z Z <| Nt <| Zy Z <| Sr <| JO_q (QE_ldA 0 [_, _, _, _, _] Z Z Z Z Z) Z <| Zqm Z Z <| Wt 1 [_, _, _, _, _] Y9 <| Zqa Z Z <| At Z Z <| Zo <| Zu <| Zu <| ?_
   refine retQ_mk [_, _] L (.inr Z) (.agg (us := [_, _, _, _, _]) 1 Z Z Z Z Z (.tmp Z (.tmp Z (.nil)))) Z (h1.t h3|>.t h4|>.t h5|>.t h6|>.t h7) (fun sR hS2 => ?_)
   exact ⟨[], rfl, fun s2 hs2 hp => .inr ⟨x5, _, _, _, rfl, ⟨d5, A5, n5, c5, rfl, hE5.le (h6.t h7|>.t (hS2.t hs2)), hu5, hn5⟩, ht5, O, hq⟩⟩
  have hl5 := ht5.lt
  try dsimp only at he5
  rw [he5] at hq
  simp only [okPR, erPR] at hq
  refine Zqm Z Z <| Zqx Z Z Z <| Zqx Z Z Z <| Zqx Z Z Z <| JO_allocZ Z [_, _, _, _, _] Z Z ?_
  intro β8 s8 h8
  refine Wt 0 [_, _, _, _, _] Y9 <| Zqa Z Z <| At Z Z <| Zs <| Sr <| Zqm Z Z <| ZqnF Z Z <| Zqm Z Z <| Wf Y4 <| Wf Y4 <| Wf Y4 <| Wf Y4 <| ZqT Z Z Z <| Nt <| Zy Z <| Sr <| JO_q (QE_ldA 0 [_, _, _, _, _] Z Z Z Z Z) Z <| Zqm Z Z <| Wt 1 [_, _, _, _, _] Y9 <| Zqa Z Z <| At Z Z <| Zo <| Zu <| Zu <| ?_
  refine retQ_mk [_, _] L (.inr Z) (.agg (us := [_, _, _, _, _]) 1 Z Z Z Z Z (.tmp Z (.tmp Z (.nil)))) Z (h1.t h3|>.t h4|>.t h5|>.t h8) (fun sR hS2 => ?_)
  exact ⟨[], rfl, fun s2 hs2 hp => .inr ⟨x5, _, _, _, rfl, ⟨d5, A5, n5, c5, rfl, hE5.le (h8.t (hS2.t hs2)), hu5, hn5⟩, ht5, O, hq⟩⟩
 rw [if_neg (bNe hb4)] at hq
 refine Nt <| Zz Z <| Zk <| Zt <| Zs <| Sr <| Zqm Z Z <| Zqm Z Z <| JO_q (QE_iaN Z Z Z Z Z Z (show i < n by omega)) Z <| W0 Y5 <| JO_q (QE_ldsR0 Z Z Z (hc0.le (h1.t h3|>.t h4)) Z) Z <| Zqne Z Z Z <| Nt <| ?_
 refine JC_ifN Z (fun c9 => ?_) (fun c9 => ?_)
 ·
  rw [nmN (fun h => c9 (hr0.nm.1 h))] at hq
  simp only [okPR, erPR] at hq
  refine Sr <| JO_q (QE_build [] [_, _, _, _, _] Z Z Z Z Z Z) Z <| Zqm Z Z <| Wt 0 [_, _, _, _, _] Y9 <| Zqa Z Z <| At Z Z <| Zo <| Zu <| ?_
  refine retQ_mk [_] L (.inr Z) (.agg (us := [_, _, _, _, _]) 0 Z Z Z Z Z (.tmp Z (.tmp Z (.nil)))) Z (h1.t h3|>.t h4) (fun sR hS2 => ?_)
  exact ⟨[], rfl, fun s2 hs2 hp => .inr ⟨.mk 0 0 0 [] [], _, _, _, rfl, ⟨0, none, 0, 0, rfl, exs_nil 0 _, u32z, nilz⟩, ht, O, hq⟩⟩
 have hk2 : x0.kind = 2 := by have := c9; omega
 have hnm := hr0.nm.2 hk2
 rw [nmY hnm] at hq
 simp only [okPR, erPR] at hq
 rw [← hr0.nmT hk2] at hq
 refine Zk <| Zt <| Sr <| Zqm Z Z <| Zqm Z Z <| JO_q (QE_iaN Z Z Z Z Z Z (show i < n by omega)) Z <| JO_q (QE_fa Z Z Z Z) Z <| JO_q (QE_ldsR 2 Z Z Z (hc0.le (h1.t h3|>.t h4)) Z) Z <| At Z Z <| Zs <| Sr <| Zqm Z Z <| Zqm Z Z <| JO_q (QE_addN 1 Z Z O) Z <| Jc Z Z Z (risf_ac l ts D _ _ _ n c (i + 1) (advP l t) (hT.le (h1.t h3|>.t h4)) hz (ht.nmN hnm) [91] (by decide +kernel)) ?_
 rintro _ _ s10 h10 ⟨rfl, (⟨hb10, rfl⟩ | ⟨hb10, rfl⟩)⟩
 ·
  rw [if_pos hb10] at hq
  refine Nt <| Zy Z <| Sr <| Zqm Z Z <| Zqm Z Z <| JO_q (QE_addN 2 Z Z O) Z <| Jc Z Z Z (ihE D _ _ _ n c ((i + 1) + 1) (advP l (advP l t)) _ (hT.le (h1.t h3|>.t h4|>.t h10)) hz ((ht.nmN hnm).isN hb10) O (andOut hq hr)) ?_
  rintro _ _ s11 h11 ⟨rfl, (⟨x11, _, k11, t11, rfl, ⟨d11, A11, n11, c11, rfl, hE11, hu11, hn11⟩, ht11, hk11, he11⟩ | ⟨x11, _, k11, t11, rfl, ⟨d11, A11, n11, c11, rfl, hE11, hu11, hn11⟩, ht11, hk11, he11⟩)⟩
  ·
   have hl11 := ht11.lt
   try dsimp only at he11
   rw [he11] at hq
   simp only [okPR, erPR] at hq
   refine Zqm Z Z <| Zqx Z Z Z <| Zqx Z Z Z <| Zqx Z Z Z <| JO_allocZ Z [_, _, _, _, _] Z Z ?_
   intro β12 s12 h12
   refine Wt 0 [_, _, _, _, _] Y9 <| Zqa Z Z <| At Z Z <| Zs <| Sr <| Zqm Z Z <| ZqnT Z Z <| Zqm Z Z <| Zg Z Z <| Zqm Z Z <| Zg Z Z <| Zqm Z Z <| Zg Z Z <| Jc Z Z Z (risf_ac l ts D _ _ _ n c k11 t11 (hT.le (h1.t h3|>.t h4|>.t h10|>.t h11|>.t h12)) hz ht11 [93] (by decide +kernel)) ?_
   rintro _ _ s13 h13 ⟨rfl, (⟨hb13, rfl⟩ | ⟨hb13, rfl⟩)⟩
   ·
    rw [expY hb13] at hq
    simp only [exp0, okPR, erPR] at hq
    refine Zg Z Z <| ZqnT Z Z <| ZqF Z Z Z <| Nt <| Zz Z <| Zk <| Zt <| Sr <| Zqm Z Z <| JO_q (QE_ldA 0 [_, _, _, _, _] Z Z Z Z Z) Z <| JO_bs [(_, _)] [_, _, _, _, _] Z Z Z Z Z Z Z Z Z ?_
    intro β14 s14 h14 hc14
    refine JO_q (QE_build [(_, _), (_, _), (_, _)] [_, _, _, _, _] Z Z Z Z Z Z) Z <| Zqm Z Z <| JO_q (QE_addN 1 Z Z O) Z <| Wt 1 [_, _, _, _, _] Y9 <| Zqa Z Z <| At Z Z <| Zo <| Zu <| ?_
    refine retQ_mk [_, _] L (.inr Z) (.agg (us := [_, _, _, _, _]) 1 Z Z Z Z Z (.tmp Z (.tmp Z (.nil)))) Z (h1.t h3|>.t h4|>.t h10|>.t h11|>.t h12|>.t h13|>.t h14) (fun sR hS2 => ?_)
    exact ⟨[], rfl, fun s2 hs2 hp => .inl ⟨.mk 3 0 0 x0.text [x11], _, _, _, rfl, ⟨_, _, 1, 1, rfl, ex_one (hc14.le ((Lr D).t (hS2.t hs2))) (hE11.le (h12.t h13|>.t h14|>.t (hS2.t hs2))) hu11 hn11, u32z, hxl0⟩, (ht11.isN hb13), O, hq⟩⟩
   rw [expN hb13] at hq
   simp only [okPR, erPR] at hq
   refine Zg Z Z <| ZqnF Z Z <| ZqF Z Z Z <| Nt <| Zy Z <| Sr <| JO_q (QE_ldA 0 [_, _, _, _, _] Z Z Z Z Z) Z <| Zqm Z Z <| Wt 1 [_, _, _, _, _] Y9 <| Zqa Z Z <| At Z Z <| Zo <| Zu <| Zu <| ?_
   refine retQ_mk [_, _] L (.inr Z) (.agg (us := [_, _, _, _, _]) 1 Z Z Z Z Z (.tmp Z (.tmp Z (.nil)))) Z (h1.t h3|>.t h4|>.t h10|>.t h11|>.t h12|>.t h13) (fun sR hS2 => ?_)
   exact ⟨[], rfl, fun s2 hs2 hp => .inr ⟨x11, _, _, _, rfl, ⟨d11, A11, n11, c11, rfl, hE11.le (h12.t h13|>.t (hS2.t hs2)), hu11, hn11⟩, ht11, O, hq⟩⟩
  have hl11 := ht11.lt
  try dsimp only at he11
  rw [he11] at hq
  simp only [okPR, erPR] at hq
  refine Zqm Z Z <| Zqx Z Z Z <| Zqx Z Z Z <| Zqx Z Z Z <| JO_allocZ Z [_, _, _, _, _] Z Z ?_
  intro β15 s15 h15
  refine Wt 0 [_, _, _, _, _] Y9 <| Zqa Z Z <| At Z Z <| Zs <| Sr <| Zqm Z Z <| ZqnF Z Z <| Zqm Z Z <| Wf Y4 <| Wf Y4 <| Wf Y4 <| Wf Y4 <| ZqT Z Z Z <| Nt <| Zy Z <| Sr <| JO_q (QE_ldA 0 [_, _, _, _, _] Z Z Z Z Z) Z <| Zqm Z Z <| Wt 1 [_, _, _, _, _] Y9 <| Zqa Z Z <| At Z Z <| Zo <| Zu <| Zu <| ?_
  refine retQ_mk [_, _] L (.inr Z) (.agg (us := [_, _, _, _, _]) 1 Z Z Z Z Z (.tmp Z (.tmp Z (.nil)))) Z (h1.t h3|>.t h4|>.t h10|>.t h11|>.t h15) (fun sR hS2 => ?_)
  exact ⟨[], rfl, fun s2 hs2 hp => .inr ⟨x11, _, _, _, rfl, ⟨d11, A11, n11, c11, rfl, hE11.le (h15.t (hS2.t hs2)), hu11, hn11⟩, ht11, O, hq⟩⟩
 rw [if_neg (bNe hb10)] at hq
 refine Nt <| Zz Z <| Zk <| Zt <| Zs <| Sr <| Zqm Z Z <| Zqm Z Z <| JO_q (QE_addN 1 Z Z O) Z <| Jc Z Z Z (risf_ac l ts D _ _ _ n c (i + 1) (advP l t) (hT.le (h1.t h3|>.t h4|>.t h10)) hz (ht.nmN hnm) [40] (by decide +kernel)) ?_
 rintro _ _ s16 h16 ⟨rfl, (⟨hb16, rfl⟩ | ⟨hb16, rfl⟩)⟩
 ·
  rw [if_pos hb16] at hq
  refine Nt <| Zy Z <| Sr <| Zqm Z Z <| Zqm Z Z <| JO_q (QE_addN 2 Z Z O) Z <| Jc Z Z Z (ihL D _ _ _ n c ((i + 1) + 1) (advP l (advP l t)) _ (hT.le (h1.t h3|>.t h4|>.t h10|>.t h16)) hz ((ht.nmN hnm).isN hb16) O (andOut hq hr)) ?_
  rintro _ _ s17 h17 ⟨rfl, (⟨x17, _, k17, t17, rfl, ⟨d17, A17, n17, c17, rfl, hE17⟩, ht17, hk17, he17⟩ | ⟨x17, _, k17, t17, rfl, ⟨d17, A17, n17, c17, rfl, hE17⟩, ht17, hk17, he17⟩)⟩
  ·
   have hl17 := ht17.lt
   try dsimp only at he17
   rw [he17] at hq
   simp only [okPR, erPR] at hq
   refine Zqm Z Z <| Zqx Z Z Z <| Zqx Z Z Z <| Zqx Z Z Z <| Zqa Z Z <| Zqa Z Z <| At Z Z <| Sr <| Zqm Z Z <| Zqm Z Z <| JO_q (QE_build [(_, _), (_, _), (_, _)] [_, _, _, _, _] Z Z Z Z Z Z) Z <| Zqm Z Z <| Zqm Z Z <| Wt 0 [_, _, _, _, _] Y9 <| Zqa Z Z <| At Z Z <| Zo <| Zu <| ?_
   refine retQ_mk [_] L (.inr Z) (.agg (us := [_, _, _, _, _]) 0 Z Z Z Z Z (.tmp Z (.tmp Z (.nil)))) Z (h1.t h3|>.t h4|>.t h10|>.t h16|>.t h17) (fun sR hS2 => ?_)
   exact ⟨[], rfl, fun s2 hs2 hp => .inl ⟨.mk 4 0 0 x0.text x17, _, _, _, rfl, ⟨d17, A17, n17, c17, rfl, hE17.le ((Lr D).t (hS2.t hs2)), u32z, hxl0⟩, ht17, O, hq⟩⟩
  have hl17 := ht17.lt
  try dsimp only at he17
  rw [he17] at hq
  simp only [okPR, erPR] at hq
  refine Zqm Z Z <| Zqx Z Z Z <| Zqx Z Z Z <| Zqx Z Z Z <| Zqa Z Z <| Zqa Z Z <| At Z Z <| Sr <| Zqm Z Z <| Zqm Z Z <| JO_q (QE_build [(_, _), (_, _), (_, _)] [_, _, _, _, _] Z Z Z Z Z Z) Z <| Zqm Z Z <| Zqm Z Z <| Wt 0 [_, _, _, _, _] Y9 <| Zqa Z Z <| At Z Z <| Zo <| Zu <| ?_
  refine retQ_mk [_] L (.inr Z) (.agg (us := [_, _, _, _, _]) 0 Z Z Z Z Z (.tmp Z (.tmp Z (.nil)))) Z (h1.t h3|>.t h4|>.t h10|>.t h16|>.t h17) (fun sR hS2 => ?_)
  exact ⟨[], rfl, fun s2 hs2 hp => .inr ⟨.mk 4 0 0 x0.text x17, _, _, _, rfl, ⟨d17, A17, n17, c17, rfl, hE17.le ((Lr D).t (hS2.t hs2)), u32z, hxl0⟩, ht17, O, hq⟩⟩
 rw [if_neg (bNe hb16)] at hq
 refine Nt <| Zz Z <| Zk <| Zt <| Sr <| Zqm Z Z <| JO_q (QE_build [(_, _), (_, _)] [_, _, _, _, _] Z Z Z Z Z Z) Z <| Zqm Z Z <| JO_q (QE_addN 1 Z Z O) Z <| Wt 0 [_, _, _, _, _] Y9 <| Zqa Z Z <| At Z Z <| Zo <| ?_
 refine retQ_mk [_] L (.inr Z) (.agg (us := [_, _, _, _, _]) 0 Z Z Z Z Z (.tmp Z (.tmp Z (.nil)))) Z (h1.t h3|>.t h4|>.t h10|>.t h16) (fun sR hS2 => ?_)
 exact ⟨[], rfl, fun s2 hs2 hp => .inl ⟨.mk 2 0 0 x0.text [], _, _, _, rfl, ⟨0, none, 0, 0, rfl, exs_nil 0 _, u32z, hxl0⟩, (ht.nmN hnm), O, hq⟩⟩
theorem rlist_st (l : Str) (ts : List RT) (N : Nat) (ihE : RCE l ts N) : RCL l ts N := by
 intro D L s A n c i t m hT hz ht hN hr
 refine AC.pubW (R := fun v s => RX l ts i ExsV (pArgs l m t) s v) ?_
 try dsimp only at hr
 obtain ⟨r, hq⟩ : ∃ r, r = pArgs l m t := ⟨_, rfl⟩
 rw [← hq] at hr ⊢
 have hn := hT.1
 have hn2 := hT.2.1
 have hn3 := hT.2.2.1
 have hi0 := ht.lt
 obtain ⟨m, rfl⟩ := args_pos hq hr
 rw [pArgs] at hq
 refine AC_enter (TT := TT) (fn := Tryz.f151) TT_ok Tryz.func151 V Z Tryz.ntmps151 Z (rs := [.tmp 4, .tmp 5, .tmp 6]) Z [(0, _), (1, _)] Z <| Sr <| Zqa Z Z <| Zqa Z Z <| At Z Z <| Sr <| At Z Z <| Zs <| Sr <| Zqm Z Z <| Zqm Z Z <| Jc Z Z Z (risf_ac l ts D _ _ _ n c i t (hT.le (Lr D)) hz ht [41] (by decide +kernel)) ?_
 rintro _ _ s1 h1 ⟨rfl, (⟨hb1, rfl⟩ | ⟨hb1, rfl⟩)⟩
 ·
  rw [if_pos hb1] at hq
  refine Nt <| Zy Z <| Sr <| Zqm Z Z <| Zqm Z Z <| JO_q (QE_addN 1 Z Z O) Z <| Zqa Z Z <| Zqa Z Z <| At Z Z <| Zo <| Zu <| ?_
  refine retQ_mk [] _ (.inr Z) (.tmp Z (.tmp Z (.tmp Z (.nil)))) Z h1 (fun sR hS2 => ?_)
  exact ⟨[], rfl, fun s2 hs2 hp => .inl ⟨[], _, _, _, rfl, ⟨0, none, 0, 0, rfl, exs_nil 0 _⟩, (ht.isN hb1), O, hq⟩⟩
 rw [if_neg (bNe hb1)] at hq
 refine Nt <| Zz Z <| Zk <| Zt <| Zp <| ?_
 refine JC_loop (γ := QG) (fun g => [(0, _), (1, .int .i64 (g.k : Int)), (4, _), (5, _), (6, _), (7, g.v)]) (fun g => g.M ++ L) (fun g tw => Le D s1 tw ∧ (TA l ts g.k g.t ∧ i ≤ g.k ∧ r = (pElems l g.m g.xs g.t).and (argK l) ∧ g.xs.length ≤ g.k ∧ FL.Own 97 5 g.M g.v g.xs.length g.css.flatten ∧ ∃ d, All2 (fun x cs => cs.length = 5 ∧ ExR d tw x cs) g.xs g.css)) (fun g => g.m) (fun _ _ _ h hl => ⟨h.1.trans hl, ⟨h.2.1, h.2.2.1, h.2.2.2.1, h.2.2.2.2.1, h.2.2.2.2.2.1, _, exA_le hl h.2.2.2.2.2.2.choose_spec⟩⟩) ⟨[], .slice none 0 0, [], [], i, t, m⟩ (.cons Z (.cons Z (.cons Z (.cons Z (.cons Z (.cons Z (.nil _))))))) Z ⟨Le.refl _, ⟨ht, Nat.le_refl _, hq, by simp, .nil, 0, .nil⟩⟩ ?_
 intro g s2 I2
 obtain ⟨xs, v, M, css, k1, t1, m⟩ := g
 obtain ⟨ht1, hk1, hq, hxk, hO, d1, hA⟩ : TA l ts k1 t1 ∧ i ≤ k1 ∧ r = (pElems l m xs t1).and (argK l) ∧ xs.length ≤ k1 ∧ FL.Own 97 5 M v xs.length css.flatten ∧ ∃ d, All2 (fun x cs => cs.length = 5 ∧ ExR d s2 x cs) xs css := I2.2
 have hl1 := ht1.lt
 obtain ⟨m, rfl⟩ := elems_pos hq hr
 rw [elems_un] at hq
 obtain ⟨A1, c1, rfl, hz1, hz2⟩ := Own.slice hO
 dsimp only
 refine Zp <| Sr <| Zqm Z Z <| Zqm Z Z <| Jc Z Z Z (ihE D _ _ _ n c k1 t1 _ (hT.le (h1.t I2.1)) hz ht1 O (andOut hq hr)) ?_
 rintro _ _ s3 h3 ⟨rfl, (⟨x3, _, k3, t3, rfl, ⟨d3, A3, n3, c3, rfl, hE3, hu3, hn3⟩, ht3, hk3, he3⟩ | ⟨x3, _, k3, t3, rfl, ⟨d3, A3, n3, c3, rfl, hE3, hu3, hn3⟩, ht3, hk3, he3⟩)⟩
 ·
  have hl3 := ht3.lt
  try dsimp only at he3
  rw [he3] at hq
  simp only [okPR, erPR] at hq
  refine Zqm Z Z <| Zqx Z Z Z <| Zqx Z Z Z <| Zqx Z Z Z <| JO_allocZ Z [_, _, _, _, _] Z Z ?_
  intro β4 s4 h4
  refine Wt 0 [_, _, _, _, _] Y9 <| Zqa Z Z <| At Z Z <| Zs <| Sr <| Zqm Z Z <| ZqnT Z Z <| Nt <| Zz Z <| Zk <| Zt <| Sr <| Zqm Z Z <| JO_q (QE_ldA 0 [_, _, _, _, _] Z Z Z Z Z) Z <| JO_bs [(_, _)] [_, _, _, _, _] Z Z Z Z Z Z Z Z Z ?_
  intro β5 s5 h5 hc5
  refine JO_app (sz := 5) [_] M L Z Z Z Z Z Z Z hO (Row.of_cells (hc5.le (Lr D)) Z Z) ⟨by simp [ti97]; omega, by omega⟩ Z ?_
  intro v9 M9 s6 h6 oq
  obtain ⟨A9, c9, rfl, hy9, hz9⟩ := Own.slice oq
  simp only [cQ9, nQ9]
  refine At Z Z <| Zs <| Sr <| Zqm Z Z <| Zqm Z Z <| Jc Z Z Z (risf_ac l ts D _ _ _ n c k3 t3 (hT.le (h1.t I2.1|>.t h3|>.t h4|>.t h5|>.t h6)) hz ht3 [41] (by decide +kernel)) ?_
  rintro _ _ s7 h7 ⟨rfl, (⟨hb7, rfl⟩ | ⟨hb7, rfl⟩)⟩
  ·
   rw [if_neg (bNe (isP_other hb7 (by decide)))] at hq
   simp only [argK] at hq
   rw [expY hb7] at hq
   simp only [exp0, okPR, erPR] at hq
   refine Nt <| Zy Z <| Sr <| Zqm Z Z <| Zqm Z Z <| JO_q (QE_addN 1 Z Z O) Z <| Zqa Z Z <| Zqa Z Z <| At Z Z <| Zo <| Zu <| Zc <| Zu <| Zc <| ?_
   refine retQ_mk [_] _ (.inr Z) (.tmp Z (.tmp Z (.tmp Z (.nil)))) Z (h1.t I2.1|>.t h3|>.t h4|>.t h5|>.t h6|>.t h7) (fun sR hS2 => ?_)
   exact ⟨_, rfl, fun s2 hs2 hp => .inl ⟨xs ++ [x3], _, _, _, rfl, ⟨d1 + d3 + 1, A9, _, c9, rfl, Own.rows (R := ExR (d1 + d3 + 1)) (own_snoc2 oq) hp (all2_snoc (all2_imp hA fun x cs hx => ⟨hx.1, (hx.2.le (h3.t h4|>.t h5|>.t h6|>.t h7|>.t (hS2.t hs2))).up O⟩) ⟨rfl, _, _, _, rfl, (hE3.le (h4.t h5|>.t h6|>.t h7|>.t (hS2.t hs2))).up O, hu3, hn3⟩) (by simp)⟩, (ht3.isN hb7), O, hq⟩⟩
  refine Nt <| Zz Z <| Zk <| Zt <| Zs <| Sr <| Zqm Z Z <| Zqm Z Z <| Jc Z Z Z (risf_ac l ts D _ _ _ n c k3 t3 (hT.le (h1.t I2.1|>.t h3|>.t h4|>.t h5|>.t h6|>.t h7)) hz ht3 [44] (by decide +kernel)) ?_
  rintro _ _ s8 h8 ⟨rfl, (⟨hb8, rfl⟩ | ⟨hb8, rfl⟩)⟩
  ·
   rw [if_pos hb8] at hq
   refine ZqnT Z Z <| Nt <| Zz Z <| Zk <| Zt <| Zr <| Zqm Z Z <| JO_q (QE_addN 1 Z Z O) Z <| Zqa Z Z <| Zn <| Zb <| ?_
   refine thenQ_n ⟨⟨xs ++ [x3], _, M9, css ++ [[.int .i64 x3.kind, .int .i64 x3.op, .int .u32 x3.num, St x3.name, .slice A3 n3 c3]], k3 + 1, advP l t3, m⟩, [_], kp, Z, ⟨(I2.1.t h3|>.t h4|>.t h5|>.t h6|>.t h7|>.t h8), ⟨(ht3.isN hb8), (by show i ≤ k3 + 1; omega), hq, (by show (xs ++ [x3]).length ≤ k3 + 1; rw [List.length_append]; simp only [List.length_cons, List.length_nil]; omega), own_snoc oq, d1 + d3 + 1, all2_snoc (all2_imp hA fun x cs hx => ⟨hx.1, (hx.2.le (h3.t h4|>.t h5|>.t h6|>.t h7|>.t h8)).up O⟩) ⟨Z, _, _, _, Z, (hE3.le (h4.t h5|>.t h6|>.t h7|>.t h8)).up O, hu3, hn3⟩⟩⟩, (by show m < m + 1; omega)⟩
  rw [if_neg (bNe hb8)] at hq
  simp only [argK] at hq
  rw [expN hb7] at hq
  simp only [okPR, erPR] at hq
  refine ZqnF Z Z <| Nt <| Zy Z <| Sr <| Zqm Z Z <| Zqm Z Z <| Zqa Z Z <| Zqa Z Z <| At Z Z <| Zo <| Zu <| Zc <| Zu <| Zc <| ?_
  refine retQ_mk [_] _ (.inr Z) (.tmp Z (.tmp Z (.tmp Z (.nil)))) Z (h1.t I2.1|>.t h3|>.t h4|>.t h5|>.t h6|>.t h7|>.t h8) (fun sR hS2 => ?_)
  exact ⟨_, rfl, fun s2 hs2 hp => .inr ⟨xs ++ [x3], _, _, _, rfl, ⟨d1 + d3 + 1, A9, _, c9, rfl, Own.rows (R := ExR (d1 + d3 + 1)) (own_snoc2 oq) hp (all2_snoc (all2_imp hA fun x cs hx => ⟨hx.1, (hx.2.le (h3.t h4|>.t h5|>.t h6|>.t h7|>.t h8|>.t (hS2.t hs2))).up O⟩) ⟨rfl, _, _, _, rfl, (hE3.le (h4.t h5|>.t h6|>.t h7|>.t h8|>.t (hS2.t hs2))).up O, hu3, hn3⟩) (by simp)⟩, ht3, O, hq⟩⟩
 have hl3 := ht3.lt
 try dsimp only at he3
 rw [he3] at hq
 simp only [okPR, erPR] at hq
 refine Zqm Z Z <| Zqx Z Z Z <| Zqx Z Z Z <| Zqx Z Z Z <| JO_allocZ Z [_, _, _, _, _] Z Z ?_
 intro β9 s9 h9
 refine Wt 0 [_, _, _, _, _] Y9 <| Zqa Z Z <| At Z Z <| Zs <| Sr <| Zqm Z Z <| ZqnF Z Z <| Nt <| Zy Z <| Sr <| Zqm Z Z <| Zqm Z Z <| Zqa Z Z <| Zqa Z Z <| At Z Z <| Zo <| Zu <| Zc <| Zu <| Zc <| ?_
 refine retQ_mk [_] _ (.inr Z) (.tmp Z (.tmp Z (.tmp Z (.nil)))) Z (h1.t I2.1|>.t h3|>.t h9) (fun sR hS2 => ?_)
 exact ⟨_, rfl, fun s2 hs2 hp => .inr ⟨xs, _, _, _, rfl, ⟨_, _, _, _, rfl, Own.rows (R := ExR d1) hO hp (exA_le (h3.t h9|>.t (hS2.t hs2)) hA) rfl⟩, ht3, O, hq⟩⟩
end Go.Proofs.YtiljephghfngnaaGreatDoor
namespace Go.Proofs.YtiljephghfngnaaGreatDoor
open Go Go.FL
def Its (s : World) (A : Option Addr) (n c : Nat) (l : List Int) : Prop := Sl 1 (fun _ x cs => cs = [.int .i64 x]) s A n c l
theorem Its.le {D : Nat} {s s' : World} {A : Option Addr} {n c : Nat} {l : List Int} (h : Its s A n c l) (hl : Le D s s') : Its s' A n c l := Sl.le (fun _ _ h => h) h hl
theorem Its.at_ {s : World} {A : Option Addr} {n c k : Nat} {l : List Int} (h : Its s A n c l) (hk : k < n) : ∃ b off x, A = some ⟨b, off, none⟩ ∧ l[k]? = some x ∧ CellsAt s b (off + k) [.int .i64 x] ∧ True := by
  have hl : k < l.length := by rw [← h.1]; exact hk
  obtain ⟨b, off, cs, h1, h2, _, rfl⟩ := h.2.2.2 k l[k] (List.getElem?_eq_getElem hl)
  exact ⟨b, off, l[k], h1, List.getElem?_eq_getElem hl, by simpa using h2, trivial⟩
open Go.FL
attribute [local irreducible] JC JO JA JB thenQ blockQ retQ AC fill CellsAt QE Ev Mid
def ivz (l : List Int) : List Value := l.map fun x => Value.int .i64 x
theorem ivz_snoc (l : List Int) (x : Int) : ivz (l ++ [x]) = ivz l ++ [.int .i64 x] := by simp [ivz]
theorem Own.its {M : Hl} {Ad : Option Addr} {n c : Nat} {l : List Int} {s : World} (h : FL.Own 3 1 M (.slice Ad n c) n (ivz l)) (hp : Pub M s) (hn : n = l.length) : Its s Ad n c l := by
  refine Own.rows (e := 3) (R := fun _ x cs => cs = [.int .i64 x]) (l := l) (css := l.map fun x => [Value.int .i64 x]) ?_ hp ?_ hn
  · rw [show (l.map fun x => [Value.int .i64 x]).flatten = ivz l from ?_]
    · exact h
    · clear h hn; induction l with
      | nil => rfl
      | cons x r ih => rw [List.map_cons, List.flatten_cons, ih]; rfl
  · clear h hn
    induction l with
    | nil => exact All2.nil
    | cons x r ih => exact All2.cons ⟨rfl, rfl⟩ ih
structure OG where
  os : List Int
  v : Value
  M : Hl
  k : Nat
  t : PS
  m : Nat
structure WG where
  j : Nat
  y : Ex
  A : Option Addr
  n : Nat
  c : Nat
theorem wrap_at {os : List Int} {j : Nat} {o : Int} {x y : Ex} (h : os[j]? = some o) (hw : wrapU (os.take (j + 1)) y = x) : wrapU (os.take j) (.mk 6 o 0 [] [y]) = x := by
  obtain ⟨hj, rfl⟩ := List.getElem?_eq_some_iff.1 h
  rw [List.take_succ_eq_append_getElem hj, wrapU_snoc] at hw
  exact hw
theorem roper_st (l : Str) (ts : List RT) (N : Nat) (ihS : RCS l ts N) : RCO l ts N := by
 intro D L s A n c i t m hT hz ht hN hr
 refine AC.pubW (R := fun v s => RX l ts i ExV (pArg l m t) s v) ?_
 try dsimp only at hr
 obtain ⟨r, hq⟩ : ∃ r, r = pArg l m t := ⟨_, rfl⟩
 rw [← hq] at hr ⊢
 have hn := hT.1
 have hn2 := hT.2.1
 have hn3 := hT.2.2.1
 have hi0 := ht.lt
 refine AC_enter (TT := TT) (fn := Tryz.f152) TT_ok Tryz.func152 V Z Tryz.ntmps152 Z (rs := [.cell 4 97, .tmp 5, .tmp 6]) Z [(0, _), (1, _)] Z <| Sr <| JO_allocZ Z [_, _, _, _, _] Z Z ?_
 intro β1 s1 h1
 refine Zqa Z Z <| At Z Z <| Sr <| At Z Z <| Zs <| Zp <| ?_
 refine JC_loopX [_] (γ := OG) (fun g => [(0, _), (1, .int .i64 (g.k : Int)), (4, _), (5, _), (6, _), (7, g.v)]) (fun g => g.M ++ L) (fun g tw => Le D s1 tw ∧ (TA l ts g.k g.t ∧ i ≤ g.k ∧ r = (pArg l g.m g.t).and (fun x t => .ok (wrapU g.os x) t) ∧ g.os.length ≤ g.k ∧ FL.Own 3 1 g.M g.v g.os.length (ivz g.os))) (fun g => g.m) (fun _ _ _ h hl => ⟨h.1.trans hl, h.2⟩) ⟨[], .slice none 0 0, [], i, t, m⟩ (.cons Z (.cons Z (.cons Z (.cons Z (.cons Z (.cons Z (.nil _))))))) Z ⟨Le.refl _, ⟨ht, Nat.le_refl _, (by rw [hq]; exact (pr_id _).symm), by simp, .nil⟩⟩ ?_
 intro g s2 I2
 simp only [cQ9, nQ9]
 obtain ⟨os, v, M, k1, t1, m⟩ := g
 obtain ⟨ht1, hk1, hq, hok, hO⟩ : TA l ts k1 t1 ∧ i ≤ k1 ∧ r = (pArg l m t1).and (fun x t => .ok (wrapU os x) t) ∧ os.length ≤ k1 ∧ FL.Own 3 1 M v os.length (ivz os) := I2.2
 have hl1 := ht1.lt
 obtain ⟨m, rfl⟩ := arg_pos hq hr
 obtain ⟨A1, c1, rfl, hz1, hz2⟩ := Own.slice hO
 dsimp only
 refine Zs <| Sr <| Zqm Z Z <| Zqm Z Z <| Jc Z Z Z (run_ac l ts D _ _ _ n c k1 t1 (hT.le (h1.t I2.1)) hz ht1) ?_
 rintro _ _ s3 h3 ⟨rfl, rfl⟩
 refine Zqgt Z Z Z <| Nt <| ?_
 refine JC_ifD Z (fun c4 => ?_) (fun c4 => ?_)
 ·
  have hu : uP t1 ≠ 0 := by omega
  replace hq := un_step hq hu
  refine Zk <| Zt <| Zp <| Sr <| Zqm Z Z <| Zqm Z Z <| Zqm Z Z <| Jc Z Z Z (run_ac l ts D _ _ _ n c k1 t1 (hT.le (h1.t I2.1|>.t h3)) hz ht1) ?_
  rintro _ _ s5 h5 ⟨rfl, rfl⟩
  refine JO_bs [(_, _)] [_] Z Z Z Z Z Z Z Z Z ?_
  intro β6 s6 h6 hc6
  refine JO_app (sz := 1) [_] M L Z Z Z Z Z Z Z hO (Row.of_cells (hc6.le (Lr D)) Z Z) ⟨by simp [ti3]; omega, by omega⟩ Z ?_
  intro v9 M9 s7 h7 oq
  simp only [cQ9, nQ9]
  refine At Z Z <| Zr <| Zqm Z Z <| JO_q (QE_addN 1 Z Z O) Z <| Zqa Z Z <| Zn <| Zb <| ?_
  refine thenQ_n ⟨⟨os ++ [uP t1], v9, M9, k1 + 1, advP l t1, m⟩, [], kp, Z, ⟨(I2.1.t h3|>.t h5|>.t h6|>.t h7), ⟨(ht1.next (un_tok hu)), (by show i ≤ k1 + 1; omega), hq, (by show (os ++ [uP t1]).length ≤ k1 + 1; rw [List.length_append]; simp only [List.length_cons, List.length_nil]; omega), (by rw [List.length_append, ivz_snoc]; exact oq)⟩⟩, (by show m < m + 1; omega)⟩
 have hu : uP t1 = 0 := by have := un_rng t1; omega
 replace hq := un_stop hq hu
 refine Zl <| Zv <| Zv <| Zd <| Zt <| Sr <| Zqm Z Z <| Zqm Z Z <| Jc Z Z Z (ihS D _ _ _ n c k1 t1 _ (hT.le (h1.t I2.1|>.t h3)) hz ht1 O (andOut hq hr)) ?_
 rintro _ _ s8 h8 ⟨rfl, (⟨x8, _, k8, t8, rfl, ⟨d8, A8, n8, c8, rfl, hE8, hu8, hn8⟩, ht8, hk8, he8⟩ | ⟨x8, _, k8, t8, rfl, ⟨d8, A8, n8, c8, rfl, hE8, hu8, hn8⟩, ht8, hk8, he8⟩)⟩
 ·
  have hl8 := ht8.lt
  try dsimp only at he8
  rw [he8] at hq
  simp only [okPR, erPR] at hq
  refine Zqm Z Z <| Zqx Z Z Z <| Zqx Z Z Z <| Zqx Z Z Z <| JO_allocZ Z [_, _, _, _, _] Z Z ?_
  intro β9 s9 h9
  refine Wt 0 [_, _, _, _, _] Y9 <| Zqa Z Z <| At Z Z <| Zs <| Zs <| JC_pubX [_, _] M _ ?_
  intro s10 h10 hpub10
  simp only [cQ9, nQ9]
  have hI : Its s10 A1 os.length c1 os := Own.its hO hpub10 rfl
  refine Zr <| Zqm Z Z <| Ws Y4 <| Zqsub Z Z Z (w64 O O) <| At Z Z <| Zp <| ?_
  refine JC_loop (γ := WG) (fun w => [(4, _), (5, _), (6, _), (7, _), (8, _), (9, _), (10, _), (11, .int .i64 ((w.j : Int) - 1))]) (fun w => (β9, cb [.int .i64 w.y.kind, .int .i64 w.y.op, .int .u32 w.y.num, St w.y.name, .slice w.A w.n w.c] 97) :: (β1, cb [.int .i64 0, .int .i64 0, .int .u32 0, St [], .slice none 0 0] 97) :: L) (fun w tw => Le D s10 tw ∧ (w.j ≤ os.length ∧ wrapU (os.take w.j) w.y = wrapU os x8 ∧ (∃ d, Exs d tw w.A w.n w.c w.y.args) ∧ U32 w.y.num ∧ w.y.name.length ≤ 9223372036854775807)) (fun w => w.j) (fun _ _ _ h hl => ⟨h.1.trans hl, ⟨h.2.1, h.2.2.1, ⟨_, h.2.2.2.1.choose_spec.le hl⟩, h.2.2.2.2⟩⟩) ⟨os.length, x8, A8, n8, c8⟩ (.cons Z (.cons Z (.cons Z (.cons Z (.cons Z (.cons Z (.cons Z (.cons Z (.nil _))))))))) Z ⟨Le.refl _, ⟨Nat.le_refl _, by rw [List.take_length], ⟨_, hE8.le (h9.t h10)⟩, hu8, hn8⟩⟩ ?_
  intro w s11 I11
  obtain ⟨j, y, Ay, ny, cy⟩ := w
  obtain ⟨hj, hw, ⟨d1, hX⟩, hu1, hn1⟩ := I11.2
  dsimp only at hj hw hX hu1 hn1 ⊢
  refine Zs <| Sr <| Zqm Z Z <| Zqge Z Z Z <| Nt <| ?_
  refine JC_ifD Z (fun c12 => ?_) (fun c12 => ?_)
  ·
   obtain ⟨j, rfl⟩ : ∃ p, j = p + 1 := ⟨j - 1, by omega⟩
   obtain ⟨bi, oi, o, rfl, ho, hco, _⟩ := Its.at_ (hI.le I11.1) (show j < os.length by omega)
   refine Zk <| Zt <| Zs <| Zp <| JC_drawE drawsMixed 8 Z [0] (by intro x hx; exact eraseAll_mem hx) ?_
   intro s13 h13
   refine za 0 Z (QE_mv Z) Z <| za 1 Z (QE_cast (v' := .int .i64 (j : Int)) (QE_mv Z) (congrArg (Value.int .i64) O)) Z <| za 2 Z (QE_ia1 Z Z Z Z Z Z (show j < os.length by omega)) Z <| za 3 Z (QE_ldsR0 Z Z Z (hco.le h13) Z) Z <| JA_1 4 V <| JB_q Z trivial (QE_ldA 0 [_, _, _, _, _] Z Z Z Z Z) Z <| JA_1 5 V <| JB_bs Z trivial [(_, _)] [_, _, _, _, _] Z Z Z Z Z Z Z Z Z ?_
   intro β14 s14 h14 hc14
   refine za 6 Z (QE_build [(_, _), (_, _), (_, _)] [_, _, _, _, _] Z Z Z Z Z Z) Z <| JA_1 7 V <| Wu Z trivial 0 [_, _, _, _, _] Y9 (fun _ hx => sub_mem (sbY (sbE _)) hx) <| JA_done V <| Zb <| Zt <| Zr <| Zqm Z Z <| JO_q (QE_sub' (c := (j : Int) - 1) Z Z (by rw [w64 O O]; omega)) Z <| Zqa Z Z <| Zn <| ?_
   refine thenQ_n ⟨⟨j, .mk 6 o 0 [] [y], some ⟨β14, 0, none⟩, 1, 1⟩, [], kp, Z, ⟨(I11.1.t h13|>.t h14), ⟨(by show j ≤ os.length; omega), wrap_at ho hw, ⟨_, ex_one (hc14.le (Lr D)) (hX.le (h13.t h14)) hu1 hn1⟩, u32z, nilz⟩⟩, (by show j < j + 1; omega)⟩
  obtain rfl : j = 0 := by omega
  rw [List.take_zero, wrapU] at hw
  refine Zl <| Zv <| Zv <| Zd <| Zt <| Sr <| JO_q (QE_ldA 0 [_, _, _, _, _] Z Z Z Z Z) Z <| Zqm Z Z <| Zqm Z Z <| Wt 1 [_, _, _, _, _] Y9 <| Zqa Z Z <| At Z Z <| Zo <| ?_
  refine retQ_mk [_, _] _ (.inr Z) (.agg (us := [_, _, _, _, _]) 1 Z Z Z Z Z (.tmp Z (.tmp Z (.nil)))) Z (h1.t I2.1|>.t h3|>.t h8|>.t h9|>.t h10|>.t I11.1) (fun sR hS2 => ?_)
  rw [← hw] at hq
  exact ⟨[], rfl, fun s2 hs2 hp => .inl ⟨y, _, _, _, rfl, ⟨d1, Ay, ny, cy, rfl, hX.le ((Lr D).t (hS2.t hs2)), hu1, hn1⟩, ht8, O, hq⟩⟩
 have hl8 := ht8.lt
 try dsimp only at he8
 rw [he8] at hq
 simp only [okPR, erPR] at hq
 refine Zqm Z Z <| Zqx Z Z Z <| Zqx Z Z Z <| Zqx Z Z Z <| JO_allocZ Z [_, _, _, _, _] Z Z ?_
 intro β15 s15 h15
 refine Wt 0 [_, _, _, _, _] Y9 <| Zqa Z Z <| At Z Z <| Zs <| Zs <| JC_pubX [_, _] M _ ?_
 intro s16 h16 hpub16
 simp only [cQ9, nQ9]
 have hI : Its s16 A1 os.length c1 os := Own.its hO hpub16 rfl
 refine Zr <| Zqm Z Z <| Ws Y4 <| Zqsub Z Z Z (w64 O O) <| At Z Z <| Zp <| ?_
 refine JC_loop (γ := WG) (fun w => [(4, _), (5, _), (6, _), (7, _), (8, _), (9, _), (10, _), (11, .int .i64 ((w.j : Int) - 1))]) (fun w => (β15, cb [.int .i64 w.y.kind, .int .i64 w.y.op, .int .u32 w.y.num, St w.y.name, .slice w.A w.n w.c] 97) :: (β1, cb [.int .i64 0, .int .i64 0, .int .u32 0, St [], .slice none 0 0] 97) :: L) (fun w tw => Le D s16 tw ∧ (w.j ≤ os.length ∧ wrapU (os.take w.j) w.y = wrapU os x8 ∧ (∃ d, Exs d tw w.A w.n w.c w.y.args) ∧ U32 w.y.num ∧ w.y.name.length ≤ 9223372036854775807)) (fun w => w.j) (fun _ _ _ h hl => ⟨h.1.trans hl, ⟨h.2.1, h.2.2.1, ⟨_, h.2.2.2.1.choose_spec.le hl⟩, h.2.2.2.2⟩⟩) ⟨os.length, x8, A8, n8, c8⟩ (.cons Z (.cons Z (.cons Z (.cons Z (.cons Z (.cons Z (.cons Z (.cons Z (.nil _))))))))) Z ⟨Le.refl _, ⟨Nat.le_refl _, by rw [List.take_length], ⟨_, hE8.le (h15.t h16)⟩, hu8, hn8⟩⟩ ?_
 intro w s17 I17
 obtain ⟨j, y, Ay, ny, cy⟩ := w
 obtain ⟨hj, hw, ⟨d1, hX⟩, hu1, hn1⟩ := I17.2
 dsimp only at hj hw hX hu1 hn1 ⊢
 refine Zs <| Sr <| Zqm Z Z <| Zqge Z Z Z <| Nt <| ?_
 refine JC_ifD Z (fun c18 => ?_) (fun c18 => ?_)
 ·
  obtain ⟨j, rfl⟩ : ∃ p, j = p + 1 := ⟨j - 1, by omega⟩
  obtain ⟨bi, oi, o, rfl, ho, hco, _⟩ := Its.at_ (hI.le I17.1) (show j < os.length by omega)
  refine Zk <| Zt <| Zs <| Zp <| JC_drawE drawsMixed 8 Z [0] (by intro x hx; exact eraseAll_mem hx) ?_
  intro s19 h19
  refine za 0 Z (QE_mv Z) Z <| za 1 Z (QE_cast (v' := .int .i64 (j : Int)) (QE_mv Z) (congrArg (Value.int .i64) O)) Z <| za 2 Z (QE_ia1 Z Z Z Z Z Z (show j < os.length by omega)) Z <| za 3 Z (QE_ldsR0 Z Z Z (hco.le h19) Z) Z <| JA_1 4 V <| JB_q Z trivial (QE_ldA 0 [_, _, _, _, _] Z Z Z Z Z) Z <| JA_1 5 V <| JB_bs Z trivial [(_, _)] [_, _, _, _, _] Z Z Z Z Z Z Z Z Z ?_
  intro β20 s20 h20 hc20
  refine za 6 Z (QE_build [(_, _), (_, _), (_, _)] [_, _, _, _, _] Z Z Z Z Z Z) Z <| JA_1 7 V <| Wu Z trivial 0 [_, _, _, _, _] Y9 (fun _ hx => sub_mem (sbY (sbE _)) hx) <| JA_done V <| Zb <| Zt <| Zr <| Zqm Z Z <| JO_q (QE_sub' (c := (j : Int) - 1) Z Z (by rw [w64 O O]; omega)) Z <| Zqa Z Z <| Zn <| ?_
  refine thenQ_n ⟨⟨j, .mk 6 o 0 [] [y], some ⟨β20, 0, none⟩, 1, 1⟩, [], kp, Z, ⟨(I17.1.t h19|>.t h20), ⟨(by show j ≤ os.length; omega), wrap_at ho hw, ⟨_, ex_one (hc20.le (Lr D)) (hX.le (h19.t h20)) hu1 hn1⟩, u32z, nilz⟩⟩, (by show j < j + 1; omega)⟩
 obtain rfl : j = 0 := by omega
 rw [List.take_zero, wrapU] at hw
 refine Zl <| Zv <| Zv <| Zd <| Zt <| Sr <| JO_q (QE_ldA 0 [_, _, _, _, _] Z Z Z Z Z) Z <| Zqm Z Z <| Zqm Z Z <| Wt 1 [_, _, _, _, _] Y9 <| Zqa Z Z <| At Z Z <| Zo <| ?_
 refine retQ_mk [_, _] _ (.inr Z) (.agg (us := [_, _, _, _, _]) 1 Z Z Z Z Z (.tmp Z (.tmp Z (.nil)))) Z (h1.t I2.1|>.t h3|>.t h8|>.t h15|>.t h16|>.t I17.1) (fun sR hS2 => ?_)
 exact ⟨[], rfl, fun s2 hs2 hp => .inr ⟨y, _, _, _, rfl, ⟨d1, Ay, ny, cy, rfl, hX.le ((Lr D).t (hS2.t hs2)), hu1, hn1⟩, ht8, O, hq⟩⟩
abbrev vsW (st : List WtS) : List Ex := (st.map WtS.v).reverse
abbrev osW (st : List WtS) : List Int := (st.map WtS.o).reverse
theorem vsW_cons (f : WtS) (q : List WtS) : vsW (f :: q) = vsW q ++ [f.v] := by simp [vsW]
theorem osW_cons (f : WtS) (q : List WtS) : osW (f :: q) = osW q ++ [f.o] := by simp [osW]
theorem ivz_len (q : List WtS) : (ivz (osW q)).length = q.length := by simp [ivz, osW]
def OpsOK (st : List WtS) : Prop := ∀ f ∈ st, 4 ≤ f.o ∧ f.o ≤ 21
structure EG where
  st : List WtS
  css : List (List Value)
  vV : Value
  MV : Hl
  vO : Value
  MO : Hl
  k : Nat
  t : PS
  m : Nat
structure IG where
  st : List WtS
  x : Ex
  css : List (List Value)
  vV : Value
  MV : Hl
  vO : Value
  MO : Hl
  n : Nat
theorem exR_open {d : Nat} {s : World} {x : Ex} {cs : List Value} (h : ExR d s x cs) : ∃ A n c, cs = [.int .i64 x.kind, .int .i64 x.op, .int .u32 x.num, St x.name, .slice A n c] ∧ Exs d s A n c x.args ∧ U32 x.num ∧ x.name.length ≤ 9223372036854775807 := by
  cases d with
  | zero => exact h.elim
  | succ d =>
    obtain ⟨A, n, c, h1, h2, h3, h4⟩ := h
    exact ⟨A, n, c, h1, Exs.up h2 O, h3, h4⟩
theorem all2_last {α : Type} {R : α → List Value → Prop} : ∀ {l : List α} {x : α} {css : List (List Value)}, All2 R (l ++ [x]) css → ∃ c0 r, css = c0 ++ [r] ∧ All2 R l c0 ∧ R x r
  | [], x, css, h => by
    cases h with
    | cons h1 h2 => cases h2; exact ⟨[], _, rfl, .nil, h1⟩
  | y :: l, x, css, h => by
    cases h with
    | cons h1 h2 =>
      obtain ⟨c0, r, rfl, h3, h4⟩ := all2_last h2
      exact ⟨_ :: c0, r, rfl, .cons h1 h3, h4⟩
theorem all2_two {α : Type} {R : α → List Value → Prop} {l : List α} {x y : α} {css : List (List Value)} (h : All2 R ((l ++ [x]) ++ [y]) css) : ∃ c0 r1 r2, css = (c0 ++ [r1]) ++ [r2] ∧ All2 R l c0 ∧ R x r1 ∧ R y r2 := by
  obtain ⟨c1, r2, rfl, h1, h2⟩ := all2_last h
  obtain ⟨c0, r1, rfl, h3, h4⟩ := all2_last h1
  exact ⟨c0, r1, r2, rfl, h3, h4, h2⟩
theorem all2_one {α : Type} {R : α → List Value → Prop} {x : α} {css : List (List Value)} (h : All2 R [x] css) : ∃ r, css = [r] ∧ R x r := by
  cases h with
  | cons h1 h2 => cases h2; exact ⟨_, rfl, h1⟩
theorem flat2 (c0 : List (List Value)) (r1 r2 ys : List Value) : ((c0 ++ [r1]) ++ [r2]).flatten ++ ys = c0.flatten ++ (r1 ++ (r2 ++ ys)) := by simp
theorem cut_a {css c0 : List (List Value)} {r1 r2 ys : List Value} {off n : Nat} (h : css = (c0 ++ [r1]) ++ [r2]) (hl : c0.flatten.length = off) (hn : r1.length = n) : cut (css.flatten ++ ys) off n = some r1 := by
  rw [h, flat2]; exact cut_mid hl hn
theorem cut_b {css c0 : List (List Value)} {r1 r2 ys : List Value} {off n : Nat} (h : css = (c0 ++ [r1]) ++ [r2]) (hl : c0.flatten.length + r1.length = off) (hn : r2.length = n) : cut (css.flatten ++ ys) off n = some r2 := by
  rw [h, flat2, ← List.append_assoc]; exact cut_mid (by rw [List.length_append]; exact hl) hn
theorem cut_c {css : List (List Value)} {r ys : List Value} {n : Nat} (h : css = [r]) (hn : r.length = n) : cut (css.flatten ++ ys) (0 + 0 * 5) n = some r := by
  rw [h]
  have := cut_mid (P := []) (c := r) (Q := ys) (off := 0) (n := n) rfl hn
  simpa using this
theorem own_cutZ {e sz b cap n k : Nat} {xs ys zs ws : List Value} (hO : FL.Own e sz [(b, cb (xs ++ ys) e)] (.slice (some ⟨b, 0, none⟩) n cap) n xs) (hn : 0 < n) (hx : xs = zs ++ ws) (hl : zs.length = k * sz) (hk : k ≤ n) : FL.Own e sz [(b, cb (xs ++ ys) e)] (.slice (some ⟨b, 0, none⟩) k cap) k zs := by
  obtain ⟨b', cap', ys', hM, hv, h1, h2, h3, h4⟩ := own_some hO hn
  have hh : ys = ys' := by
    injection hM with h _
    injection h with _ h
    simpa [cb] using h
  injection hv with _ _ hc
  subst hx
  rw [List.append_assoc]
  exact .blk b cap k zs (ws ++ ys) hl (by rw [hh, hc, ← h2]; simp only [List.length_append]; omega) O O
theorem nth_op {f : WtS} {q : List WtS} {ys : List Value} : nth (ivz (osW (f :: q)) ++ ys) (0 + q.length) = some (.int .i64 f.o) := by
  rw [osW_cons, ivz_snoc, List.append_assoc]
  have := nth_mid (P := ivz (osW q)) (c := [Value.int .i64 f.o]) (Q := ys) (off := 0 + q.length) (j := 0) (by rw [ivz_len]; omega) (by simp)
  exact this
theorem rexpr_st (l : Str) (ts : List RT) (N : Nat) (ihO : RCO l ts N) : RCE l ts N := by
 intro D L s A n c i t m hT hz ht hN hr
 refine AC.pubW (R := fun v s => RX l ts i ExV (pExpr l m 1 t) s v) ?_
 try dsimp only at hr
 obtain ⟨r, hq⟩ : ∃ r, r = pExpr l m 1 t := ⟨_, rfl⟩
 rw [← hq] at hr ⊢
 have hn := hT.1
 have hn2 := hT.2.1
 have hn3 := hT.2.2.1
 have hi0 := ht.lt
 obtain ⟨m, hq⟩ := expr_cont hq hr
 refine AC_enter (TT := TT) (fn := Tryz.f125) TT_ok Tryz.func125 V Z Tryz.ntmps125 Z (rs := [.cell 4 97, .tmp 5, .tmp 6]) Z [(0, _), (1, _)] Z <| Sr <| JO_allocZ Z [_, _, _, _, _] Z Z ?_
 intro β1 s1 h1
 refine Zqa Z Z <| At Z Z <| Sr <| At Z Z <| Sr <| At Z Z <| Zp <| ?_
 refine JC_loopX [_] (γ := EG) (fun g => [(0, _), (1, .int .i64 (g.k : Int)), (4, _), (5, _), (6, _), (7, g.vV), (8, g.vO)]) (fun g => g.MV ++ (g.MO ++ L)) (fun g tw => Le D s1 tw ∧ (TA l ts g.k g.t ∧ i ≤ g.k ∧ r = (pArg l g.m g.t).and (fun x t2 => contF l g.st g.m x t2) ∧ g.st.length ≤ g.k ∧ FL.Own 97 5 g.MV g.vV g.st.length g.css.flatten ∧ (∃ d, All2 (fun x cs => cs.length = 5 ∧ ExR d tw x cs) (vsW g.st) g.css) ∧ FL.Own 3 1 g.MO g.vO g.st.length (ivz (osW g.st)) ∧ OpsOK g.st)) (fun g => ts.length - g.k) (fun _ _ _ h hl => ⟨h.1.trans hl, ⟨h.2.1, h.2.2.1, h.2.2.2.1, h.2.2.2.2.1, h.2.2.2.2.2.1, ⟨_, exA_le hl h.2.2.2.2.2.2.1.choose_spec⟩, h.2.2.2.2.2.2.2⟩⟩) ⟨[], [], .slice none 0 0, [], .slice none 0 0, [], i, t, m⟩ (.cons Z (.cons Z (.cons Z (.cons Z (.cons Z (.cons Z (.cons Z (.nil _)))))))) Z ⟨Le.refl _, ⟨ht, Nat.le_refl _, hq, Nat.zero_le _, .nil, ⟨0, .nil⟩, .nil, fun f hf => by cases hf⟩⟩ ?_
 intro g s2 I2
 simp only [cQ9, nQ9]
 obtain ⟨st, css, vV, MV, vO, MO, k1, t1, m⟩ := g
 obtain ⟨ht1, hk1, hq, hsk, hOv, ⟨d1, hAv⟩, hOo, hso⟩ : TA l ts k1 t1 ∧ i ≤ k1 ∧ r = (pArg l m t1).and (fun x t2 => contF l st m x t2) ∧ st.length ≤ k1 ∧ FL.Own 97 5 MV vV st.length css.flatten ∧ (∃ d, All2 (fun x cs => cs.length = 5 ∧ ExR d s2 x cs) (vsW st) css) ∧ FL.Own 3 1 MO vO st.length (ivz (osW st)) ∧ OpsOK st := I2.2
 have hl1 := ht1.lt
 obtain ⟨AV, cV, rfl, hz1, hz2⟩ := Own.slice hOv
 obtain ⟨AO, cO, rfl, hz3, hz4⟩ := Own.slice hOo
 dsimp only
 refine Zp <| Sr <| Zqm Z Z <| Zqm Z Z <| Jc Z Z Z (ihO D _ _ _ n c k1 t1 _ (hT.le (h1.t I2.1)) hz ht1 O (andOut hq hr)) ?_
 rintro _ _ s3 h3 ⟨rfl, (⟨x3, _, k3, t3, rfl, ⟨d3, A3, n3, c3, rfl, hE3, hu3, hn3⟩, ht3, hk3, he3⟩ | ⟨x3, _, k3, t3, rfl, ⟨d3, A3, n3, c3, rfl, hE3, hu3, hn3⟩, ht3, hk3, he3⟩)⟩
 ·
  have hl3 := ht3.lt
  try dsimp only at he3
  rw [he3] at hq
  simp only [okPR, erPR] at hq
  refine Zqm Z Z <| Zqx Z Z Z <| Zqx Z Z Z <| Zqx Z Z Z <| JO_allocZ Z [_, _, _, _, _] Z Z ?_
  intro β4 s4 h4
  refine Wt 0 [_, _, _, _, _] Y9 <| Zqa Z Z <| At Z Z <| Zs <| Sr <| Zqm Z Z <| ZqnT Z Z <| Nt <| Zz Z <| Zk <| Zt <| Sr <| Zqm Z Z <| JO_q (QE_ldA 0 [_, _, _, _, _] Z Z Z Z Z) Z <| JO_bs [(_, _)] [_, _, _, _, _] Z Z Z Z Z Z Z Z Z ?_
  intro β5 s5 h5 hc5
  refine JO_app (sz := 5) [_, _] MV (MO ++ L) Z Z Z Z Z Z Z hOv (Row.of_cells (hc5.le (Lr D)) Z Z) ⟨by simp [ti97]; omega, by omega⟩ Z ?_
  intro v9 M9 s6 h6 oq
  simp only [cQ9, nQ9]
  refine At Z Z <| Sr <| Zqm Z Z <| Zqm Z Z <| Jc Z Z Z (rop_ac l ts D _ _ _ n c k3 t3 (hT.le (h1.t I2.1|>.t h3|>.t h4|>.t h5|>.t h6)) hz ht3) ?_
  rintro _ _ s7 h7 ⟨rfl, rfl⟩
  refine At Z Z <| Zs <| Zp <| ?_
  refine JC_loopX [_, _] (γ := IG) (fun h => [(0, _), (1, _), (4, _), (5, _), (6, _), (7, h.vV), (8, h.vO), (10, _), (12, _)]) (fun h => h.MV ++ (h.MO ++ L)) (fun h tw => Le D s7 tw ∧ (r = contF l h.st h.n h.x t3 ∧ h.st.length ≤ st.length ∧ FL.Own 97 5 h.MV h.vV (h.st.length + 1) h.css.flatten ∧ (∃ d, All2 (fun x cs => cs.length = 5 ∧ ExR d tw x cs) (vsW h.st ++ [h.x]) h.css) ∧ FL.Own 3 1 h.MO h.vO h.st.length (ivz (osW h.st)) ∧ OpsOK h.st)) (fun h => h.st.length) (fun _ _ _ h hl => ⟨h.1.trans hl, ⟨h.2.1, h.2.2.1, h.2.2.2.1, ⟨_, exA_le hl h.2.2.2.2.1.choose_spec⟩, h.2.2.2.2.2⟩⟩) ⟨st, x3, css ++ [[.int .i64 x3.kind, .int .i64 x3.op, .int .u32 x3.num, St x3.name, .slice A3 n3 c3]], _, M9, _, MO, m⟩ (.cons Z (.cons Z (.cons Z (.cons Z (.cons Z (.cons Z (.cons Z (.cons Z (.cons Z (.nil _)))))))))) Z ⟨Le.refl _, ⟨hq, Nat.le_refl _, own_snoc2 oq, ⟨d1 + d3 + 1, all2_snoc (all2_imp hAv fun x cs hx => ⟨hx.1, (hx.2.le (h3.t h4|>.t h5|>.t h6|>.t h7)).up O⟩) ⟨Z, _, _, _, Z, (hE3.le (h4.t h5|>.t h6|>.t h7)).up O, hu3, hn3⟩⟩, hOo, hso⟩⟩ ?_
  intro h s8 I8
  simp only [cQ9, nQ9]
  obtain ⟨s1, x, css1, vV1, MV1, vO1, MO1, n1⟩ := h
  obtain ⟨hq, hsl, hOv1, ⟨d2, hAv1⟩, hOo1, hso1⟩ : r = contF l s1 n1 x t3 ∧ s1.length ≤ st.length ∧ FL.Own 97 5 MV1 vV1 (s1.length + 1) css1.flatten ∧ (∃ d, All2 (fun x cs => cs.length = 5 ∧ ExR d s8 x cs) (vsW s1 ++ [x]) css1) ∧ FL.Own 3 1 MO1 vO1 s1.length (ivz (osW s1)) ∧ OpsOK s1 := I8.2
  obtain ⟨bV, capV, ysV, rfl, rfl, hv1, hv2, hv3, hv4⟩ := own_some hOv1 O
  dsimp only
  simp only [cQ9, nQ9]
  refine Zs <| Zs <| ?_
  rcases s1 with _ | ⟨f, q⟩
  ·
   obtain ⟨AO1, cO1, rfl, hw1, hw2⟩ := Own.slice hOo1
   obtain ⟨r1, hcss, hR1⟩ := all2_one hAv1
   obtain ⟨A1, m1, e1, rfl, hE1, hu1, hn1⟩ := exR_open hR1.2
   refine Zr <| Zqm Z Z <| Ws Y4 <| JO_q (QE_cast (v' := .bool false) (QE_gt Z Z) (congrArg Value.bool (decide_eq_false (by simp)))) Z <| Zqm Z Z <| Wf Y4 <| Wf Y4 <| Wf Y4 <| Zh Z Z Z <| Zh Z Z Z <| Zh Z Z Z <| Zh Z Z Z <| Zh Z Z Z <| Zh Z Z Z <| Zh Z Z Z <| Zh Z Z Z <| Zh Z Z Z <| Zh Z Z Z <| Wf Y4 <| ZqF Z Z Z <| Nt <| Zz Z <| Zl <| Zv <| Zv <| Zd <| Zt <| Zs <| Sr <| Zqm Z Z <| Zqeq Z Z Z <| Nt <| ?_
   refine JC_ifD Z (fun c9 => ?_) (fun c9 => ?_)
   ·
    replace hq := cont_end hq hr c9
    refine Sr <| Zqm Z Z <| JO_q (QE_iaN (j := 0) Z Z Z Z Z Z (by simp)) Z <| JO_q (QE_ldA 2 [_, _, _, _, _] Z Z Z Z (cut_c hcss Z)) Z <| Zqm Z Z <| Wt 1 [_, _, _, _, _] Y9 <| Zqa Z Z <| At Z Z <| Zo <| Zu <| Zc <| Zu <| Zc <| ?_
    refine retQ_mk [_, _, _] _ (.inr Z) (.agg (us := [_, _, _, _, _]) 1 Z Z Z Z Z (.tmp Z (.tmp Z (.nil)))) Z (h1.t I2.1|>.t h3|>.t h4|>.t h5|>.t h6|>.t h7|>.t I8.1) (fun sR hS2 => ?_)
    exact ⟨MO1, rfl, fun s2 hs2 hp => .inl ⟨x, _, _, _, rfl, ⟨d2, A1, m1, e1, rfl, hE1.le ((Lr D).t (hS2.t hs2)), hu1, hn1⟩, ht3, O, hq⟩⟩
   have hb0 : binP t3 ≠ 0 := c9
   replace hq := cont_push hq hr hb0 (fun f2 q2 e => by cases e)
   obtain ⟨m2, k2, hq⟩ := hq
   refine Zk <| Zt <| Sr <| Zqm Z Z <| Zqm Z Z <| JO_bs [(_, _)] [_] Z Z Z Z Z Z Z Z Z ?_
   intro β10 s10 h10 hc10
   refine JO_app (sz := 1) [_, _, _] MO1 L Z Z Z Z Z Z Z hOo1 (Row.of_cells (hc10.le (Lr D)) Z Z) ⟨by first | (simp [ti3]; done) | (simp [ti3]; omega), by omega⟩ Z ?_
   intro v8 M8 s11 h11 oq8
   simp only [cQ9, nQ9]
   refine At Z Z <| Zr <| Zqm Z Z <| JO_q (QE_addN 1 Z Z O) Z <| Zqa Z Z <| Zn <| Zb <| ?_
   refine thenQ_n ⟨⟨⟨x, binP t3, k2⟩ :: [], css1, _, [(bV, cb (css1.flatten ++ ysV) 97)], v8, M8, k3 + 1, advP l t3, m2⟩, [_], kp, Z, ⟨(I2.1.t h3|>.t h4|>.t h5|>.t h6|>.t h7|>.t I8.1|>.t h10|>.t h11), ⟨(ht3.next (binP_tok hb0)), (by show i ≤ k3 + 1; omega), hq, (by show ([] : List WtS).length + 1 ≤ k3 + 1; omega), hOv1, ⟨d2, by rw [vsW_cons]; exact all2_imp hAv1 fun x cs hx => ⟨hx.1, hx.2.le (h10.t h11)⟩⟩, (by rw [osW_cons, ivz_snoc]; exact oq8), fun g hg => by
     rcases List.mem_cons.1 hg with rfl | hg
     · exact ⟨(bin_in hb0).1, (bin_in hb0).2.1⟩
     · exact hso1 g hg⟩⟩, (by show ts.length - (k3 + 1) < ts.length - k1; omega)⟩
  have hfl : (f :: q).length = q.length + 1 := rfl
  obtain ⟨bO, capO, ysO, rfl, rfl, ho1, ho2, ho3, ho4⟩ := own_some hOo1 O
  rw [vsW_cons] at hAv1
  obtain ⟨cP, r1, r2, hcss, hAP, hR1, hR2⟩ := all2_two hAv1
  obtain ⟨A1, m1, e1, rfl, hE1, hu1, hn1⟩ := exR_open hR1.2
  obtain ⟨A2, m2, e2, rfl, hE2, hu2, hn2⟩ := exR_open hR2.2
  have hP5 : cP.flatten.length = q.length * 5 := by rw [all2_flat hAP]; simp [vsW]
  simp only [cQ9, nQ9]
  refine Zr <| Zqm Z Z <| Ws Y4 <| JO_q (QE_cast (v' := .bool true) (QE_gt Z Z) (congrArg Value.bool (decide_eq_true O))) Z <| Zqm Z Z <| Zg Z Z <| Zqm Z Z <| Zg Z Z <| Zqeq Z Z Z <| Zg Z Z <| Zqm Z Z <| ?_
  refine JO_caseD (t := 39) Z (fun c12 => ?_) (fun c12 => ?_)
  ·
   refine Wf Y4 <| Wf Y4 <| Wf Y4 <| Wf Y4 <| Wf Y4 <| Wf Y4 <| Wf Y4 <| Wf Y4 <| Wf Y4 <| Wf Y4 <| Zg Z Z <| ZqT Z Z Z <| ZqT Z Z Z <| Nt <| Zy Z <| ?_
   have ho : binP t3 = 0 ∨ strg (binP t3) ≤ strg f.o := by omega
   replace hq := cont_red hq hr ho
   refine Zk <| Zt <| Zp <| Sr <| Zqm Z Z <| Ws Y4 <| At Z Z <| Zs <| JC_draw drawsMixed 20 Z _ (fun _ h => h) ?_
   intro s13 h13
   refine za 0 Z (QE_mv Z) Z <| za 1 Z (QE_mv Z) Z <| za 2 Z (QE_lenS Z Z Z) Z <| za 3 Z (QE_sub' (c := (q.length : Int)) Z Z (by rw [w64 O O]; omega)) Z <| za 4 Z (QE_ia1 (j := q.length) Z Z Z Z Z Z O) Z <| za 5 Z (QE_ld1 3 Z Z Z Z nth_op) Z <| za 6 Z (QE_mv Z) Z <| za 7 Z (QE_mv Z) Z <| za 8 Z (QE_sub' (c := (q.length : Int)) Z Z (by rw [w64 O O]; omega)) Z <| za 9 Z (QE_iaN (j := q.length) Z Z Z Z Z Z O) Z <| za 10 Z (QE_ldA 2 [_, _, _, _, _] Z Z Z Z (cut_a hcss (by rw [hP5]; show q.length * 5 = 0 + q.length * 5; omega) Z)) Z <| za 11 Z (QE_mv Z) Z <| za 12 Z (QE_mv Z) Z ?_
   refine za 13 Z (QE_sub' (c := ((q.length + 1 : Nat) : Int)) Z Z (by rw [w64 O O]; omega)) Z <| za 14 Z (QE_iaN (j := q.length + 1) Z Z Z Z Z Z O) Z <| za 15 Z (QE_ldA 2 [_, _, _, _, _] Z Z Z Z (cut_b hcss (by rw [hP5]; show q.length * 5 + 5 = 0 + (q.length + 1) * 5; omega) Z)) Z ?_
   refine JA_2 16 18 V ?_ ?_
   ·
    refine JB_bs Z trivial [(_, _), (_, _)] [_, _, _, _, _, _, _, _, _, _] Z Z Z Z Z Z Z Z Z ?_
    intro β14 s14 h14 hc14
    refine za 17 Z (QE_build [(_, _), (_, _), (_, _)] [_, _, _, _, _] Z Z Z Z Z Z) Z <| JA_1 18 V <| JB_alloc Z trivial Z [_, _, _, _, _] Z Z ?_
    intro β15 s15 h15
    refine JA_1 19 V <| Wu Z trivial 0 [_, _, _, _, _] Y9 (fun _ hx => sub_mem (sbY (sbY (sbY (sbY (sbE _))))) hx) <| JA_done V <| Zt <| Zs <| ?_
     
    refine JC_draw drawsMixed 8 Z [_] (fun x hx => mK 0 hx Z) ?_
    intro s16 h16
    refine za 0 Z (QE_mv Z) Z <| za 1 Z (QE_mv Z) Z <| za 2 Z (QE_sub' (c := (q.length : Int)) Z Z (by rw [w64 O O]; omega)) Z <| za 3 Z (QE_slH Z Z Z Z Z O) Z <| za 4 Z (QE_ldA 0 [_, _, _, _, _] Z Z Z Z Z) Z <| JA_1 5 V <| JB_bs Z trivial [(_, _)] [_, _, _, _, _] Z Z Z Z Z Z Z Z Z ?_
    intro β17 s17 h17 hc17
    refine JA_1 6 V <| JB_app (sz := 5) Z trivial [_, _, _] [(bV, cb (css1.flatten ++ ysV) 97)] ((bO, cb (ivz (osW (f :: q)) ++ ysO) 3) :: L) Z Z Z Z Z Z Z (own_cutZ hOv1 O (zs := cP.flatten) (ws := [.int .i64 f.v.kind, .int .i64 f.v.op, .int .u32 f.v.num, St f.v.name, .slice A1 m1 e1] ++ [.int .i64 x.kind, .int .i64 x.op, .int .u32 x.num, St x.name, .slice A2 m2 e2]) (by rw [hcss]; simp) hP5 O) (Row.of_cells (hc17.le (Lr D)) Z Z) ⟨by simp [ti97]; omega, by omega⟩ Z (fun _ x hx _ => mK 0 hx Z) ?_
    intro v9 M9 s18 h18 oq
    simp only [cQ9, nQ9]
    refine za 7 Z (QE_as Z) Z <| JA_done V <| Zt <| Zr <| Zqm Z Z <| Zqm Z Z <| Ws Y4 <| JO_q (QE_sub' (c := (q.length : Int)) Z Z (by rw [w64 O O]; omega)) Z <| JO_q (QE_slH Z Z Z Z Z O) Z <| Zqa Z Z <| Zn <| Zb <| ?_
    refine thenQ_n ⟨⟨q, .mk 7 f.o 0 [] [f.v, x], cP ++ [[.int .i64 7, .int .i64 f.o, .int .u32 0, St [], .slice (some ⟨β14, 0, none⟩) 2 2]], v9, M9, _, [(bO, cb (ivz (osW (f :: q)) ++ ysO) 3)], f.n⟩, [_], kp, Z, ⟨(I8.1.t h13|>.t h14|>.t h15|>.t h16|>.t h17|>.t h18), ⟨hq, (by show q.length ≤ st.length; omega), own_snoc2 oq, ⟨d2 + d2 + 2, all2_snoc (all2_imp hAP fun x cs hx => ⟨hx.1, (hx.2.le (h13.t h14|>.t h15|>.t h16|>.t h17|>.t h18)).up O⟩) ⟨Z, _, _, _, Z, ex_two (hc14.le (h15.t h16|>.t h17|>.t h18)) (hE1.le (h13.t h14|>.t h15|>.t h16|>.t h17|>.t h18)) hu1 hn1 (hE2.le (h13.t h14|>.t h15|>.t h16|>.t h17|>.t h18)) hu2 hn2, u32z, nilz⟩⟩, own_cutZ hOo1 O (zs := ivz (osW q)) (ws := [.int .i64 f.o]) (by rw [osW_cons, ivz_snoc]) (by rw [ivz_len]; exact (Nat.mul_one _).symm) (Nat.le_succ _), fun g hg => hso1 g (List.mem_cons_of_mem _ hg)⟩⟩, (by show q.length < (f :: q).length; omega)⟩
   refine JB_alloc Z trivial Z [_, _, _, _, _] Z Z ?_
   intro β19 s19 h19
   refine JA_1 16 V <| JB_bs Z trivial [(_, _), (_, _)] [_, _, _, _, _, _, _, _, _, _] Z Z Z Z Z Z Z Z Z ?_
   intro β20 s20 h20 hc20
   refine za 17 Z (QE_build [(_, _), (_, _), (_, _)] [_, _, _, _, _] Z Z Z Z Z Z) Z <| JA_1 19 V <| Wu Z trivial 0 [_, _, _, _, _] Y9 (fun _ hx => sub_mem (sbY (sbY (sbY (sbY (sbE _))))) hx) <| JA_done V <| Zt <| Zs <| ?_
     
   refine JC_draw drawsMixed 8 Z [_] (fun x hx => mK 0 hx Z) ?_
   intro s21 h21
   refine za 0 Z (QE_mv Z) Z <| za 1 Z (QE_mv Z) Z <| za 2 Z (QE_sub' (c := (q.length : Int)) Z Z (by rw [w64 O O]; omega)) Z <| za 3 Z (QE_slH Z Z Z Z Z O) Z <| za 4 Z (QE_ldA 0 [_, _, _, _, _] Z Z Z Z Z) Z <| JA_1 5 V <| JB_bs Z trivial [(_, _)] [_, _, _, _, _] Z Z Z Z Z Z Z Z Z ?_
   intro β22 s22 h22 hc22
   refine JA_1 6 V <| JB_app (sz := 5) Z trivial [_, _, _] [(bV, cb (css1.flatten ++ ysV) 97)] ((bO, cb (ivz (osW (f :: q)) ++ ysO) 3) :: L) Z Z Z Z Z Z Z (own_cutZ hOv1 O (zs := cP.flatten) (ws := [.int .i64 f.v.kind, .int .i64 f.v.op, .int .u32 f.v.num, St f.v.name, .slice A1 m1 e1] ++ [.int .i64 x.kind, .int .i64 x.op, .int .u32 x.num, St x.name, .slice A2 m2 e2]) (by rw [hcss]; simp) hP5 O) (Row.of_cells (hc22.le (Lr D)) Z Z) ⟨by simp [ti97]; omega, by omega⟩ Z (fun _ x hx _ => mK 0 hx Z) ?_
   intro v9 M9 s23 h23 oq
   simp only [cQ9, nQ9]
   refine za 7 Z (QE_as Z) Z <| JA_done V <| Zt <| Zr <| Zqm Z Z <| Zqm Z Z <| Ws Y4 <| JO_q (QE_sub' (c := (q.length : Int)) Z Z (by rw [w64 O O]; omega)) Z <| JO_q (QE_slH Z Z Z Z Z O) Z <| Zqa Z Z <| Zn <| Zb <| ?_
   refine thenQ_n ⟨⟨q, .mk 7 f.o 0 [] [f.v, x], cP ++ [[.int .i64 7, .int .i64 f.o, .int .u32 0, St [], .slice (some ⟨β20, 0, none⟩) 2 2]], v9, M9, _, [(bO, cb (ivz (osW (f :: q)) ++ ysO) 3)], f.n⟩, [_], kp, Z, ⟨(I8.1.t h13|>.t h19|>.t h20|>.t h21|>.t h22|>.t h23), ⟨hq, (by show q.length ≤ st.length; omega), own_snoc2 oq, ⟨d2 + d2 + 2, all2_snoc (all2_imp hAP fun x cs hx => ⟨hx.1, (hx.2.le (h13.t h19|>.t h20|>.t h21|>.t h22|>.t h23)).up O⟩) ⟨Z, _, _, _, Z, ex_two (hc20.le (h21.t h22|>.t h23)) (hE1.le (h13.t h19|>.t h20|>.t h21|>.t h22|>.t h23)) hu1 hn1 (hE2.le (h13.t h19|>.t h20|>.t h21|>.t h22|>.t h23)) hu2 hn2, u32z, nilz⟩⟩, own_cutZ hOo1 O (zs := ivz (osW q)) (ws := [.int .i64 f.o]) (by rw [osW_cons, ivz_snoc]) (by rw [ivz_len]; exact (Nat.mul_one _).symm) (Nat.le_succ _), fun g hg => hso1 g (List.mem_cons_of_mem _ hg)⟩⟩, (by show q.length < (f :: q).length; omega)⟩
  refine Zg Z Z <| Zqm Z Z <| Zg Z Z <| Zqm Z Z <| Zg Z Z <| Ws Y4 <| Zg Z Z <| JO_q (QE_sub' (c := (q.length : Int)) Z Z (by rw [w64 O O]; omega)) Z <| Zg Z Z <| JO_q (QE_ia1 (j := q.length) Z Z Z Z Z Z O) Z <| Zg Z Z <| JO_q (QE_ld1 3 Z Z Z Z nth_op) Z <| Zg Z Z <| Jc Z Z Z (rstr_ac D _ _ f.o (hso1 f (List.mem_cons_self ..))) ?_
  rintro _ _ s24 h24 ⟨rfl, rfl⟩
  refine Zg Z Z <| Zqm Z Z <| Zg Z Z <| Jc Z Z Z (rstr_ac D _ _ (binP t3) ⟨(bin_in (t := t3) As).1, (bin_in (t := t3) As).2.1⟩) ?_
  rintro _ _ s25 h25 ⟨rfl, rfl⟩
  refine Zg Z Z <| Zqge Z Z Z <| Zg Z Z <| ZqF Z Z Z <| ZqT Z Z Z <| Nt <| ?_
  refine JC_ifD Z (fun c26 => ?_) (fun c26 => ?_)
  ·
   have ho : binP t3 = 0 ∨ strg (binP t3) ≤ strg f.o := by omega
   replace hq := cont_red hq hr ho
   refine Zk <| Zt <| Zp <| Sr <| Zqm Z Z <| Ws Y4 <| At Z Z <| Zs <| JC_draw drawsMixed 20 Z _ (fun _ h => h) ?_
   intro s27 h27
   refine za 0 Z (QE_mv Z) Z <| za 1 Z (QE_mv Z) Z <| za 2 Z (QE_lenS Z Z Z) Z <| za 3 Z (QE_sub' (c := (q.length : Int)) Z Z (by rw [w64 O O]; omega)) Z <| za 4 Z (QE_ia1 (j := q.length) Z Z Z Z Z Z O) Z <| za 5 Z (QE_ld1 3 Z Z Z Z nth_op) Z <| za 6 Z (QE_mv Z) Z <| za 7 Z (QE_mv Z) Z <| za 8 Z (QE_sub' (c := (q.length : Int)) Z Z (by rw [w64 O O]; omega)) Z <| za 9 Z (QE_iaN (j := q.length) Z Z Z Z Z Z O) Z <| za 10 Z (QE_ldA 2 [_, _, _, _, _] Z Z Z Z (cut_a hcss (by rw [hP5]; show q.length * 5 = 0 + q.length * 5; omega) Z)) Z <| za 11 Z (QE_mv Z) Z <| za 12 Z (QE_mv Z) Z ?_
   refine za 13 Z (QE_sub' (c := ((q.length + 1 : Nat) : Int)) Z Z (by rw [w64 O O]; omega)) Z <| za 14 Z (QE_iaN (j := q.length + 1) Z Z Z Z Z Z O) Z <| za 15 Z (QE_ldA 2 [_, _, _, _, _] Z Z Z Z (cut_b hcss (by rw [hP5]; show q.length * 5 + 5 = 0 + (q.length + 1) * 5; omega) Z)) Z ?_
   refine JA_2 16 18 V ?_ ?_
   ·
    refine JB_bs Z trivial [(_, _), (_, _)] [_, _, _, _, _, _, _, _, _, _] Z Z Z Z Z Z Z Z Z ?_
    intro β28 s28 h28 hc28
    refine za 17 Z (QE_build [(_, _), (_, _), (_, _)] [_, _, _, _, _] Z Z Z Z Z Z) Z <| JA_1 18 V <| JB_alloc Z trivial Z [_, _, _, _, _] Z Z ?_
    intro β29 s29 h29
    refine JA_1 19 V <| Wu Z trivial 0 [_, _, _, _, _] Y9 (fun _ hx => sub_mem (sbY (sbY (sbY (sbY (sbE _))))) hx) <| JA_done V <| Zt <| Zs <| ?_
      
    refine JC_draw drawsMixed 8 Z [_] (fun x hx => mK 0 hx Z) ?_
    intro s30 h30
    refine za 0 Z (QE_mv Z) Z <| za 1 Z (QE_mv Z) Z <| za 2 Z (QE_sub' (c := (q.length : Int)) Z Z (by rw [w64 O O]; omega)) Z <| za 3 Z (QE_slH Z Z Z Z Z O) Z <| za 4 Z (QE_ldA 0 [_, _, _, _, _] Z Z Z Z Z) Z <| JA_1 5 V <| JB_bs Z trivial [(_, _)] [_, _, _, _, _] Z Z Z Z Z Z Z Z Z ?_
    intro β31 s31 h31 hc31
    refine JA_1 6 V <| JB_app (sz := 5) Z trivial [_, _, _] [(bV, cb (css1.flatten ++ ysV) 97)] ((bO, cb (ivz (osW (f :: q)) ++ ysO) 3) :: L) Z Z Z Z Z Z Z (own_cutZ hOv1 O (zs := cP.flatten) (ws := [.int .i64 f.v.kind, .int .i64 f.v.op, .int .u32 f.v.num, St f.v.name, .slice A1 m1 e1] ++ [.int .i64 x.kind, .int .i64 x.op, .int .u32 x.num, St x.name, .slice A2 m2 e2]) (by rw [hcss]; simp) hP5 O) (Row.of_cells (hc31.le (Lr D)) Z Z) ⟨by simp [ti97]; omega, by omega⟩ Z (fun _ x hx _ => mK 0 hx Z) ?_
    intro v9 M9 s32 h32 oq
    simp only [cQ9, nQ9]
    refine za 7 Z (QE_as Z) Z <| JA_done V <| Zt <| Zr <| Zqm Z Z <| Zqm Z Z <| Ws Y4 <| JO_q (QE_sub' (c := (q.length : Int)) Z Z (by rw [w64 O O]; omega)) Z <| JO_q (QE_slH Z Z Z Z Z O) Z <| Zqa Z Z <| Zn <| Zb <| ?_
    refine thenQ_n ⟨⟨q, .mk 7 f.o 0 [] [f.v, x], cP ++ [[.int .i64 7, .int .i64 f.o, .int .u32 0, St [], .slice (some ⟨β28, 0, none⟩) 2 2]], v9, M9, _, [(bO, cb (ivz (osW (f :: q)) ++ ysO) 3)], f.n⟩, [_], kp, Z, ⟨(I8.1.t h24|>.t h25|>.t h27|>.t h28|>.t h29|>.t h30|>.t h31|>.t h32), ⟨hq, (by show q.length ≤ st.length; omega), own_snoc2 oq, ⟨d2 + d2 + 2, all2_snoc (all2_imp hAP fun x cs hx => ⟨hx.1, (hx.2.le (h24.t h25|>.t h27|>.t h28|>.t h29|>.t h30|>.t h31|>.t h32)).up O⟩) ⟨Z, _, _, _, Z, ex_two (hc28.le (h29.t h30|>.t h31|>.t h32)) (hE1.le (h24.t h25|>.t h27|>.t h28|>.t h29|>.t h30|>.t h31|>.t h32)) hu1 hn1 (hE2.le (h24.t h25|>.t h27|>.t h28|>.t h29|>.t h30|>.t h31|>.t h32)) hu2 hn2, u32z, nilz⟩⟩, own_cutZ hOo1 O (zs := ivz (osW q)) (ws := [.int .i64 f.o]) (by rw [osW_cons, ivz_snoc]) (by rw [ivz_len]; exact (Nat.mul_one _).symm) (Nat.le_succ _), fun g hg => hso1 g (List.mem_cons_of_mem _ hg)⟩⟩, (by show q.length < (f :: q).length; omega)⟩
   refine JB_alloc Z trivial Z [_, _, _, _, _] Z Z ?_
   intro β33 s33 h33
   refine JA_1 16 V <| JB_bs Z trivial [(_, _), (_, _)] [_, _, _, _, _, _, _, _, _, _] Z Z Z Z Z Z Z Z Z ?_
   intro β34 s34 h34 hc34
   refine za 17 Z (QE_build [(_, _), (_, _), (_, _)] [_, _, _, _, _] Z Z Z Z Z Z) Z <| JA_1 19 V <| Wu Z trivial 0 [_, _, _, _, _] Y9 (fun _ hx => sub_mem (sbY (sbY (sbY (sbY (sbE _))))) hx) <| JA_done V <| Zt <| Zs <| ?_
      
   refine JC_draw drawsMixed 8 Z [_] (fun x hx => mK 0 hx Z) ?_
   intro s35 h35
   refine za 0 Z (QE_mv Z) Z <| za 1 Z (QE_mv Z) Z <| za 2 Z (QE_sub' (c := (q.length : Int)) Z Z (by rw [w64 O O]; omega)) Z <| za 3 Z (QE_slH Z Z Z Z Z O) Z <| za 4 Z (QE_ldA 0 [_, _, _, _, _] Z Z Z Z Z) Z <| JA_1 5 V <| JB_bs Z trivial [(_, _)] [_, _, _, _, _] Z Z Z Z Z Z Z Z Z ?_
   intro β36 s36 h36 hc36
   refine JA_1 6 V <| JB_app (sz := 5) Z trivial [_, _, _] [(bV, cb (css1.flatten ++ ysV) 97)] ((bO, cb (ivz (osW (f :: q)) ++ ysO) 3) :: L) Z Z Z Z Z Z Z (own_cutZ hOv1 O (zs := cP.flatten) (ws := [.int .i64 f.v.kind, .int .i64 f.v.op, .int .u32 f.v.num, St f.v.name, .slice A1 m1 e1] ++ [.int .i64 x.kind, .int .i64 x.op, .int .u32 x.num, St x.name, .slice A2 m2 e2]) (by rw [hcss]; simp) hP5 O) (Row.of_cells (hc36.le (Lr D)) Z Z) ⟨by simp [ti97]; omega, by omega⟩ Z (fun _ x hx _ => mK 0 hx Z) ?_
   intro v9 M9 s37 h37 oq
   simp only [cQ9, nQ9]
   refine za 7 Z (QE_as Z) Z <| JA_done V <| Zt <| Zr <| Zqm Z Z <| Zqm Z Z <| Ws Y4 <| JO_q (QE_sub' (c := (q.length : Int)) Z Z (by rw [w64 O O]; omega)) Z <| JO_q (QE_slH Z Z Z Z Z O) Z <| Zqa Z Z <| Zn <| Zb <| ?_
   refine thenQ_n ⟨⟨q, .mk 7 f.o 0 [] [f.v, x], cP ++ [[.int .i64 7, .int .i64 f.o, .int .u32 0, St [], .slice (some ⟨β34, 0, none⟩) 2 2]], v9, M9, _, [(bO, cb (ivz (osW (f :: q)) ++ ysO) 3)], f.n⟩, [_], kp, Z, ⟨(I8.1.t h24|>.t h25|>.t h27|>.t h33|>.t h34|>.t h35|>.t h36|>.t h37), ⟨hq, (by show q.length ≤ st.length; omega), own_snoc2 oq, ⟨d2 + d2 + 2, all2_snoc (all2_imp hAP fun x cs hx => ⟨hx.1, (hx.2.le (h24.t h25|>.t h27|>.t h33|>.t h34|>.t h35|>.t h36|>.t h37)).up O⟩) ⟨Z, _, _, _, Z, ex_two (hc34.le (h35.t h36|>.t h37)) (hE1.le (h24.t h25|>.t h27|>.t h33|>.t h34|>.t h35|>.t h36|>.t h37)) hu1 hn1 (hE2.le (h24.t h25|>.t h27|>.t h33|>.t h34|>.t h35|>.t h36|>.t h37)) hu2 hn2, u32z, nilz⟩⟩, own_cutZ hOo1 O (zs := ivz (osW q)) (ws := [.int .i64 f.o]) (by rw [osW_cons, ivz_snoc]) (by rw [ivz_len]; exact (Nat.mul_one _).symm) (Nat.le_succ _), fun g hg => hso1 g (List.mem_cons_of_mem _ hg)⟩⟩, (by show q.length < (f :: q).length; omega)⟩
  refine Zl <| Zv <| Zv <| Zd <| Zt <| Zs <| Sr <| Zqm Z Z <| Zqeq Z Z Z <| Nt <| ?_
  refine JC_ifD Z (fun c38 => ?_) (fun c38 => ?_)
  ·
   exact absurd c38 As --end
  have hb0 : binP t3 ≠ 0 := c38
  replace hq := cont_push hq hr hb0 (fun f2 q2 e => by cases e; omega)
  obtain ⟨m2, k2, hq⟩ := hq
  have hAvC := hAv1
  rw [← vsW_cons] at hAvC
  refine Zk <| Zt <| Sr <| Zqm Z Z <| Zqm Z Z <| JO_bs [(_, _)] [_] Z Z Z Z Z Z Z Z Z ?_
  intro β39 s39 h39 hc39
  refine JO_app (sz := 1) [_, _, _] [(bO, cb (ivz (osW (f :: q)) ++ ysO) 3)] L Z Z Z Z Z Z Z hOo1 (Row.of_cells (hc39.le (Lr D)) Z Z) ⟨by first | (simp [ti3]; done) | (simp [ti3]; omega), by omega⟩ Z ?_
  intro v8 M8 s40 h40 oq8
  simp only [cQ9, nQ9]
  refine At Z Z <| Zr <| Zqm Z Z <| JO_q (QE_addN 1 Z Z O) Z <| Zqa Z Z <| Zn <| Zb <| ?_
  refine thenQ_n ⟨⟨⟨x, binP t3, k2⟩ :: (f :: q), css1, _, [(bV, cb (css1.flatten ++ ysV) 97)], v8, M8, k3 + 1, advP l t3, m2⟩, [_], kp, Z, ⟨(I2.1.t h3|>.t h4|>.t h5|>.t h6|>.t h7|>.t I8.1|>.t h24|>.t h25|>.t h39|>.t h40), ⟨(ht3.next (binP_tok hb0)), (by show i ≤ k3 + 1; omega), hq, (by show ((f :: q) : List WtS).length + 1 ≤ k3 + 1; omega), hOv1, ⟨d2, by rw [vsW_cons]; exact all2_imp hAvC fun x cs hx => ⟨hx.1, hx.2.le (h24.t h25|>.t h39|>.t h40)⟩⟩, (by rw [osW_cons, ivz_snoc]; exact oq8), fun g hg => by
    rcases List.mem_cons.1 hg with rfl | hg
    · exact ⟨(bin_in hb0).1, (bin_in hb0).2.1⟩
    · exact hso1 g hg⟩⟩, (by show ts.length - (k3 + 1) < ts.length - k1; omega)⟩
 have hl3 := ht3.lt
 try dsimp only at he3
 rw [he3] at hq
 simp only [okPR, erPR] at hq
 refine Zqm Z Z <| Zqx Z Z Z <| Zqx Z Z Z <| Zqx Z Z Z <| JO_allocZ Z [_, _, _, _, _] Z Z ?_
 intro β41 s41 h41
 refine Wt 0 [_, _, _, _, _] Y9 <| Zqa Z Z <| At Z Z <| Zs <| Sr <| Zqm Z Z <| ZqnF Z Z <| Nt <| Zy Z <| Sr <| JO_q (QE_ldA 0 [_, _, _, _, _] Z Z Z Z Z) Z <| Zqm Z Z <| Wt 1 [_, _, _, _, _] Y9 <| Zqa Z Z <| At Z Z <| Zo <| Zu <| Zc <| Zu <| Zc <| ?_
 refine retQ_mk [_, _] _ (.inr Z) (.agg (us := [_, _, _, _, _]) 1 Z Z Z Z Z (.tmp Z (.tmp Z (.nil)))) Z (h1.t I2.1|>.t h3|>.t h41) (fun sR hS2 => ?_)
 exact ⟨MV ++ MO, (List.append_assoc _ _ _).symm, fun s2 hs2 hp => .inr ⟨x3, _, _, _, rfl, ⟨d3, A3, n3, c3, rfl, hE3.le (h41.t (hS2.t hs2)), hu3, hn3⟩, ht3, O, hq⟩⟩
theorem rc_zero {f : FuncId} {l : Str} {ts : List RT} {α : Type} {R : Nat → PS → PR α} {V : World → α → Value → Prop} : RC f l ts R V 0 := fun D L s A n c i t m hT hz ht hN hr => absurd ht.lt O
theorem exp_ref (l : Str) (ts : List RT) : ∀ N, RCE l ts N ∧ RCL l ts N
  | 0 => ⟨rc_zero, rc_zero⟩
  | N + 1 => by
    obtain ⟨h1, h2⟩ := exp_ref l ts N
    have h3 := rexpr_st l ts (N + 1) (roper_st l ts (N + 1) (rsim_st l ts N h1 h2))
    exact ⟨h3, rlist_st l ts (N + 1) h3⟩
def StrsV (s : World) (x : List Str) (v : Value) : Prop := ∃ A n c, v = .slice A n c ∧ Strs s A n c x
def RCT (l : Str) (ts : List RT) (N : Nat) : Prop := RC 99 l ts (fun m t => pStm l m t) StV N
def RCB (l : Str) (ts : List RT) (N : Nat) : Prop := RC 65 l ts (fun m t => pRest l m [] t) StsV N
def RCI (l : Str) (ts : List RT) (N : Nat) : Prop := RC 122 l ts (fun m t => pIf l m t) StV N
def RCG (l : Str) (ts : List RT) (N : Nat) : Prop := ∀ (kd : Int) (D : Nat) (L : Hl) (s : World) (A : Option Addr) (n c i : Nat) (t : PS) (m : Nat) (hT : Rts s A n c ts) (hz : ts.length ≤ 20000) (ht : TA l ts i t) (hN : ts.length ≤ i + N) (hr : pGrd l m kd t ≠ .out),
  AC Tryz.prog D 123 [.slice A n c, .int .i64 (i : Int), .int .i64 kd] L s fun v L' s' => L = L' ∧ RX l ts i StV (pGrd l m kd t) s' v
structure NG where
  xs : List Str
  v : Value
  M : Hl
  k : Nat
  t : PS
  m : Nat
structure BG where
  xs : List Stm
  v : Value
  M : Hl
  css : List (List Value)
  k : Nat
  t : PS
  m : Nat
theorem sl_cap {α : Type} {sz : Nat} {R : World → α → List Value → Prop} {s : World} {A : Option Addr} {n c c' : Nat} {l : List α} (h : Sl sz R s A n c l) (h1 : c ≤ c') (h2 : c' ≤ 9223372036854775807) : Sl sz R s A n c' l := ⟨h.1, Nat.le_trans h.2.1 h1, h2, h.2.2.2⟩
theorem rcloT_ac (l : Str) (ts : List RT) (D : Nat) (L : Hl) (s : World) (A : Option Addr) (n c i : Nat) (t : PS) (hT : Rts s A n c ts) (hz : ts.length ≤ 20000) (ht : TA l ts i t) (k0 : Int) (w0 : Str) (B1 : Option Addr) (m1 e1 : Nat) (B2 : Option Addr) (m2 e2 : Nat) (B3 : Option Addr) (m3 e3 : Nat) : AC Tryz.prog D 124 [.slice A n c, .agg #[.int .i64 k0, St w0, .slice B1 m1 e1, .slice B2 m2 e2, .slice B3 m3 e3], .int .i64 (i : Int), .bool true] L s fun v L' _ => L = L' ∧ ((isP t [59] = true ∧ v = .tuple #[.agg #[.int .i64 k0, St w0, .slice B1 m1 e1, .slice B2 m2 e2, .slice B3 m3 e3], .int .i64 ((i + 1 : Nat) : Int), .bool true]) ∨ (isP t [59] = false ∧ v = .tuple #[.agg #[.int .i64 k0, St w0, .slice B1 m1 e1, .slice B2 m2 e2, .slice B3 m3 e3], .int .i64 (i : Int), .bool false])) := by
 have hn := hT.1
 have hn2 := hT.2.1
 have hn3 := hT.2.2.1
 have hi0 := ht.lt
 refine AC_enter (TT := TT) (fn := Tryz.f124) TT_ok Tryz.func124 V Z Tryz.ntmps124 Z (rs := [.cell 8 100, .tmp 9, .tmp 10]) Z [(0, _), (1, _), (2, _), (3, _)] Z <| Sr <| JO_boxA Z Z ?_
 intro β1 s1 h1
 refine JO_allocZ Z [_, _, _, _, _] Z Z ?_
 intro β2 s2 h2
 refine Zqa Z Z <| At Z Z <| Zs <| Sr <| Zqm Z Z <| ZqnT Z Z <| Zqm Z Z <| Zg Z Z <| Zqm Z Z <| Zg Z Z <| Zqm Z Z <| Zg Z Z <| Jc Z Z Z (risf_ac l ts D _ _ _ n c i t (hT.le (h1.t h2)) hz ht [59] (by decide +kernel)) ?_
 rintro _ _ s3 h3 ⟨rfl, (⟨hb3, rfl⟩ | ⟨hb3, rfl⟩)⟩
 ·
  refine Zg Z Z <| ZqnT Z Z <| ZqF Z Z Z <| Nt <| Zz Z <| Zk <| Zt <| Sr <| JO_q (QE_ldA 1 [_, _, _, _, _] Z Z Z Z Z) Z <| Zqm Z Z <| JO_q (QE_addN 1 Z Z O) Z <| Wt 0 [_, _, _, _, _] Y9 <| Zqa Z Z <| At Z Z <| Zo <| ?_
  refine retQ_mk [_, _] L (.inr Z) (.agg (us := [_, _, _, _, _]) 0 Z Z Z Z Z (.tmp Z (.tmp Z (.nil)))) Z (h1.t h2|>.t h3) (fun sR hS2 => ?_)
  exact ⟨rfl, .inl ⟨hb3, rfl⟩⟩
 refine Zg Z Z <| ZqnF Z Z <| ZqF Z Z Z <| Nt <| Zy Z <| Sr <| JO_q (QE_ldA 1 [_, _, _, _, _] Z Z Z Z Z) Z <| Zqm Z Z <| Wt 0 [_, _, _, _, _] Y9 <| Zqa Z Z <| At Z Z <| Zo <| Zu <| ?_
 refine retQ_mk [_, _] L (.inr Z) (.agg (us := [_, _, _, _, _]) 0 Z Z Z Z Z (.tmp Z (.tmp Z (.nil)))) Z (h1.t h2|>.t h3) (fun sR hS2 => ?_)
 exact ⟨rfl, .inr ⟨hb3, rfl⟩⟩
theorem rcloF_ac (l : Str) (ts : List RT) (D : Nat) (L : Hl) (s : World) (A : Option Addr) (n c i : Nat) (t : PS) (hT : Rts s A n c ts) (hz : ts.length ≤ 20000) (ht : TA l ts i t) (k0 : Int) (w0 : Str) (B1 : Option Addr) (m1 e1 : Nat) (B2 : Option Addr) (m2 e2 : Nat) (B3 : Option Addr) (m3 e3 : Nat) : AC Tryz.prog D 124 [.slice A n c, .agg #[.int .i64 k0, St w0, .slice B1 m1 e1, .slice B2 m2 e2, .slice B3 m3 e3], .int .i64 (i : Int), .bool false] L s fun v L' _ => L = L' ∧ v = .tuple #[.agg #[.int .i64 k0, St w0, .slice B1 m1 e1, .slice B2 m2 e2, .slice B3 m3 e3], .int .i64 (i : Int), .bool false] := by
 refine AC_enter (TT := TT) (fn := Tryz.f124) TT_ok Tryz.func124 V Z Tryz.ntmps124 Z (rs := [.cell 8 100, .tmp 9, .tmp 10]) Z [(0, _), (1, _), (2, _), (3, _)] Z <| Sr <| JO_boxA Z Z ?_
 intro β1 s1 h1
 refine JO_allocZ Z [_, _, _, _, _] Z Z ?_
 intro β2 s2 h2
 refine Zqa Z Z <| At Z Z <| Zs <| Sr <| Zqm Z Z <| ZqnF Z Z <| Zqm Z Z <| Wf Y4 <| Wf Y4 <| Wf Y4 <| Wf Y4 <| ZqT Z Z Z <| Nt <| Zy Z <| Sr <| JO_q (QE_ldA 1 [_, _, _, _, _] Z Z Z Z Z) Z <| Zqm Z Z <| Wt 0 [_, _, _, _, _] Y9 <| Zqa Z Z <| At Z Z <| Zo <| Zu <| ?_
 refine retQ_mk [_, _] L (.inr Z) (.agg (us := [_, _, _, _, _]) 0 Z Z Z Z Z (.tmp Z (.tmp Z (.nil)))) Z (h1.t h2) (fun sR hS2 => ?_)
 exact ⟨rfl, rfl⟩
theorem rnames_st (l : Str) (ts : List RT) (N : Nat) : RC 64 l ts (fun m t => pNames l m [] t) StrsV N := by
 intro D L s A n c i t m hT hz ht hN hr
 refine AC.pubW (R := fun v s => RX l ts i StrsV (pNames l m [] t) s v) ?_
 try dsimp only at hr
 obtain ⟨r, hq⟩ : ∃ r, r = pNames l m [] t := ⟨_, rfl⟩
 rw [← hq] at hr ⊢
 have hn := hT.1
 have hn2 := hT.2.1
 have hn3 := hT.2.2.1
 have hi0 := ht.lt
 refine AC_enter (TT := TT) (fn := Tryz.f64) TT_ok Tryz.func64 V Z Tryz.ntmps64 Z (rs := [.tmp 4, .tmp 5, .tmp 6]) Z [(0, _), (1, _)] Z <| Sr <| Zqa Z Z <| Zqa Z Z <| At Z Z <| Sr <| At Z Z <| Zp ?_
 refine JC_loop (γ := NG) (fun g => [(0, _), (1, .int .i64 (g.k : Int)), (4, _), (5, _), (6, _), (7, g.v)]) (fun g => g.M ++ L) (fun g tw => Le D s tw ∧ (TA l ts g.k g.t ∧ i ≤ g.k ∧ r = pNames l g.m g.xs g.t ∧ g.xs.length ≤ g.k ∧ FL.Own 9 1 g.M g.v g.xs.length (sb g.xs) ∧ ∀ x ∈ g.xs, x.length ≤ 9223372036854775807)) (fun g => g.m) (fun _ _ _ h hl => ⟨h.1.trans hl, h.2⟩) ⟨[], .slice none 0 0, [], i, t, m⟩ (.cons Z (.cons Z (.cons Z (.cons Z (.cons Z (.cons Z (.nil _))))))) Z ⟨Le.refl _, ⟨ht, Nat.le_refl _, hq, by simp, .nil, fun x hx => by cases hx⟩⟩ ?_
 intro g s1 I1
 obtain ⟨xs, v, M, k1, t1, m⟩ := g
 obtain ⟨ht1, hk1, hq, hxk, hO, hA⟩ : TA l ts k1 t1 ∧ i ≤ k1 ∧ r = pNames l m xs t1 ∧ xs.length ≤ k1 ∧ FL.Own 9 1 M v xs.length (sb xs) ∧ ∀ x ∈ xs, x.length ≤ 9223372036854775807 := I1.2
 have hl1 := ht1.lt
 obtain ⟨x1, hx1, hr1, _⟩ := ht1.at_
 obtain ⟨b1, o1, x11, rfl, hx11, hc1, hxl1, hxu1⟩ := Rts.at_ (hT.le I1.1) (show k1 < n by omega)
 obtain rfl : x1 = x11 := Option.some.inj (hx1.symm.trans hx11)
 obtain ⟨m, rfl⟩ := names_pos' hq hr
 rw [pNames] at hq
 obtain ⟨A1, c1, rfl, hz1, hz2⟩ := Own.slice hO
 dsimp only
 refine Zp <| Zs <| Sr <| Zqm Z Z <| Zqm Z Z <| JO_q (QE_iaN Z Z Z Z Z Z (show k1 < n by omega)) Z <| W0 Y5 <| JO_q (QE_ldsR0 Z Z Z (hc1.le (Lr D)) Z) Z <| Zqne Z Z Z <| Nt <| ?_
 refine JC_ifN Z (fun c2 => ?_) (fun c2 => ?_)
 ·
  rw [nmN (fun h => c2 (hr1.nm.1 h))] at hq
  simp only [okPR, erPR] at hq
  refine Sr <| Zqm Z Z <| Zqm Z Z <| Zqa Z Z <| Zqa Z Z <| At Z Z <| Zo <| Zu <| Zc <| Zu <| Zc <| ?_
  refine retQ_mk [] _ (.inr Z) (.tmp Z (.tmp Z (.tmp Z (.nil)))) Z I1.1 (fun sR hS2 => ?_)
  exact ⟨_, rfl, fun s2 hs2 hp => .inr ⟨xs, _, _, _, rfl, ⟨_, _, _, rfl, Own.strs hO hA hp rfl⟩, ht1, O, hq⟩⟩
 have hk2 : x1.kind = 2 := by have := c2; omega
 have hnm := hr1.nm.2 hk2
 rw [nmY hnm] at hq
 simp only [okPR, erPR] at hq
 rw [← hr1.nmT hk2] at hq
 refine Zk <| Zt <| Sr <| Zqm Z Z <| Zqm Z Z <| Zqm Z Z <| JO_q (QE_iaN Z Z Z Z Z Z (show k1 < n by omega)) Z <| JO_q (QE_fa Z Z Z Z) Z <| JO_q (QE_ldsR 2 Z Z Z (hc1.le (Lr D)) Z) Z <| JO_bs [(_, _)] [_] Z Z Z Z Z Z Z Z Z ?_
 intro β3 s3 h3 hc3
 refine JO_app (sz := 1) [] M L Z Z Z Z Z Z Z hO (Row.of_cells (hc3.le (Lr D)) Z Z) ⟨by simp [ti9]; omega, by omega⟩ Z ?_
 intro v9 M9 s4 h4 oq
 obtain ⟨A9, c9, rfl, hy9, hz9⟩ := Own.slice oq
 simp only [cQ9, nQ9]
 refine At Z Z <| Zs <| Sr <| Zqm Z Z <| Zqm Z Z <| JO_q (QE_addN 1 Z Z O) Z <| Jc Z Z Z (risf_ac l ts D _ _ _ n c (k1 + 1) (advP l t1) (hT.le (I1.1.t h3|>.t h4)) hz (ht1.nmN hnm) [44] (by decide +kernel)) ?_
 rintro _ _ s5 h5 ⟨rfl, (⟨hb5, rfl⟩ | ⟨hb5, rfl⟩)⟩
 ·
  rw [if_pos hb5] at hq
  refine ZqnT Z Z <| Nt <| Zz Z <| Zk <| Zt <| Zr <| Zqm Z Z <| JO_q (QE_addN 2 Z Z O) Z <| Zqa Z Z <| Zn <| Zb <| ?_
  refine thenQ_n ⟨⟨xs ++ [x1.text], _, M9, k1 + 2, advP l (advP l t1), m⟩, [], kp, Z, ⟨(I1.1.t h3|>.t h4|>.t h5), ⟨((ht1.nmN hnm).isN hb5), (by show i ≤ k1 + 2; omega), hq, (by show (xs ++ [x1.text]).length ≤ k1 + 2; rw [List.length_append]; simp only [List.length_cons, List.length_nil]; omega), (by rw [List.length_append, sb_snoc]; exact oq), fun y hy => by
    rcases List.mem_append.1 hy with h | h
    · exact hA y h
    · rw [List.mem_singleton.1 h]; exact hxl1⟩⟩, (by show m < m + 1; omega)⟩
 rw [if_neg (bNe hb5)] at hq
 refine ZqnF Z Z <| Nt <| Zy Z <| Sr <| Zqm Z Z <| Zqm Z Z <| JO_q (QE_addN 1 Z Z O) Z <| Zqa Z Z <| Zqa Z Z <| At Z Z <| Zo <| Zu <| Zc <| Zu <| Zc <| ?_
 refine retQ_mk [] _ (.inr Z) (.tmp Z (.tmp Z (.tmp Z (.nil)))) Z (I1.1.t h3|>.t h4|>.t h5) (fun sR hS2 => ?_)
 exact ⟨_, rfl, fun s2 hs2 hp => .inl ⟨xs ++ [x1.text], _, _, _, rfl, ⟨A9, _, c9, rfl, Own.strs (l := xs ++ [x1.text]) (by rw [sb_snoc]; exact oq) (fun y hy => by
   rcases List.mem_append.1 hy with h | h
   · exact hA y h
   · rw [List.mem_singleton.1 h]; exact hxl1) hp (by simp)⟩, (ht1.nmN hnm), O, hq⟩⟩
theorem rblock_st (l : Str) (ts : List RT) (N : Nat) (ihT : RCT l ts N) : RCB l ts N := by
 intro D L s A n c i t m hT hz ht hN hr
 refine AC.pubW (R := fun v s => RX l ts i StsV (pRest l m [] t) s v) ?_
 try dsimp only at hr
 obtain ⟨r, hq⟩ : ∃ r, r = pRest l m [] t := ⟨_, rfl⟩
 rw [← hq] at hr ⊢
 have hn := hT.1
 have hn2 := hT.2.1
 have hn3 := hT.2.2.1
 have hi0 := ht.lt
 refine AC_enter (TT := TT) (fn := Tryz.f65) TT_ok Tryz.func65 V Z Tryz.ntmps65 Z (rs := [.tmp 4, .tmp 5, .tmp 6]) Z [(0, _), (1, _)] Z <| Sr <| Zqa Z Z <| Zqa Z Z <| At Z Z <| Sr <| At Z Z <| Zs <| Zp <| ?_
 refine JC_loop (γ := BG) (fun g => [(0, _), (1, .int .i64 (g.k : Int)), (4, _), (5, _), (6, _), (7, g.v)]) (fun g => g.M ++ L) (fun g tw => Le D s tw ∧ (TA l ts g.k g.t ∧ i ≤ g.k ∧ r = pRest l g.m g.xs g.t ∧ g.xs.length ≤ g.k ∧ FL.Own 100 5 g.M g.v g.xs.length g.css.flatten ∧ ∃ d, All2 (fun x cs => cs.length = 5 ∧ StR d tw x cs) g.xs g.css)) (fun g => g.m) (fun _ _ _ h hl => ⟨h.1.trans hl, ⟨h.2.1, h.2.2.1, h.2.2.2.1, h.2.2.2.2.1, h.2.2.2.2.2.1, _, stA_le hl (Nat.le_refl _) h.2.2.2.2.2.2.choose_spec⟩⟩) ⟨[], .slice none 0 0, [], [], i, t, m⟩ (.cons Z (.cons Z (.cons Z (.cons Z (.cons Z (.cons Z (.nil _))))))) Z ⟨Le.refl _, ⟨ht, Nat.le_refl _, hq, by simp, .nil, 0, .nil⟩⟩ ?_
 intro g s1 I1
 obtain ⟨xs, v, M, css, k1, t1, m⟩ := g
 obtain ⟨ht1, hk1, hq, hxk, hO, d1, hA⟩ : TA l ts k1 t1 ∧ i ≤ k1 ∧ r = pRest l m xs t1 ∧ xs.length ≤ k1 ∧ FL.Own 100 5 M v xs.length css.flatten ∧ ∃ d, All2 (fun x cs => cs.length = 5 ∧ StR d s1 x cs) xs css := I1.2
 have hl1 := ht1.lt
 obtain ⟨m, rfl⟩ := rest_pos hq hr
 rw [pRest] at hq
 obtain ⟨A1, c1, rfl, hz1, hz2⟩ := Own.slice hO
 dsimp only
 refine Zs <| Sr <| Zqm Z Z <| Zqm Z Z <| Jc Z Z Z (risf_ac l ts D _ _ _ n c k1 t1 (hT.le I1.1) hz ht1 [125] (by decide +kernel)) ?_
 rintro _ _ s2 h2 ⟨rfl, (⟨hb2, rfl⟩ | ⟨hb2, rfl⟩)⟩
 ·
  rw [if_pos hb2] at hq
  refine ZqnT Z Z <| Nt <| Zz Z <| Zl <| Zv <| Zv <| Zd <| Zt <| Sr <| Zqm Z Z <| Zqm Z Z <| JO_q (QE_addN 1 Z Z O) Z <| Zqa Z Z <| Zqa Z Z <| At Z Z <| Zo <| ?_
  refine retQ_mk [] _ (.inr Z) (.tmp Z (.tmp Z (.tmp Z (.nil)))) Z (I1.1.t h2) (fun sR hS2 => ?_)
  exact ⟨_, rfl, fun s2 hs2 hp => .inl ⟨xs, _, _, _, rfl, ⟨_, _, _, _, rfl, Own.rows (R := StR d1) hO hp (stA_le (h2.t (hS2.t hs2)) (Nat.le_refl _) hA) rfl⟩, (ht1.isN hb2), O, hq⟩⟩
 rw [if_neg (bNe hb2)] at hq
 refine ZqnF Z Z <| Nt <| Zy Z <| Zk <| Zt <| Zp <| Sr <| Zqm Z Z <| Zqm Z Z <| Jc Z Z Z (ihT D _ _ _ n c k1 t1 _ (hT.le (I1.1.t h2)) hz ht1 O (andOut hq hr)) ?_
 rintro _ _ s3 h3 ⟨rfl, (⟨x3, _, k3, t3, rfl, ⟨d3, P3, p3, o3, Q3, q3, u3, R3, m3, e3, rfl, hE3, hB3, hL3, hn3⟩, ht3, hk3, he3⟩ | ⟨x3, _, k3, t3, rfl, ⟨d3, P3, p3, o3, Q3, q3, u3, R3, m3, e3, rfl, hE3, hB3, hL3, hn3⟩, ht3, hk3, he3⟩)⟩
 ·
  have hl3 := ht3.lt
  try dsimp only at he3
  rw [he3] at hq
  simp only [okPR, erPR] at hq
  refine Zqm Z Z <| Zqx Z Z Z <| Zqx Z Z Z <| Zqx Z Z Z <| JO_allocZ Z [_, _, _, _, _] Z Z ?_
  intro β4 s4 h4
  refine Wt 0 [_, _, _, _, _] Y9 <| Zqa Z Z <| At Z Z <| Zs <| Sr <| Zqm Z Z <| ZqnT Z Z <| Nt <| Zz Z <| Zk <| Zt <| Sr <| Zqm Z Z <| JO_q (QE_ldA 0 [_, _, _, _, _] Z Z Z Z Z) Z <| JO_bs [(_, _)] [_, _, _, _, _] Z Z Z Z Z Z Z Z Z ?_
  intro β5 s5 h5 hc5
  refine JO_app (sz := 5) [_] M L Z Z Z Z Z Z Z hO (Row.of_cells (hc5.le (Lr D)) Z Z) ⟨by simp [ti100]; omega, by omega⟩ Z ?_
  intro v9 M9 s6 h6 oq
  simp only [cQ9, nQ9]
  refine At Z Z <| Zr <| Zqm Z Z <| Zqa Z Z <| Zn <| Zb <| ?_
  refine thenQ_n ⟨⟨xs ++ [x3], v9, M9, css ++ [[.int .i64 x3.kind, St x3.name, .slice P3 p3 o3, .slice Q3 q3 u3, .slice R3 m3 e3]], k3, t3, m⟩, [_], kp, Z, ⟨(I1.1.t h2|>.t h3|>.t h4|>.t h5|>.t h6), ⟨ht3, (by show i ≤ k3; omega), hq, (by show (xs ++ [x3]).length ≤ k3; rw [List.length_append]; simp only [List.length_cons, List.length_nil]; omega), own_snoc oq, d1 + d3 + 1, all2_snoc (stA_le (h2.t h3|>.t h4|>.t h5|>.t h6) O hA) (by have h := st_row (hE3.le (h4.t h5|>.t h6)) (hB3.le (h4.t h5|>.t h6)) (hL3.le (h4.t h5|>.t h6)) hn3; exact ⟨h.1, h.2.up O⟩)⟩⟩, (by show m < m + 1; omega)⟩
 have hl3 := ht3.lt
 try dsimp only at he3
 rw [he3] at hq
 simp only [okPR, erPR] at hq
 refine Zqm Z Z <| Zqx Z Z Z <| Zqx Z Z Z <| Zqx Z Z Z <| JO_allocZ Z [_, _, _, _, _] Z Z ?_
 intro β7 s7 h7
 refine Wt 0 [_, _, _, _, _] Y9 <| Zqa Z Z <| At Z Z <| Zs <| Sr <| Zqm Z Z <| ZqnF Z Z <| Nt <| Zy Z <| Sr <| Zqm Z Z <| Zqm Z Z <| Zqa Z Z <| Zqa Z Z <| At Z Z <| Zo <| Zu <| Zc <| Zu <| Zc <| Zu <| ?_
 refine retQ_mk [_] _ (.inr Z) (.tmp Z (.tmp Z (.tmp Z (.nil)))) Z (I1.1.t h2|>.t h3|>.t h7) (fun sR hS2 => ?_)
 exact ⟨_, rfl, fun s2 hs2 hp => .inr ⟨xs, _, _, _, rfl, ⟨_, _, _, _, rfl, Own.rows (R := StR d1) hO hp (stA_le (h2.t h3|>.t h7|>.t (hS2.t hs2)) (Nat.le_refl _) hA) rfl⟩, ht3, O, hq⟩⟩
theorem rgrd_st (l : Str) (ts : List RT) (N : Nat) (ihB : RCB l ts N) : RCG l ts (N + 1) := by
 intro kd
 intro D L s A n c i t m hT hz ht hN hr
 refine AC.pubW (R := fun v s => RX l ts i StV (pGrd l m kd t) s v) ?_
 try dsimp only at hr
 obtain ⟨r, hq⟩ : ∃ r, r = pGrd l m kd t := ⟨_, rfl⟩
 rw [← hq] at hr ⊢
 have hn := hT.1
 have hn2 := hT.2.1
 have hn3 := hT.2.2.1
 have hi0 := ht.lt
 obtain ⟨m, rfl⟩ := grd_pos hq hr
 rw [grd_un] at hq
 have ihE := (exp_ref l ts N).1
 refine AC_enter (TT := TT) (fn := Tryz.f123) TT_ok Tryz.func123 V Z Tryz.ntmps123 Z (rs := [.cell 6 100, .tmp 7, .tmp 8]) Z [(0, _), (1, _), (2, _)] Z <| Sr <| JO_allocZ Z [_, _, _, _, _] Z Z ?_
 intro β1 s1 h1
 refine Zqa Z Z <| At Z Z <| Sr <| Zqm Z Z <| JO_q (QE_build [(_, _)] [_, _, _, _, _] Z Z Z Z Z Z) Z <| JO_allocZ Z [_, _, _, _, _] Z Z ?_
 intro β2 s2 h2
 refine Wt 0 [_, _, _, _, _] Y9 <| Nt <| Zs <| Sr <| Zqm Z Z <| Zqm Z Z <| Jc Z Z Z (risf_ac l ts D _ _ _ n c i t (hT.le (h1.t h2)) hz ht [40] (by decide +kernel)) ?_
 rintro _ _ s3 h3 ⟨rfl, (⟨hb3, rfl⟩ | ⟨hb3, rfl⟩)⟩
 ·
  rw [expY hb3] at hq
  simp only [exp0, okPR, erPR] at hq
  refine ZqnT Z Z <| Nt <| Zz Z <| Zk <| Zt <| Sr <| Zqm Z Z <| Zqm Z Z <| JO_q (QE_addN 1 Z Z O) Z <| Jc Z Z Z (ihE D _ _ _ n c (i + 1) (advP l t) _ (hT.le (h1.t h2|>.t h3)) hz (ht.isN hb3) O (andOut hq hr)) ?_
  rintro _ _ s4 h4 ⟨rfl, (⟨x4, _, k4, t4, rfl, ⟨d4, A4, n4, c4, rfl, hE4, hu4, hn4⟩, ht4, hk4, he4⟩ | ⟨x4, _, k4, t4, rfl, ⟨d4, A4, n4, c4, rfl, hE4, hu4, hn4⟩, ht4, hk4, he4⟩)⟩
  ·
   have hl4 := ht4.lt
   try dsimp only at he4
   rw [he4] at hq
   simp only [okPR, erPR] at hq
   refine Zqm Z Z <| Zqx Z Z Z <| Zqx Z Z Z <| Zqx Z Z Z <| JO_allocZ Z [_, _, _, _, _] Z Z ?_
   intro β5 s5 h5
   refine Wt 0 [_, _, _, _, _] Y9 <| Zqa Z Z <| At Z Z <| Zs <| Sr <| Zqm Z Z <| ZqnT Z Z <| Zqm Z Z <| Zg Z Z <| Zqm Z Z <| Zg Z Z <| Zqm Z Z <| Zg Z Z <| Jc Z Z Z (risf_ac l ts D _ _ _ n c k4 t4 (hT.le (h1.t h2|>.t h3|>.t h4|>.t h5)) hz ht4 [41] (by decide +kernel)) ?_
   rintro _ _ s6 h6 ⟨rfl, (⟨hb6, rfl⟩ | ⟨hb6, rfl⟩)⟩
   ·
    rw [expY hb6] at hq
    refine Zg Z Z <| ZqnT Z Z <| ZqF Z Z Z <| Nt <| Zz Z <| Zk <| Zt <| Zs <| Sr <| Zqm Z Z <| Zqm Z Z <| JO_q (QE_addN 1 Z Z O) Z <| Jc Z Z Z (risf_ac l ts D _ _ _ n c (k4 + 1) (advP l t4) (hT.le (h1.t h2|>.t h3|>.t h4|>.t h5|>.t h6)) hz (ht4.isN hb6) [123] (by decide +kernel)) ?_
    rintro _ _ s7 h7 ⟨rfl, (⟨hb7, rfl⟩ | ⟨hb7, rfl⟩)⟩
    ·
     rw [expY hb7] at hq
     simp only [exp0, okPR, erPR] at hq
     refine ZqnT Z Z <| Nt <| Zz Z <| Zk <| Zt <| Sr <| JO_q (QE_ldA 0 [_, _, _, _, _] Z Z Z Z Z) Z <| JO_bs [(_, _)] [_, _, _, _, _] Z Z Z Z Z Z Z Z Z ?_
     intro β8 s8 h8 hc8
     refine Wb Y5 <| Wt 1 [_, _, _, _, _] Y9 <| Nt <| Sr <| Zqm Z Z <| Zqm Z Z <| JO_q (QE_addN 2 Z Z O) Z <| Jc Z Z Z (ihB D _ _ _ n c ((k4 + 1) + 1) (advP l (advP l t4)) _ (hT.le (h1.t h2|>.t h3|>.t h4|>.t h5|>.t h6|>.t h7|>.t h8)) hz ((ht4.isN hb6).isN hb7) O (andOut hq hr)) ?_
     rintro _ _ s9 h9 ⟨rfl, (⟨x9, _, k9, t9, rfl, ⟨d9, A9, n9, c9, rfl, hE9⟩, ht9, hk9, he9⟩ | ⟨x9, _, k9, t9, rfl, ⟨d9, A9, n9, c9, rfl, hE9⟩, ht9, hk9, he9⟩)⟩
     ·
      have hl9 := ht9.lt
      try dsimp only at he9
      rw [he9] at hq
      simp only [okPR, erPR] at hq
      refine Zqm Z Z <| Zqx Z Z Z <| Zqx Z Z Z <| Zqx Z Z Z <| Wb Y5 <| Wt 1 [_, _, _, _, _] Y9 <| Zqa Z Z <| At Z Z <| Sr <| JO_q (QE_ldA 1 [_, _, _, _, _] Z Z Z Z Z) Z <| Zqm Z Z <| Zqm Z Z <| Wt 2 [_, _, _, _, _] Y9 <| Zqa Z Z <| At Z Z <| Zo <| ?_
      refine retQ_mk [_, _, _] L (.inr Z) (.agg (us := [_, _, _, _, _]) 2 Z Z Z Z Z (.tmp Z (.tmp Z (.nil)))) Z (h1.t h2|>.t h3|>.t h4|>.t h5|>.t h6|>.t h7|>.t h8|>.t h9) (fun sR hS2 => ?_)
      exact ⟨[], rfl, fun s2 hs2 hp => .inl ⟨.mk kd [] [x4] x9 [], _, _, _, rfl, ⟨d4 + d9 + 1, _, 1, 1, A9, n9, c9, none, 0, 0, rfl, (ex_one (hc8.le (h9.t (hS2.t hs2))) (hE4.le (h5.t h6|>.t h7|>.t h8|>.t h9|>.t (hS2.t hs2))) hu4 hn4).up O, (hE9.le ((Lr D).t (hS2.t hs2))).up O, stms_nil _ _, nilz⟩, ht9, O, hq⟩⟩
     have hl9 := ht9.lt
     try dsimp only at he9
     rw [he9] at hq
     simp only [okPR, erPR] at hq
     refine Zqm Z Z <| Zqx Z Z Z <| Zqx Z Z Z <| Zqx Z Z Z <| Wb Y5 <| Wt 1 [_, _, _, _, _] Y9 <| Zqa Z Z <| At Z Z <| Sr <| JO_q (QE_ldA 1 [_, _, _, _, _] Z Z Z Z Z) Z <| Zqm Z Z <| Zqm Z Z <| Wt 2 [_, _, _, _, _] Y9 <| Zqa Z Z <| At Z Z <| Zo <| ?_
     refine retQ_mk [_, _, _] L (.inr Z) (.agg (us := [_, _, _, _, _]) 2 Z Z Z Z Z (.tmp Z (.tmp Z (.nil)))) Z (h1.t h2|>.t h3|>.t h4|>.t h5|>.t h6|>.t h7|>.t h8|>.t h9) (fun sR hS2 => ?_)
     exact ⟨[], rfl, fun s2 hs2 hp => .inr ⟨.mk kd [] [x4] x9 [], _, _, _, rfl, ⟨d4 + d9 + 1, _, 1, 1, A9, n9, c9, none, 0, 0, rfl, (ex_one (hc8.le (h9.t (hS2.t hs2))) (hE4.le (h5.t h6|>.t h7|>.t h8|>.t h9|>.t (hS2.t hs2))) hu4 hn4).up O, (hE9.le ((Lr D).t (hS2.t hs2))).up O, stms_nil _ _, nilz⟩, ht9, O, hq⟩⟩
    rw [expN hb7] at hq
    simp only [okPR, erPR] at hq
    refine ZqnF Z Z <| Nt <| Zy Z <| Sr <| JO_q (QE_ldA 1 [_, _, _, _, _] Z Z Z Z Z) Z <| Zqm Z Z <| JO_q (QE_addN 1 Z Z O) Z <| Wt 2 [_, _, _, _, _] Y9 <| Zqa Z Z <| At Z Z <| Zo <| Zu <| ?_
    refine retQ_mk [_, _, _] L (.inr Z) (.agg (us := [_, _, _, _, _]) 2 Z Z Z Z Z (.tmp Z (.tmp Z (.nil)))) Z (h1.t h2|>.t h3|>.t h4|>.t h5|>.t h6|>.t h7) (fun sR hS2 => ?_)
    exact ⟨[], rfl, fun s2 hs2 hp => .inr ⟨.mk kd [] [] [] [], _, _, _, rfl, ⟨0, none, 0, 0, none, 0, 0, none, 0, 0, rfl, exs_nil _ _, stms_nil _ _, stms_nil _ _, nilz⟩, (ht4.isN hb6), O, hq⟩⟩
   rw [expN hb6] at hq
   simp only [okPR, erPR] at hq
   refine Zg Z Z <| ZqnF Z Z <| ZqF Z Z Z <| Nt <| Zy Z <| Sr <| JO_q (QE_ldA 1 [_, _, _, _, _] Z Z Z Z Z) Z <| Zqm Z Z <| Wt 2 [_, _, _, _, _] Y9 <| Zqa Z Z <| At Z Z <| Zo <| Zu <| ?_
   refine retQ_mk [_, _, _] L (.inr Z) (.agg (us := [_, _, _, _, _]) 2 Z Z Z Z Z (.tmp Z (.tmp Z (.nil)))) Z (h1.t h2|>.t h3|>.t h4|>.t h5|>.t h6) (fun sR hS2 => ?_)
   exact ⟨[], rfl, fun s2 hs2 hp => .inr ⟨.mk kd [] [] [] [], _, _, _, rfl, ⟨0, none, 0, 0, none, 0, 0, none, 0, 0, rfl, exs_nil _ _, stms_nil _ _, stms_nil _ _, nilz⟩, ht4, O, hq⟩⟩
  have hl4 := ht4.lt
  try dsimp only at he4
  rw [he4] at hq
  simp only [okPR, erPR] at hq
  refine Zqm Z Z <| Zqx Z Z Z <| Zqx Z Z Z <| Zqx Z Z Z <| JO_allocZ Z [_, _, _, _, _] Z Z ?_
  intro β10 s10 h10
  refine Wt 0 [_, _, _, _, _] Y9 <| Zqa Z Z <| At Z Z <| Zs <| Sr <| Zqm Z Z <| ZqnF Z Z <| Zqm Z Z <| Wf Y4 <| Wf Y4 <| Wf Y4 <| Wf Y4 <| ZqT Z Z Z <| Nt <| Zy Z <| Sr <| JO_q (QE_ldA 1 [_, _, _, _, _] Z Z Z Z Z) Z <| Zqm Z Z <| Wt 2 [_, _, _, _, _] Y9 <| Zqa Z Z <| At Z Z <| Zo <| Zu <| ?_
  refine retQ_mk [_, _, _] L (.inr Z) (.agg (us := [_, _, _, _, _]) 2 Z Z Z Z Z (.tmp Z (.tmp Z (.nil)))) Z (h1.t h2|>.t h3|>.t h4|>.t h10) (fun sR hS2 => ?_)
  exact ⟨[], rfl, fun s2 hs2 hp => .inr ⟨.mk kd [] [] [] [], _, _, _, rfl, ⟨0, none, 0, 0, none, 0, 0, none, 0, 0, rfl, exs_nil _ _, stms_nil _ _, stms_nil _ _, nilz⟩, ht4, O, hq⟩⟩
 rw [expN hb3] at hq
 simp only [okPR, erPR] at hq
 refine ZqnF Z Z <| Nt <| Zy Z <| Sr <| JO_q (QE_ldA 0 [_, _, _, _, _] Z Z Z Z Z) Z <| Zqm Z Z <| Wt 1 [_, _, _, _, _] Y9 <| Zqa Z Z <| At Z Z <| Zo <| Zu <| ?_
 refine retQ_mk [_, _] L (.inr Z) (.agg (us := [_, _, _, _, _]) 1 Z Z Z Z Z (.tmp Z (.tmp Z (.nil)))) Z (h1.t h2|>.t h3) (fun sR hS2 => ?_)
 exact ⟨[], rfl, fun s2 hs2 hp => .inr ⟨.mk kd [] [] [] [], _, _, _, rfl, ⟨0, none, 0, 0, none, 0, 0, none, 0, 0, rfl, exs_nil _ _, stms_nil _ _, stms_nil _ _, nilz⟩, ht, O, hq⟩⟩
end Go.Proofs.YtiljephghfngnaaGreatDoor
namespace Go.FL
open Go Go.RowKit
variable {P : Program} {TT : TyTab} {D n : Nat} {Q : APost} {fr : Fr} {L : Hl} {s : World} {ops : Array Oper} {rest : List Oper} {d ty : Nat} {pos : String} {af : Array Edge}
theorem Ev_appU {t e m c k sz b0 o0 : Nat} {x y : Operand} {ti te : TI} {A1 : Option Addr} {news xs : List Value} (hT : TabOK P TT) (hx : lk fr x = some (.slice (some ⟨b0, o0, none⟩) k k)) (hy : lk fr y = some (.slice A1 m c)) (ht : tlook TT t = some ti) (hk : ti.kind = .sl e) (he : tlook TT e = some te) (hsz : te.size = sz)
    (hC : CellsAt s b0 o0 xs) (hl : xs.length = k * sz) (hR : Row s A1 m sz news) (hm : 0 < m) (h63 : (k + m) * te.bytes ≤ 140737488355328 ∧ k + m ≤ 9223372036854775807) (ho : OKL D L s) :
    ∃ g cap ys s', Ev P TT D fr (.call { callee := .builtin .append, args := #[x, y], argTypes := #[t, t] }) ty L s (.value (.slice (some ⟨g, 0, none⟩) (k + m) cap)) ((g, cb (xs ++ news ++ ys) e) :: L) s' ∧ OKL D ((g, cb (xs ++ news ++ ys) e) :: L) s' ∧ Le D s s' ∧ k + m ≤ cap ∧ cap ≤ 9223372036854775807 := by
  have hok := hT.at_ ht
  obtain ⟨k1, k2, _⟩ := hok
  rw [hk] at k2
  simp only [TK.fits] at k2
  rw [k2] at k1
  have hte := hT.at_ he
  obtain ⟨i, i1, i2, i3, i4⟩ := info_of hte
  have hpos : 0 < te.size := hte.2.2.2.2.2.1
  have hzs : te.zero.cells.size = te.size := by rw [zero_cells hte]; simpa using hte.2.2.2.1
  have h0 : ∃ b off, A1 = some ⟨b, off, none⟩ ∧ CellsAt s b off news := by
    have hl : 0 < news.length := by rw [hR.1, ← hsz]; exact Nat.mul_pos hm hpos
    obtain ⟨b, off, h1, _⟩ := hR.2.2 0 news[0] (List.getElem?_eq_getElem hl)
    refine ⟨b, off, h1, fun j u hj => ?_⟩
    obtain ⟨b', off', h1', h2⟩ := hR.2.2 j u hj
    rw [h1] at h1'
    injection h1' with h1'; injection h1' with e1 e2; subst e1; subst e2
    exact h2
  obtain ⟨b, off, rfl, hcells⟩ := h0
  obtain ⟨v', w', hrun, hown, hgr⟩ := run_append_arg_grows (P := P) (fill L s) t ty e i te.zero sz te.bytes k1 i1 i4 (i2.trans hsz) i3 (by rw [hzs, hsz]) (by rw [← hsz]; exact hpos) ⟨b0, o0, none⟩ k k xs hl (fun j u hj => by rw [add_lit]; exact fill_cell ho (hC j u hj)) ⟨b, off, none⟩ m c news hR.1
    (fun j u hj => by rw [add_lit]; exact fill_cell ho (hcells j u hj)) O (by simpa [maxLen] using h63.2) h63.1
  obtain ⟨h1, h2⟩ := hown
  rcases h2 with ⟨_, h0⟩ | ⟨g, cap, cur, rfl, hge, hg, hnc, hcm, hcs, ht2⟩
  · omega
  rw [fill_size] at hge
  have hsize := hgr.size
  rw [fill_size] at hsize
  have hcur : cur = (xs ++ news ++ cur.toList.drop ((k + m) * sz)).toArray := by
    rw [← ht2, List.take_append_drop]
  have hlt : ∀ x ∈ L, x.1 < s.heap.size := fun x hx => ho.lt hx
  obtain ⟨r1, r2, r3⟩ := of_grown (D := D) (L' := (g, cb (xs ++ news ++ cur.toList.drop ((k + m) * sz)) e) :: L) ho (hgr.os.trans (fill_os _ _)) (hgr.tape.trans (fill_tape _ _)) (hgr.output.trans (fill_output _ _)) hsize
    (by
      rw [List.map_cons, List.nodup_cons]
      refine ⟨fun hm2 => ?_, ho.nd⟩
      obtain ⟨x, hx, hx2⟩ := List.mem_map.1 hm2
      have := hlt x hx
      simp only at hx2
      omega)
    (fun x hx => by
      rcases List.mem_cons.1 hx with rfl | hx
      · rw [hg, cb, ← hcur]
      · rw [hgr.block x.1 (by rw [fill_size]; exact hlt x hx) (by simp), fill_mem ho hx])
    (fun x hx => by
      rcases List.mem_cons.1 hx with rfl | hx
      · exact .inr hge
      · exact .inl (List.mem_map.2 ⟨x, hx, rfl⟩))
    (fun j hj hn => by rw [hgr.block j (by rw [fill_size]; exact hj) (by simp), fill_other hn])
  refine ⟨g, cap, _, _, fun hT ho dst pos af g ρ hρ => ⟨?_, r2⟩, r2, r3, hnc, by simpa [maxLen] using hcm⟩
  rw [← r1]
  simp only [execOp, resolve, invoke, builtin, Sem.run_bind, Sem.run_pure, Result.andThen_ok, List.map_toArray, List.map_cons, List.map_nil, hρ x _ hx, hρ y _ hy, hrun]
theorem CellsAt.pre {b off : Nat} {xs ys : List Value} (h : CellsAt s b off (xs ++ ys)) : CellsAt s b off xs := fun j v hj => h j v (by rw [List.getElem?_append_left (List.getElem?_eq_some_iff.1 hj).1]; exact hj)
theorem JO_appN {t e m c k sz b0 o0 : Nat} {x y : Operand} {ti te : TI} {A1 : Option Addr} {news xs : List Value} (hx : lk fr x = some (.slice (some ⟨b0, o0, none⟩) k k)) (hy : lk fr y = some (.slice A1 m c)) (ht : tlook TT t = some ti) (hk : ti.kind = .sl e) (he : tlook TT e = some te) (hsz : te.size = sz)
    (hC : CellsAt s b0 o0 xs) (hl : xs.length = k * sz) (hR : Row s A1 m sz news) (hm : 0 < m) (h63 : (k + m) * te.bytes ≤ 140737488355328 ∧ k + m ≤ 9223372036854775807) (hd : Nat.blt d n = true)
    (kk : ∀ g cap s', Le D s s' → CellsAt s' g 0 (xs ++ news) → k + m ≤ cap → cap ≤ 9223372036854775807 → JO P TT D n ops Q rest ((d, .slice (some ⟨g, 0, none⟩) (k + m) cap) :: fr) L s') :
    JO P TT D n ops Q (⟨some d, .call { callee := .builtin .append, args := #[x, y], argTypes := #[t, t] }, ty, pos, af, none⟩ :: rest) fr L s := fun hT a hr ho => by
  obtain ⟨g, cap, ys, s', h1, h2, h3, h4, h5⟩ := Ev_appU (ty := ty) hT hx hy ht hk he hsz hC hl hR hm h63 ho
  obtain ⟨d1, d2, d3⟩ := drop_own (A := [(g, cb (xs ++ news ++ ys) e)]) (B := L) h2
  refine JO_ev (L' := L) (s' := fill [(g, cb (xs ++ news ++ ys) e)] s') hd (fun hT _ dst pos af g2 ρ hρ => ⟨?_, d2⟩) (kk g cap _ (h3.trans d3) (CellsAt.pre (cells_drop h2)) h4 h5) hT a hr ho
  rw [← d1]
  exact (h1 hT ho dst pos af g2 ρ hρ).1
end Go.FL
