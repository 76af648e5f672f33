/- The law SyntaxLayoutDoesNotMatter: for every input it returns true, and its arguments read behind the call az they read before; what the package-level variables of the library hold is tied tgt the text of the program. Part 7 of the proof of syntaxLayoutDoesNotMatter_holds: texts S20, Ye, Sx, Sy, Sz, Yb, S21, It, S22, Rj, Rt, Rv, Q29. -/
import Derived.Test.YtiljephghfngnaaGreatDoorQ29x6
import Derived.ProofKit
import Derived.OpenShut
import Derived.SizedLaws
import Derived.Deep.Slices
import Derived.Test.YtiljephghfngnaaGreatDoorRows
import Derived.Lay
import Derived.Lib.LaidTab
import Derived.Stop.LaidErr
import Derived.SevenTiedAt
import Derived.Test.YtiljephghfngnaaGreatDoorCards
import Derived.Test.YtiljephghfngnaaGreatDoorTie
import Derived.ChangeMaps5
set_option linter.unusedVariables false
set_option linter.unusedSimpArgs false
set_option linter.unnecessarySimpa false
set_option maxRecDepth 100000
set_option maxHeartbeats 8000000
namespace Go.Proofs.YtiljephghfngnaaGreatDoor
open Go.FL
attribute [local irreducible] JC JO JA JB thenQ blockQ retQ AC fill CellsAt QE Ev Mid
def RtR (_ : World) (x : RT) (cs : List Value) : Prop := cs = rtc x ∧ x.text.length ≤ 9223372036854775807 ∧ U32 x.num
def Rts (s : World) (A : Option Addr) (n c : Nat) (l : List RT) : Prop := Sl 4 RtR s A n c l
theorem Rts.le {D : Nat} {s s' : World} {A : Option Addr} {n c : Nat} {l : List RT} (h : Rts s A n c l) (hl : Le D s s') : Rts s' A n c l := Sl.le (fun _ _ (h : RtR s _ _) => (h : RtR s' _ _)) h hl
theorem flat_snoc (css : List (List Value)) (cs : List Value) : (css ++ [cs]).flatten = css.flatten ++ cs := by simp
def gpB (b : Bool) (c : UInt8) : Bool := (b && decide (c ≠ 10)) || decide (c = 32) || decide (c = 9) || decide (c = 10) || decide (c = 35)
def gpAt (b : Bool) (l : Str) (k : Nat) : Bool := match l[k]? with
  | some d => gpB b d
  | none => false
theorem gp_no {b : Bool} {l : Str} {k : Nat} (h : ¬ k < l.length) : ¬ gpAt b l k = true := by rw [gpAt, List.getElem?_eq_none O]; simp
theorem u8n {c : UInt8} {n : Nat} (hn : n < 256) : (c = UInt8.ofNat n) = ((c.toNat : Int) = (n : Int)) := propext (byte_eq hn).symm
theorem gp_iff {b : Bool} {l : Str} {k : Nat} {c : UInt8} (h : l[k]? = some c) : gpAt b l k = true ↔ (b = true ∧ (c.toNat : Int) ≠ 10) ∨ (c.toNat : Int) = 32 ∨ (c.toNat : Int) = 9 ∨ (c.toNat : Int) = 10 ∨ (c.toNat : Int) = 35 := by
  have e : gpAt b l k = gpB b c := by rw [gpAt, h]
  have k10 : (c = 10) = ((c.toNat : Int) = 10) := u8n (n := 10) (by decide)
  have k32 : (c = 32) = ((c.toNat : Int) = 32) := u8n (n := 32) (by decide)
  have k9 : (c = 9) = ((c.toNat : Int) = 9) := u8n (n := 9) (by decide)
  have k35 : (c = 35) = ((c.toNat : Int) = 35) := u8n (n := 35) (by decide)
  rw [e, gpB]
  simp only [Bool.or_eq_true, Bool.and_eq_true, decide_eq_true_eq, k10, k32, k9, k35, ne_eq, or_assoc]
theorem gp_T {l : Str} {k : Nat} {c : UInt8} {b : Bool} (h : l[k]? = some c) (hb : b = true) : gpAt b l k = true := by
  rw [gp_iff h]
  by_cases h10 : (c.toNat : Int) = 10
  · exact .inr (.inr (.inr (.inl h10)))
  · exact .inl ⟨hb, h10⟩
theorem gp_F {l : Str} {k : Nat} {c : UInt8} {b : Bool} (h : l[k]? = some c) (hb : b = false) : gpAt b l k = true ↔ ((c.toNat : Int) = 32 ∨ (c.toNat : Int) = 9 ∨ (c.toNat : Int) = 10 ∨ (c.toNat : Int) = 35) := by
  rw [gp_iff h, hb]; simp
theorem gp_in {l : Str} {k : Nat} {b : Bool} (h : gpAt b l k = true) : ∃ c, l[k]? = some c := by
  unfold gpAt at h
  cases hc : l[k]? with
  | none => rw [hc] at h; cases h
  | some c => exact ⟨c, rfl⟩
theorem gp_hash {l : Str} {k : Nat} {c : UInt8} {b : Bool} (h : l[k]? = some c) (hc : (c.toNat : Int) = 35) : k + 1 + skL true (l.drop (k + 1)) = k + skL b (l.drop k) := by
  obtain rfl : c = 35 := (byte_eq (n := 35) (by decide)).1 hc
  rw [drop_at h]
  cases b
  · rw [skL, if_neg (by decide), if_pos rfl]; omega
  · rw [skL, if_neg (by decide)]; omega
theorem gp_nl {l : Str} {k : Nat} {c : UInt8} {b : Bool} (h : l[k]? = some c) (hc : (c.toNat : Int) = 10) : k + 1 + skL false (l.drop (k + 1)) = k + skL b (l.drop k) := by
  obtain rfl : c = 10 := (byte_eq (n := 10) (by decide)).1 hc
  rw [drop_at h]
  cases b
  · rw [skL, if_pos (by decide)]; omega
  · rw [skL, if_pos rfl]; omega
theorem gp_other {l : Str} {k : Nat} {c : UInt8} {b : Bool} (h : l[k]? = some c) (h1 : ¬ (c.toNat : Int) = 35) (h2 : ¬ (c.toNat : Int) = 10) (hg : gpAt b l k = true) : k + 1 + skL b (l.drop (k + 1)) = k + skL b (l.drop k) := by
  rw [drop_at h]
  cases b
  · have h3 := (gp_F h rfl).1 hg
    have h4 : c = 32 ∨ c = 9 ∨ c = 10 := by
      rcases h3 with h3 | h3 | h3 | h3
      · exact .inl ((byte_eq (n := 32) (by decide)).1 h3)
      · exact .inr (.inl ((byte_eq (n := 9) (by decide)).1 h3))
      · exact absurd h3 h2
      · exact absurd h3 h1
    rw [skL, if_pos h4]; omega
  · rw [skL, if_neg (by rintro rfl; exact h2 (by decide))]; omega
theorem gp_end {l : Str} {k : Nat} {b : Bool} (h : ¬ gpAt b l k = true) (hk : k ≤ l.length) : k + skL b (l.drop k) = k ∧ (b = true → k = l.length) := by
  by_cases hlt : k < l.length
  · obtain ⟨c, hc⟩ : ∃ c, l[k]? = some c := ⟨_, List.getElem?_eq_getElem hlt⟩
    have h3 : b = false := by
      cases b
      · rfl
      · exact absurd (gp_T hc rfl) h
    subst h3
    have h4 := fun h5 => h ((gp_F hc rfl).2 h5)
    refine ⟨?_, fun h => by cases h⟩
    rw [drop_at hc, skL, if_neg (by rintro (h | h | h) <;> subst h <;> exact h4 (by decide)), if_neg (by rintro h; subst h; exact h4 (by decide))]; rfl
  · have e : k = l.length := by omega
    refine ⟨?_, fun _ => e⟩
    rw [List.drop_eq_nil_of_le O]; cases b <;> rfl
theorem rt_ok (s : Str) (a : Nat) (ha : a ≤ s.length) : a + (rtA s a).text.length ≤ s.length ∧ U32 (rtA s a).num ∧ (¬ (rtA s a).kind ≤ 1 → 0 < (rtA s a).text.length) := by
  obtain ⟨h1, h2, h3⟩ := rtS_ok (s.drop a)
  rw [List.length_drop] at h1
  exact ⟨by show a + (rtS (s.drop a)).2.1.length ≤ _; omega, h2, h3⟩
theorem Own.rts {A : Hl} {Ad : Option Addr} {n c : Nat} {l : List RT} {s : World} (h : FL.Own 42 4 A (.slice Ad n c) n (l.map rtc).flatten) (hp : Pub A s) (hl : ∀ x ∈ l, x.text.length ≤ 9223372036854775807 ∧ U32 x.num) (hn : n = l.length) : Rts s Ad n c l := by
  refine Own.rows (l := l) (css := l.map rtc) h hp ?_ hn
  clear h hn
  induction l with
  | nil => exact All2.nil
  | cons x r ih => exact All2.cons ⟨rfl, rfl, hl x (List.mem_cons_self ..)⟩ (ih fun y hy => hl y (List.mem_cons_of_mem _ hy))
theorem tokens_ac (D : Nat) (L : Hl) (s : World) (l : List UInt8) (hl : l.length ≤ 1100000) : AC Tryz.prog D 16 [St l] L s fun v L' s' => ∃ M', L' = M' ++ L ∧ ∀ s2, Le D s' s2 → Pub M' s2 → ∃ A n c' ts, v = .slice A n c' ∧ Rts s2 A n c' ts ∧ RL l 0 ts := by
 refine AC_enter (TT := TT) (fn := Tryz.f16) TT_ok Tryz.func16 V Z Tryz.ntmps16 Z (rs := [.tmp 2]) Z [(0, _)] Z <| Sr <| At Z Z <| Sr <| At Z Z <| Sr <| At Z Z <| Sr <| At Z Z <| Zp <| ?_
 refine JC_loop (γ := Nat × Value × Hl × List RT) (fun g => [(0, _), (2, _), (3, g.2.1), (4, .int .i64 (g.1 : Int)), (5, .bool false)]) (fun g => g.2.2.1 ++ L) (fun g tw => Le D s tw ∧ (g.1 ≤ l.length ∧ g.2.2.2.length ≤ g.1 ∧ FL.Own 42 4 g.2.2.1 g.2.1 g.2.2.2.length (g.2.2.2.map rtc).flatten ∧ (∀ x ∈ g.2.2.2, x.text.length ≤ 9223372036854775807 ∧ U32 x.num) ∧ ∀ ts, RL l g.1 ts → RL l 0 (g.2.2.2 ++ ts))) (fun g => l.length - g.1) (fun _ _ _ h hl => ⟨h.1.trans hl, h.2⟩) (0, .slice none 0 0, [], []) (.cons Z (.cons Z (.cons Z (.cons Z (.cons Z (.nil _)))))) Z ⟨Le.refl _, ⟨Nat.zero_le _, Nat.le_refl _, Own.nil, (fun x hx => by cases hx), fun ts h => h⟩⟩ ?_
 intro g s1 I1
 obtain ⟨i, vo, Mo, out⟩ := g
 obtain ⟨hi0, hol, hO, hall, hR⟩ := I1.2
 simp only at hi0 hol hO hall hR
 dsimp only
 refine Zp <| Zs <| Zp <| JC_loop (γ := Nat × Bool) (fun q => [(0, _), (2, _), (3, _), (4, .int .i64 (q.1 : Int)), (5, .bool q.2)]) (fun _ => _) (fun q tw => Le D s1 tw ∧ (i ≤ q.1 ∧ q.1 ≤ l.length ∧ q.1 + skL q.2 (l.drop q.1) = gapN l i)) (fun q => l.length - q.1) (fun _ _ _ h hl => ⟨h.1.trans hl, h.2⟩) (i, false) (.cons Z (.cons Z (.cons Z (.cons Z (.cons Z (.nil _)))))) Z ⟨Le.refl _, ⟨Nat.le_refl _, hi0, Z⟩⟩ ?_
 intro q s2 I2
 obtain ⟨e, b⟩ := q
 obtain ⟨he0, he1, he2⟩ := I2.2
 simp only at he0 he1 he2
 dsimp only
 refine Zs ?_
 refine JC_cutB 43 (gpAt b l e = true) ?_ ?_
 ·
  refine Zr <| Zqm Z Z <| Zqm Z Z <| Zqlt2 Z Z Z Z <| Zqlt Z Z Z <| Zqm Z Z <| ?_
  refine JO_caseD (t := 11) Z (fun c4 => ?_) (fun c4 => ?_)
  ·
   refine Zg Z Z ?_
   obtain ⟨ch, hch⟩ : ∃ ch, l[e]? = some ch := ⟨_, List.getElem?_eq_getElem O⟩
   refine Zqm Z Z <| Zg Z Z <| Zqm Z Z <| ?_
   refine JO_case (t := 13) Z (fun c5 => ?_) (fun c5 => ?_)
   ·
    refine Zg Z Z <| Zqm Z Z <| Zg Z Z <| Zqm Z Z <| Zg Z Z <| JO_q (QE_ix Z Z Z Z hch) Z <| Zg Z Z <| Zqne Z Z Z <| Zg Z Z <| ZqT Z Z Z <| Zg Z Z <| Zqm Z Z <| ?_
    refine JO_caseN (t := 19) Z (fun c6 => ?_) (fun c6 => ?_)
    ·
     refine Wf Y4 <| Wf Y4 <| Wf Y4 <| Wf Y4 <| Zg Z Z <| ZqT Z Z Z <| Zg Z Z <| Zqm Z Z <| Wf Y4 <| Wf Y4 <| Wf Y4 <| Wf Y4 <| Zg Z Z <| ZqT Z Z Z <| Zg Z Z <| Zqm Z Z <| Wf Y4 <| Wf Y4 <| Wf Y4 <| Wf Y4 <| Zg Z Z <| ZqT Z Z Z <| Zg Z Z <| Zqm Z Z <| Wf Y4 <| Wf Y4 <| Wf Y4 <| Wf Y4 <| Zg Z Z <| ZqT Z Z Z <| ZqT Z Z Z <| Zn <| ?_
     refine thenQ_n (MidB.mk (Lr D) Sb Z ((decide_eq_true (by first | exact gp_no O | exact gp_T hch As | (rw [gp_F hch As]; omega) | (rw [gp_iff hch]; omega))).symm))
    refine Zg Z Z <| Zqm Z Z <| Zg Z Z <| Zqm Z Z <| Zg Z Z <| JO_q (QE_ix Z Z Z Z hch) Z <| Zg Z Z <| Zqeq Z Z Z <| Zg Z Z <| ZqF Z Z Z <| Zg Z Z <| Zqm Z Z <| ?_
    refine JO_caseD (t := 25) Z (fun c7 => ?_) (fun c7 => ?_)
    ·
     refine Wf Y4 <| Wf Y4 <| Wf Y4 <| Wf Y4 <| Zg Z Z <| ZqT Z Z Z <| Zg Z Z <| Zqm Z Z <| Wf Y4 <| Wf Y4 <| Wf Y4 <| Wf Y4 <| Zg Z Z <| ZqT Z Z Z <| Zg Z Z <| Zqm Z Z <| Wf Y4 <| Wf Y4 <| Wf Y4 <| Wf Y4 <| Zg Z Z <| ZqT Z Z Z <| ZqT Z Z Z <| Zn <| ?_
     refine thenQ_n (MidB.mk (Lr D) Sb Z ((decide_eq_true (by first | exact gp_no O | exact gp_T hch As | (rw [gp_F hch As]; omega) | (rw [gp_iff hch]; omega))).symm))
    refine Zg Z Z <| Zqm Z Z <| Zg Z Z <| Zqm Z Z <| Zg Z Z <| JO_q (QE_ix Z Z Z Z hch) Z <| Zg Z Z <| Zqeq Z Z Z <| Zg Z Z <| ZqF Z Z Z <| Zg Z Z <| Zqm Z Z <| ?_
    refine JO_caseD (t := 31) Z (fun c8 => ?_) (fun c8 => ?_)
    ·
     refine Wf Y4 <| Wf Y4 <| Wf Y4 <| Wf Y4 <| Zg Z Z <| ZqT Z Z Z <| Zg Z Z <| Zqm Z Z <| Wf Y4 <| Wf Y4 <| Wf Y4 <| Wf Y4 <| Zg Z Z <| ZqT Z Z Z <| ZqT Z Z Z <| Zn <| ?_
     refine thenQ_n (MidB.mk (Lr D) Sb Z ((decide_eq_true (by first | exact gp_no O | exact gp_T hch As | (rw [gp_F hch As]; omega) | (rw [gp_iff hch]; omega))).symm))
    refine Zg Z Z <| Zqm Z Z <| Zg Z Z <| Zqm Z Z <| Zg Z Z <| JO_q (QE_ix Z Z Z Z hch) Z <| Zg Z Z <| Zqeq Z Z Z <| Zg Z Z <| ZqF Z Z Z <| Zg Z Z <| Zqm Z Z <| ?_
    refine JO_caseD (t := 37) Z (fun c9 => ?_) (fun c9 => ?_)
    ·
     refine Wf Y4 <| Wf Y4 <| Wf Y4 <| Wf Y4 <| Zg Z Z <| ZqT Z Z Z <| ZqT Z Z Z <| Zn <| ?_
     refine thenQ_n (MidB.mk (Lr D) Sb Z ((decide_eq_true (by first | exact gp_no O | exact gp_T hch As | (rw [gp_F hch As]; omega) | (rw [gp_iff hch]; omega))).symm))
    refine Zg Z Z <| Zqm Z Z <| Zg Z Z <| Zqm Z Z <| Zg Z Z <| JO_q (QE_ix Z Z Z Z hch) Z <| Zg Z Z <| Zqeq Z Z Z <| Zg Z Z <| ZqF Z Z Z <| ZqT Z Z Z <| Zn <| ?_
    refine thenQ_n (MidB.mk (Lr D) Sb Z (decide_eq_decide.2 (by first | exact gp_no O | exact gp_T hch As | (rw [gp_F hch As]; omega) | (rw [gp_iff hch]; omega))))
   refine Wf Y4 <| Wf Y4 <| Wf Y4 <| Wf Y4 <| Zg Z Z <| ZqF Z Z Z <| Zg Z Z <| Zqm Z Z <| Zg Z Z <| Zqm Z Z <| Zg Z Z <| Zqm Z Z <| Zg Z Z <| JO_q (QE_ix Z Z Z Z hch) Z <| Zg Z Z <| Zqeq Z Z Z <| Zg Z Z <| ZqF Z Z Z <| Zg Z Z <| Zqm Z Z <| ?_
   refine JO_caseD (t := 25) Z (fun c10 => ?_) (fun c10 => ?_)
   ·
    refine Wf Y4 <| Wf Y4 <| Wf Y4 <| Wf Y4 <| Zg Z Z <| ZqT Z Z Z <| Zg Z Z <| Zqm Z Z <| Wf Y4 <| Wf Y4 <| Wf Y4 <| Wf Y4 <| Zg Z Z <| ZqT Z Z Z <| Zg Z Z <| Zqm Z Z <| Wf Y4 <| Wf Y4 <| Wf Y4 <| Wf Y4 <| Zg Z Z <| ZqT Z Z Z <| ZqT Z Z Z <| Zn <| ?_
    refine thenQ_n (MidB.mk (Lr D) Sb Z ((decide_eq_true (by first | exact gp_no O | exact gp_T hch As | (rw [gp_F hch As]; omega) | (rw [gp_iff hch]; omega))).symm))
   refine Zg Z Z <| Zqm Z Z <| Zg Z Z <| Zqm Z Z <| Zg Z Z <| JO_q (QE_ix Z Z Z Z hch) Z <| Zg Z Z <| Zqeq Z Z Z <| Zg Z Z <| ZqF Z Z Z <| Zg Z Z <| Zqm Z Z <| ?_
   refine JO_caseD (t := 31) Z (fun c11 => ?_) (fun c11 => ?_)
   ·
    refine Wf Y4 <| Wf Y4 <| Wf Y4 <| Wf Y4 <| Zg Z Z <| ZqT Z Z Z <| Zg Z Z <| Zqm Z Z <| Wf Y4 <| Wf Y4 <| Wf Y4 <| Wf Y4 <| Zg Z Z <| ZqT Z Z Z <| ZqT Z Z Z <| Zn <| ?_
    refine thenQ_n (MidB.mk (Lr D) Sb Z ((decide_eq_true (by first | exact gp_no O | exact gp_T hch As | (rw [gp_F hch As]; omega) | (rw [gp_iff hch]; omega))).symm))
   refine Zg Z Z <| Zqm Z Z <| Zg Z Z <| Zqm Z Z <| Zg Z Z <| JO_q (QE_ix Z Z Z Z hch) Z <| Zg Z Z <| Zqeq Z Z Z <| Zg Z Z <| ZqF Z Z Z <| Zg Z Z <| Zqm Z Z <| ?_
   refine JO_caseD (t := 37) Z (fun c12 => ?_) (fun c12 => ?_)
   ·
    refine Wf Y4 <| Wf Y4 <| Wf Y4 <| Wf Y4 <| Zg Z Z <| ZqT Z Z Z <| ZqT Z Z Z <| Zn <| ?_
    refine thenQ_n (MidB.mk (Lr D) Sb Z ((decide_eq_true (by first | exact gp_no O | exact gp_T hch As | (rw [gp_F hch As]; omega) | (rw [gp_iff hch]; omega))).symm))
   refine Zg Z Z <| Zqm Z Z <| Zg Z Z <| Zqm Z Z <| Zg Z Z <| JO_q (QE_ix Z Z Z Z hch) Z <| Zg Z Z <| Zqeq Z Z Z <| Zg Z Z <| ZqF Z Z Z <| ZqT Z Z Z <| Zn <| ?_
   refine thenQ_n (MidB.mk (Lr D) Sb Z (decide_eq_decide.2 (by first | exact gp_no O | exact gp_T hch As | (rw [gp_F hch As]; omega) | (rw [gp_iff hch]; omega))))
  refine Wf Y4 <| Wf Y4 <| Zh Z Z Z <| Zh Z Z Z <| Zh Z Z Z <| Zh Z Z Z <| Wf Y4 <| Wf Y4 <| Zh Z Z Z <| Zh Z Z Z <| Zh Z Z Z <| Zh Z Z Z <| Wf Y4 <| Wf Y4 <| Zh Z Z Z <| Zh Z Z Z <| Zh Z Z Z <| Zh Z Z Z <| Wf Y4 <| Wf Y4 <| Zh Z Z Z <| Zh Z Z Z <| Zh Z Z Z <| Zh Z Z Z <| Wf Y4 <| Wf Y4 <| Zh Z Z Z <| Zh Z Z Z <| Zh Z Z Z <| Zh Z Z Z <| Wf Y4 <| ZqF Z Z Z <| Zn <| ?_
  refine thenQ_n (MidB.mk (Lr D) Sb Z ((decide_eq_false (by first | exact gp_no O | exact gp_T hch As | (rw [gp_F hch As]; omega) | (rw [gp_iff hch]; omega))).symm))
 intro s3 h3
 refine JC_ifD Z (fun c13 => ?_) (fun c13 => ?_)
 ·
  have hgp := c13
  obtain ⟨cg, hcg⟩ := gp_in hgp
  have hel := (List.getElem?_eq_some_iff.1 hcg).1
  refine Zk <| Zt <| Zp <| Zs <| Sr <| Zqm Z Z <| Zqm Z Z <| JO_q (QE_ix Z Z Z Z hcg) Z <| Zqeq Z Z Z <| Nt <| ?_
  refine JC_ifD Z (fun c14 => ?_) (fun c14 => ?_)
  ·
   have hst := gp_hash (b := b) hcg c14
   refine Zr <| At Z Z <| Zr <| Zqm Z Z <| JO_q (QE_add' (c := ((e + 1 : Nat) : Int)) Z Z (by rw [w64 O O]; omega)) Z <| Zqa Z Z <| Zn <| Zb <| ?_
   refine thenQ_n ⟨(e + 1, true), [], kp, Z, ⟨(I2.1.t h3), ⟨by simp only; omega, by simp only; omega, by simp only; omega⟩⟩, (by simp only; omega)⟩
  refine Sr <| Zqm Z Z <| Zqm Z Z <| JO_q (QE_ix Z Z Z Z hcg) Z <| Zqeq Z Z Z <| Nt <| ?_
  refine JC_ifD Z (fun c15 => ?_) (fun c15 => ?_)
  ·
   have hst := gp_nl (b := b) hcg c15
   refine Zr <| At Z Z <| Zr <| Zqm Z Z <| JO_q (QE_add' (c := ((e + 1 : Nat) : Int)) Z Z (by rw [w64 O O]; omega)) Z <| Zqa Z Z <| Zn <| Zb <| ?_
   refine thenQ_n ⟨(e + 1, false), [], kp, Z, ⟨(I2.1.t h3), ⟨by simp only; omega, by simp only; omega, by simp only; omega⟩⟩, (by simp only; omega)⟩
  have hst := gp_other hcg As c15 hgp
  refine Zk <| Zt <| Zr <| Zqm Z Z <| JO_q (QE_add' (c := ((e + 1 : Nat) : Int)) Z Z (by rw [w64 O O]; omega)) Z <| Zqa Z Z <| Zn <| Zb <| ?_
  refine thenQ_n ⟨(e + 1, b), [], kp, Z, ⟨(I2.1.t h3), ⟨by simp only; omega, by simp only; omega, by simp only; omega⟩⟩, (by simp only; omega)⟩
 obtain ⟨hend, hcm⟩ := gp_end c13 he1
 have heG : gapN l i = e := by rw [← he2, hend]
 have heT : rtA l e = rtA l (gapN l i) := by rw [heG]
 obtain ⟨hr1, hr2, hr3⟩ := rt_ok l e he1
 refine Zl <| Zv <| Zv <| Zd <| Zt <| Sr <| Zqm Z Z <| Zqm Z Z <| Jc Z Z Z (rtok_ac D _ _ l e he1 hl) ?_
 rintro _ _ s16 h16 ⟨rfl, rfl⟩
 have hall2 : ∀ x ∈ out ++ [rtA l e], x.text.length ≤ 9223372036854775807 ∧ U32 x.num := fun x hx => by
   rcases List.mem_append.1 hx with hx | hx
   · exact hall x hx
   · rw [List.mem_singleton.1 hx]; exact ⟨by omega, hr2⟩
 refine JO_allocZ Z [_, _, _, _] Z Z ?_
 intro β17 s17 h17
 refine Wt 0 [_, _, _, _] Y9 <| Nt <| Sr <| Zqm Z Z <| JO_q (QE_ldA 0 [_, _, _, _] Z Z Z Z Z) Z <| JO_bs [(_, _)] [_, _, _, _] Z Z Z Z Z Z Z Z Z ?_
 intro βn s18 h18 hcb
 refine JO_app (sz := 4) [_] Mo L Z Z Z Z Z Z Z hO (Row.of_cells (hcb.le (Lr D)) Z Z) ⟨by simp [ti42]; omega, by omega⟩ Z ?_
 intro v2 A2x s19 h19 o2
 obtain ⟨Av2, cv2, rfl, _, _⟩ := Own.slice o2
 simp only [cQ9, nQ9]
 refine At Z Z <| Zs <| Sr <| W0 Y5 <| Wl 0 Y6 <| Zqle Z Z Z <| Nt <| ?_
 refine JC_ifD Z (fun c20 => ?_) (fun c20 => ?_)
 ·
  have hz := c20
  refine Sr <| Zqm Z Z <| At Z Z <| Zo <| Zu <| Zc <| Zu <| Zc <| ?_
  refine retQ_mk [_] _ (.inr Z) (.tmp Z (.nil)) Z (I1.1.t I2.1|>.t h3|>.t h16|>.t h17|>.t h18|>.t h19) (fun sR hS2 => ?_)
  refine ⟨_, Z, fun s2 hs2 hp => ⟨_, _, _, out ++ [rtA l e], Z, ?_, hR _ (.stop heT hz)⟩⟩
  exact Own.rts (by simp only [List.map_append, List.map_cons, List.map_nil, flat_snoc]; exact o2) hp hall2 (by simp)
 have hz := c20
 have hpos := hr3 hz
 obtain rfl : b = false := by
   cases b
   · rfl
   · have := hcm rfl; omega
 refine Zk <| Zt <| Zr <| Zqm Z Z <| Wb Y5 <| Wl 0 Y6 <| Zqlt2 Z Z Z Z <| JO_q (QE_add' (c := ((e + (rtA l e).text.length : Nat) : Int)) Z Z (by rw [w64 O O]; omega)) Z <| Zqa Z Z <| Zn <| Zb <| ?_
 refine thenQ_n ⟨(e + (rtA l e).text.length, .slice Av2 (out.length + 1) cv2, A2x, out ++ [rtA l e]), [_], kp, Z, ⟨(I1.1.t I2.1|>.t h3|>.t h16|>.t h17|>.t h18|>.t h19), ⟨by simp only; omega, by simp only [List.length_append, List.length_cons, List.length_nil]; omega, by simp only [List.length_append, List.length_cons, List.length_nil, List.map_append, List.map_cons, List.map_nil, flat_snoc]; exact o2, hall2, fun ts hts => by simp only [List.append_assoc, List.cons_append, List.nil_append]; exact hR _ (.next heT hz hts)⟩⟩, (by simp only; omega)⟩
end Go.Proofs.YtiljephghfngnaaGreatDoor
namespace Go.Proofs.YtiljephghfngnaaGreatDoor
open Go Go.FL
def tok3 (t : PS) : Prop := t.next.kind = 1 ∨ t.next.kind = 2 ∨ t.next.kind = 3
def WF (s : Str) (t : PS) : Prop := t.next = (rdQ s t.next.off).1 ∧ t.behind = (rdQ s t.next.off).2
def Rch (s : Str) (t t' : PS) : Prop := t' = t ∨ (tok3 t ∧ t.behind ≤ t'.behind ∧ WF s t')
def Lo (G : PS → Prop) (s : Str) (t : PS) {α : Type} (r r' : PR α) : Prop := match r with
  | .ok x t1 => Rch s t t1 ∧ (G t1 → r' = .ok x t1)
  | .er t1 => Rch s t t1 ∧ (G t1 → r' = .er t1)
  | .out => True
theorem tw_take {p : UInt8 → Bool} {x : UInt8} (hx : p x = false) : ∀ (u : Str) (n : Nat) (v : Str), (u.takeWhile p).length ≤ n → (u.take n ++ x :: v).takeWhile p = u.takeWhile p
  | [], n, v, _ => by simp [hx]
  | c :: r, 0, v, h => by
    rw [List.takeWhile_cons] at h ⊢
    split at h
    · simp at h
    · rename_i hc; rw [if_neg hc]; simp [hx]
  | c :: r, n + 1, v, h => by
    rw [List.take_succ_cons, List.cons_append, List.takeWhile_cons, List.takeWhile_cons]
    rw [List.takeWhile_cons] at h
    split
    · rename_i hc
      rw [if_pos hc, List.length_cons] at h
      rw [tw_take hx r n v O]
    · rfl
theorem find_same {α : Type} {p q : α → Bool} {x : α} : ∀ {l : List α}, l.find? p = some x → (∀ y ∈ l, q y = true → p y = true) → q x = true → l.find? q = some x
  | [], h, _, _ => by cases h
  | y :: l, h, hq, hx => by
    rw [List.find?_cons] at h ⊢
    cases hp : p y with
    | true =>
      rw [hp] at h
      injection h with h
      subst h
      rw [hx]
    | false =>
      rw [hp] at h
      cases hy : q y with
      | true => have := hq y (List.mem_cons_self ..) hy; rw [hp] at this; cases this
      | false => exact find_same h (fun z hz => hq z (List.mem_cons_of_mem _ hz)) hx
theorem rdS_takeX {z : UInt8} (hz : z = 32 ∨ z = 9 ∨ z = 10 ∨ z = 35) (u : Str) (n : Nat) (v : Str) (hk : tk3 (rdS u).1) (hn : (rdS u).2 ≤ n) (hu : n ≤ u.length) : rdS (u.take n ++ z :: v) = rdS u := by
  have z1 : (letB z || digB z) = false := by rcases hz with rfl | rfl | rfl | rfl <;> decide
  have z2 : digB z = false := by rcases hz with rfl | rfl | rfl | rfl <;> decide
  have hpos : 0 < (rdS u).2 := (rdS_ok u).2.2.2 hk
  have no4 : ∀ {w : Str} {x : Int}, ¬ tk3 ((4 : Int), w, x) := fun h => by rcases h with h | h | h <;> (have h' : (4 : Int) = _ := h; exact absurd h' (by decide))
  obtain ⟨n, rfl⟩ : ∃ k, n = k + 1 := ⟨n - 1, by omega⟩
  match u with
  | [] => simp at hu
  | c :: r =>
    have e : (c :: r).take (n + 1) ++ z :: v = c :: (r.take n ++ z :: v) := by rw [List.take_succ_cons]; rfl
    have hw : (wordL (c :: r)).length ≤ n + 1 → wordL (c :: (r.take n ++ z :: v)) = wordL (c :: r) := fun h => by rw [← e]; exact tw_take (p := fun x => letB x || digB x) z1 _ _ _ h
    have hd : (digL (c :: r)).length ≤ n + 1 → digL (c :: (r.take n ++ z :: v)) = digL (c :: r) := fun h => by rw [← e]; exact tw_take (p := digB) z2 _ _ _ h
    rw [e]
    rw [rdS] at hk hn ⊢
    rw [rdS]
    split at hk
    · rename_i hc
      rw [if_pos hc] at hn
      rw [if_pos hc, if_pos hc]
      split at hk
      · rename_i h1
        rw [if_pos h1] at hn
        rw [hw hn]
      · exact absurd hk no4
    · rename_i hc
      rw [if_neg hc] at hn
      rw [if_neg hc, if_neg hc]
      split at hk
      · rename_i hc2
        rw [if_pos hc2] at hn
        rw [if_pos hc2, if_pos hc2]
        cases hnum : numL (digL (c :: r)) with
        | none => rw [hnum] at hk; exact absurd hk no4
        | some m =>
          rw [hnum] at hn
          rw [hd hn, hnum]
      · rename_i hc2
        rw [if_neg hc2] at hn
        rw [if_neg hc2, if_neg hc2]
        split at hk
        · rename_i hc3
          rw [if_pos hc3] at hn
          rw [if_pos hc3, if_pos hc3]
          split at hk
          · rename_i h1
            rw [if_pos h1] at hn
            have hn' : 3 ≤ n + 1 := hn
            have h3 := chr_len h1
            obtain ⟨m, rfl⟩ : ∃ k, n = k + 2 := ⟨n - 2, by omega⟩
            match r, h3 with
            | a :: b :: r, _ =>
              have e2 : (c :: ((a :: b :: r).take (m + 2) ++ z :: v)) = c :: a :: b :: (r.take m ++ z :: v) := by rw [List.take_succ_cons, List.take_succ_cons]; rfl
              rw [e2]
              have e3 : chrB (c :: a :: b :: (r.take m ++ z :: v)) = chrB (c :: a :: b :: r) := by simp [chrB]
              rw [e3, if_pos h1, if_pos h1]
              simp
          · exact absurd hk no4
        · rename_i hc3
          rw [if_neg hc3] at hn
          rw [if_neg hc3, if_neg hc3]
          cases hf : signsP.find? (fun x => x.isPrefixOf (c :: r)) with
          | none => rw [hf] at hk; exact absurd hk no4
          | some x =>
            rw [hf] at hn
            have hxl : x.length ≤ n + 1 := hn
            have hl2 : ∀ y ∈ signsP, y.length ≤ 2 ∧ 1 ≤ y.length ∧ y.getD 1 0 ≠ z := by
              rcases hz with rfl | rfl | rfl | rfl <;> decide +kernel
            have hq : ∀ y ∈ signsP, y.isPrefixOf (c :: (r.take n ++ z :: v)) = true → y.isPrefixOf (c :: r) = true := by
              intro y hy h
              obtain ⟨k1, k2, k3⟩ := hl2 y hy
              match y, k1, k2, k3, h with
              | [a], _, _, _, h => simpa [List.isPrefixOf] using h
              | [a, b], _, _, k3, h =>
                simp only [List.isPrefixOf, Bool.and_eq_true, beq_iff_eq] at h ⊢
                cases n with
                | zero =>
                  rw [List.take_zero, List.nil_append] at h
                  simp only [List.isPrefixOf, Bool.and_eq_true, beq_iff_eq] at h
                  exact absurd h.2.1 k3
                | succ n =>
                  cases r with
                  | nil => simp at hu
                  | cons d r =>
                    rw [List.take_succ_cons, List.cons_append] at h
                    simpa [List.isPrefixOf] using h
            have hx : x.isPrefixOf (c :: (r.take n ++ z :: v)) = true := by
              have h0 : x.isPrefixOf (c :: r) = true := by have := List.find?_some hf; simpa using this
              have h1 := List.isPrefixOf_iff_prefix.1 h0
              rw [List.isPrefixOf_iff_prefix, ← e]
              have h2 : x <+: (c :: r).take (n + 1) := List.prefix_take_iff.2 ⟨h1, hxl⟩
              exact h2.trans (List.prefix_append _ _)
            rw [find_same hf hq hx]
def commaK : List (List Tk) → List Tk
  | [] => []
  | [x] => x
  | x :: y :: r => x ++ sgK [44] :: commaK (y :: r)
def getW : Str := [103, 101, 116]
def exKW (k o n : Int) (nm : Str) (az : List (List Tk)) (out : Int) : List Tk :=
  if k = 1 then [nuK n] else if k = 2 then [wdK nm] else if k = 3 then wdK nm :: sgK [91] :: (commaK az ++ [sgK [93]])
  else if k = 4 then wdK nm :: sgK [40] :: (commaK az ++ [sgK [41]]) else if k = 5 then [wdK getW]
  else if k = 6 then sgK (sgnT o) :: az.getD 0 []
  else if strg o < out then sgK [40] :: (az.getD 0 [] ++ sgK (sgnT o) :: (az.getD 1 [] ++ [sgK [41]]))
  else az.getD 0 [] ++ sgK (sgnT o) :: az.getD 1 []
mutual
def exK : Ex → Int → List Tk
  | .mk k o n nm az, out => exKW k o n nm (exKs az (outers k o)) out
def exKs : List Ex → List Int → List (List Tk)
  | [], _ => []
  | x :: r, os => exK x (os.headD 0) :: exKs r os.tail
end
def elseW : Str := [101, 108, 115, 101]
def ifW : Str := [105, 102]
def whileW : Str := [119, 104, 105, 108, 101]
def wordK (k : Int) : Str := if k = 6 then [114, 101, 116, 117, 114, 110] else if k = 7 then [112, 117, 116] else if k = 8 then [115, 116, 111, 112] else if k = 9 then [98, 114, 101, 97, 107] else [99, 111, 110, 116, 105, 110, 117, 101]
def stK0 (k : Int) (nm : Str) (es : List (List Tk)) : List Tk :=
  if k = 1 then wdK nm :: sgK [61] :: (es.getD 0 [] ++ [sgK [59]]) else if k = 2 then wdK nm :: sgK [91] :: (es.getD 0 [] ++ sgK [93] :: sgK [61] :: (es.getD 1 [] ++ [sgK [59]]))
  else if k = 5 then wdK nm :: sgK [40] :: (commaK es ++ [sgK [41], sgK [59]]) else wdK (wordK k) :: (commaK es ++ [sgK [59]])
mutual
def stK : Stm → List Tk
  | .mk k nm es b e => if k = 3 ∨ k = 4 then
      wdK (if k = 3 then ifW else whileW) :: sgK [40] :: ((exKs es []).getD 0 [] ++ sgK [41] :: sgK [123] :: (stKs b ++ sgK [125] ::
        (if e.isEmpty = true then [] else if isIf e = true then wdK elseW :: stK1 e else wdK elseW :: sgK [123] :: (stKs e ++ [sgK [125]]))))
    else stK0 k nm (exKs es [])
def stKs : List Stm → List Tk
  | [] => []
  | x :: r => stK x ++ stKs r
def stK1 : List Stm → List Tk
  | [] => []
  | x :: _ => stK x
end
def constW : Str := [99, 111, 110, 115, 116]
def varW : Str := [118, 97, 114]
def arrayW : Str := [97, 114, 114, 97, 121]
def funcW : Str := [102, 117, 110, 99]
def gloK (g : Glo) : List Tk := if g.kind = 1 then [wdK constW, wdK g.name, sgK [61], nuK g.num, sgK [59]] else if g.kind = 2 then [wdK varW, wdK g.name, sgK [59]]
  else wdK arrayW :: wdK g.name :: sgK [91] :: nuK g.num :: sgK [93] :: ((if g.init = [] then [] else sgK [61] :: commaK (g.init.map fun n => [nuK n])) ++ [sgK [59]])
def namesK (l : List Str) : List Tk := commaK (l.map fun w => [wdK w])
def fncK (x : Fnc) : List Tk := wdK funcW :: wdK x.name :: sgK [40] :: (namesK x.params ++ sgK [41] :: sgK [123] :: ((if x.locals = [] then [] else wdK varW :: (namesK x.locals ++ [sgK [59]])) ++ (stKs x.body ++ [sgK [125]])))
def prgK (p : Prg) : List Tk := (p.globals.map gloK).flatten ++ (p.funcs.map fncK).flatten
-- the form of expressions and statements
theorem exC_z {k o n : Int} {nm : Str} {na : Nat} (h : exC k o n nm na = 0) : (1 ≤ k ∧ k ≤ 7) ∧ (k = 6 → 1 ≤ o ∧ o ≤ 3) ∧ (k = 7 → 4 ≤ o ∧ o ≤ 21) ∧ (namedE k = true → identB nm = true) ∧ (namedE k = false → nm = []) ∧ (k ≠ 1 → n = 0) ∧ (k < 6 → o = 0) ∧ leastE k ≤ na ∧ na ≤ mostE k := by
  unfold exC at h
  split at h
  · cases h
  rename_i h1
  split at h
  · cases h
  rename_i h2
  split at h
  · cases h
  rename_i h3
  refine ⟨by omega, by omega, by omega, fun hn => ?_, fun hn => ?_, by omega, by omega, by omega, by omega⟩
  · cases hi : identB nm with
    | true => rfl
    | false => exact absurd ⟨hn, hi⟩ h2
  · by_cases he : nm = []
    · exact he
    · exact absurd (.inl ⟨hn, he⟩) h3
theorem stC_z {k : Int} {nm : Str} {ne nb nl : Nat} (h : stC k nm ne nb nl = 0) : (1 ≤ k ∧ k ≤ 10) ∧ (namedS k = true → identB nm = true) ∧ (namedS k = false → nm = []) ∧ leastS k ≤ ne ∧ ne ≤ mostS k ∧ (k ≠ 3 → k ≠ 4 → nb = 0) ∧ (k ≠ 3 → nl = 0) := by
  unfold stC at h
  split at h
  · cases h
  rename_i h1
  split at h
  · cases h
  rename_i h2
  split at h
  · cases h
  rename_i h3
  refine ⟨by omega, fun hn => ?_, fun hn => ?_, by omega, by omega, by omega, by omega⟩
  · cases hi : identB nm with
    | true => rfl
    | false => exact absurd ⟨hn, hi⟩ h2
  · by_cases he : nm = []
    · exact he
    · exact absurd (.inl ⟨hn, he⟩) h3
theorem sgn_in {o : Int} (h1 : 1 ≤ o) (h2 : o ≤ 21) : sgnT o ∈ signsP := by
  have : ∀ n : Nat, n < 22 → 1 ≤ n → signL.getD n [] ∈ signsP := by decide +kernel
  exact this o.toNat O O
-- texts that have tokens
def nal (r : Str) : Prop := ∀ c, r.head? = some c → alB c = false
theorem nalc {c : UInt8} {r : Str} (h : alB c = false) : nal (c :: r) := fun d hd => by
  have : c = d := by simpa using hd
  rw [← this]; exact h
def LX (w : Str) (K : List Tk) : Prop := ∀ r l, nal r → Lx r l → Lx (w ++ r) (K ++ l)
def HD (w : Str) : Prop := ∃ c y, w = c :: y ∧ c ≠ 61
theorem ident_al {w : Str} (h : identB w = true) : (∃ c x, w = c :: x ∧ letB c = true) ∧ w.all alB = true ∧ (kwB w || identB w) = true := by
  refine ⟨?_, ?_, by rw [h, Bool.or_true]⟩
  all_goals simp only [identB, Bool.and_eq_true, decide_eq_true_eq] at h
  · obtain ⟨c, x, rfl⟩ := List.exists_cons_of_ne_nil h.1.1.1
    have h2 := h.1.2
    simp only [charsFrom, Bool.and_eq_true] at h2
    refine ⟨c, x, Z, ?_⟩
    have h3 := h2.1
    simpa [chOK, letB, digB] using h3
  · have h2 := (charsFrom_iff w 0).1 h.1.2
    refine List.all_eq_true.2 fun c hc => ?_
    obtain ⟨i, hi⟩ := List.getElem?_of_mem hc
    have h3 := h2 i c hi
    simp only [alB, letB, digB, chOK] at h3 ⊢
    revert h3
    simp only [Bool.or_eq_true, Bool.and_eq_true, decide_eq_true_eq]
    omega
theorem lxw {w : Str} (h : identB w = true) {r : Str} {l : List Tk} (hr : nal r) (hl : Lx r l) : Lx (w ++ r) (wdK w :: l) := by
  obtain ⟨h1, h2, h3⟩ := ident_al h
  exact Lx.word h1 h2 h3 hr hl
theorem lxk {w : Str} (h : w ∈ kwords) {r : Str} {l : List Tk} (hr : nal r) (hl : Lx r l) : Lx (w ++ r) (wdK w :: l) := by
  have hk : ∀ w ∈ kwords, w ≠ [] ∧ letB (w.getD 0 0) = true ∧ w.all alB = true ∧ kwB w = true := by decide +kernel
  obtain ⟨h0, h1, h2, h3⟩ := hk w h
  refine Lx.word ?_ h2 (by rw [h3]; rfl) hr hl
  obtain ⟨c, x, rfl⟩ := List.exists_cons_of_ne_nil h0
  exact ⟨c, x, rfl, h1⟩
theorem lx1 (c : UInt8) (h1 : [c] ∈ signsP) (h2 : ∀ d, [c, d] ∉ sg2) {r : Str} {l : List Tk} (hl : Lx r l) : Lx (c :: r) (sgK [c] :: l) :=
  Lx.sign (w := [c]) h1 (fun c' d hc _ => by
    have : c = c' := by simpa using hc
    rw [← this]; exact h2 d) hl
theorem sg_sp (c : UInt8) : [c, 32] ∉ sg2 := by simp [sg2]
theorem lxs {w : Str} (h1 : w ∈ signsP) {r : Str} {l : List Tk} (hl : Lx r l) : Lx (w ++ 32 :: r) (sgK w :: l) :=
  Lx.sign h1 (fun c d _ hd => by
    have : 32 = d := by simpa using hd
    rw [← this]; exact sg_sp c) (Lx.ws (g := [32]) rfl hl)
theorem lx40 {r : Str} {l : List Tk} (h : Lx r l) : Lx (40 :: r) (sgK [40] :: l) := lx1 40 (by decide +kernel) (by intro d; simp [sg2]) h
theorem lx41 {r : Str} {l : List Tk} (h : Lx r l) : Lx (41 :: r) (sgK [41] :: l) := lx1 41 (by decide +kernel) (by intro d; simp [sg2]) h
theorem lx44 {r : Str} {l : List Tk} (h : Lx r l) : Lx (44 :: r) (sgK [44] :: l) := lx1 44 (by decide +kernel) (by intro d; simp [sg2]) h
theorem lx59 {r : Str} {l : List Tk} (h : Lx r l) : Lx (59 :: r) (sgK [59] :: l) := lx1 59 (by decide +kernel) (by intro d; simp [sg2]) h
theorem lx91 {r : Str} {l : List Tk} (h : Lx r l) : Lx (91 :: r) (sgK [91] :: l) := lx1 91 (by decide +kernel) (by intro d; simp [sg2]) h
theorem lx93 {r : Str} {l : List Tk} (h : Lx r l) : Lx (93 :: r) (sgK [93] :: l) := lx1 93 (by decide +kernel) (by intro d; simp [sg2]) h
theorem lx123 {r : Str} {l : List Tk} (h : Lx r l) : Lx (123 :: r) (sgK [123] :: l) := lx1 123 (by decide +kernel) (by intro d; simp [sg2]) h
theorem lx125 {r : Str} {l : List Tk} (h : Lx r l) : Lx (125 :: r) (sgK [125] :: l) := lx1 125 (by decide +kernel) (by intro d; simp [sg2]) h
theorem lx32 {r : Str} {l : List Tk} (h : Lx r l) : Lx (32 :: r) l := Lx.ws (g := [32]) rfl h
theorem lx10 {r : Str} {l : List Tk} (h : Lx r l) : Lx (10 :: r) l := Lx.ws (g := [10]) rfl h
theorem lx61 {r : Str} {l : List Tk} (h : Lx r l) : Lx (61 :: 32 :: r) (sgK [61] :: l) := lxs (w := [61]) (by decide +kernel) h
theorem lxn {n : Int} (hn : U32 n) : LX (decS n) [nuK n] := fun _ _ hr hl => Lx.num hn hr hl
theorem lxi {w : Str} (h : identB w = true) : LX w [wdK w] := fun _ _ hr hl => lxw h hr hl
def LXs : List Str → List (List Tk) → Prop
  | [], [] => True
  | w :: ws, k :: ks => (LX w k ∧ HD w) ∧ LXs ws ks
  | _, _ => False
theorem LXs.comma : ∀ {ws : List Str} {ks : List (List Tk)}, LXs ws ks → LX (commaW ws) (commaK ks)
  | [], [], _ => fun _ _ _ hl => hl
  | [w], [k], h => h.1.1
  | w :: w2 :: ws, k :: k2 :: ks, h => fun r l hr hl => by
    simp only [commaW, commaK, List.append_assoc, List.cons_append]
    exact h.1.1 _ _ (nalc (by decide)) (lx44 (lx32 (LXs.comma (ws := w2 :: ws) (ks := k2 :: ks) h.2 r l hr hl)))
  | [], _ :: _, h => h.elim
  | [_], [], h => h.elim
  | [_], _ :: _ :: _, h => h.2.elim
  | _ :: _ :: _, [], h => h.elim
  | _ :: _ :: _, [_], h => h.2.elim
theorem LXs.at_ : ∀ {ws : List Str} {ks : List (List Tk)}, LXs ws ks → ∀ i, i < ws.length → LX (ws.getD i []) (ks.getD i []) ∧ HD (ws.getD i [])
  | [], _, _, i, hi => by cases hi
  | w :: ws, k :: ks, h, 0, _ => h.1
  | w :: ws, k :: ks, h, i + 1, hi => by simpa using LXs.at_ h.2 i (by simpa using hi)
  | _ :: _, [], h, _, _ => h.elim
theorem exTs_length : ∀ (l : List Ex) (os : List Int), (exTs l os).length = l.length
  | [], _ => rfl
  | x :: r, os => by rw [exTs, List.length_cons, List.length_cons, exTs_length r]
mutual
theorem exK_lx : ∀ (x : Ex) (out : Int), exV x = true → exU x = true → LX (exT x out) (exK x out) ∧ HD (exT x out)
  | .mk k o n nm az, out, hv, hu => by
    simp only [exV, Bool.and_eq_true, decide_eq_true_eq] at hv
    simp only [exU, Bool.and_eq_true, decide_eq_true_eq] at hu
    have ha := exKs_lx az (outers k o) hv.2 hu.2
    have hlen := exTs_length az (outers k o)
    obtain ⟨h1, h2, h3, h4, h5, h6, h7, h8, h9⟩ := exC_z hv.1
    have hc := ha.comma
    rw [exT, exK]
    have hid : ∀ {k : Int}, namedE k = true → (namedE k = true → identB nm = true) → ∃ c x, nm = c :: x ∧ c ≠ 61 := fun {k} hn h4 => by
      obtain ⟨⟨c, x, e, hc⟩, _⟩ := ident_al (h4 hn)
      exact ⟨c, x, e, fun h => by subst h; revert hc; decide⟩
    rcases (by omega : k = 1 ∨ k = 2 ∨ k = 3 ∨ k = 4 ∨ k = 5 ∨ k = 6 ∨ k = 7) with rfl | rfl | rfl | rfl | rfl | rfl | rfl
    · simp only [exW, exKW, if_true]
      refine ⟨lxn hu.1, ?_⟩
      obtain ⟨u, rfl⟩ := Int.eq_ofNat_of_zero_le hu.1.1
      have hcn := dec_canon u
      simp only [canonB, Bool.and_eq_true, decide_eq_true_eq] at hcn
      have hd : decS (u : Int) = Lib.decDigits u := rfl
      obtain ⟨c, x, hcx⟩ := List.exists_cons_of_ne_nil hcn.1.1
      have hall := hcn.1.2
      rw [hcx] at hall
      simp only [List.all_cons, Bool.and_eq_true] at hall
      exact ⟨c, x, by rw [hd, hcx], fun h => by subst h; exact absurd hall.1 (by decide)⟩
    · simp only [exW, exKW, Int.reduceEq, if_true, if_false]
      exact ⟨lxi (h4 rfl), hid rfl h4⟩
    · simp only [exW, exKW, Int.reduceEq, if_true, if_false]
      refine ⟨fun r l hr hl => ?_, ?_⟩
      · simp only [List.append_assoc, List.cons_append, List.nil_append]
        exact lxw (h4 rfl) (nalc (by decide)) (lx91 (hc _ _ (nalc (by decide)) (lx93 hl)))
      · obtain ⟨c, x, e, hne⟩ := hid (k := 3) rfl h4
        exact ⟨c, _, by rw [e]; rfl, hne⟩
    · simp only [exW, exKW, Int.reduceEq, if_true, if_false]
      refine ⟨fun r l hr hl => ?_, ?_⟩
      · simp only [List.append_assoc, List.cons_append, List.nil_append]
        exact lxw (h4 rfl) (nalc (by decide)) (lx40 (hc _ _ (nalc (by decide)) (lx41 hl)))
      · obtain ⟨c, x, e, hne⟩ := hid (k := 4) rfl h4
        exact ⟨c, _, by rw [e]; rfl, hne⟩
    · simp only [exW, exKW, Int.reduceEq, if_true, if_false]
      exact ⟨fun r l hr hl => lxk (w := getW) (by decide +kernel) hr hl, 103, [101, 116], rfl, by decide⟩
    · simp only [exW, exKW, Int.reduceEq, if_true, if_false]
      have h8' : 1 ≤ az.length := h8
      obtain ⟨g1, c, y, hcy, hne⟩ := ha.at_ 0 O
      have ho := h2 rfl
      refine ⟨fun r l hr hl => ?_, ?_⟩
      · rw [List.append_assoc, List.cons_append]
        refine Lx.sign (sgn_in ho.1 O) (fun c' d hc' hd => ?_) (g1 r l hr hl)
        have hd2 : d = c := by rw [hcy] at hd; simpa using hd.symm
        subst hd2
        obtain ⟨b, hb, hb2⟩ : ∃ b : UInt8, sgnT o = [b] ∧ (b = 33 ∨ b = 45 ∨ b = 126) := by
          rcases (by omega : o = 1 ∨ o = 2 ∨ o = 3) with rfl | rfl | rfl
          · exact ⟨33, rfl, .inl rfl⟩
          · exact ⟨45, rfl, .inr (.inl rfl)⟩
          · exact ⟨126, rfl, .inr (.inr rfl)⟩
        have hbc : b = c' := by rw [hb] at hc'; simpa using hc'
        subst hbc
        rcases hb2 with rfl | rfl | rfl <;> simp [sg2, hne]
      · rcases (by omega : o = 1 ∨ o = 2 ∨ o = 3) with rfl | rfl | rfl <;> exact ⟨_, _, rfl, by decide⟩
    · simp only [exW, exKW, Int.reduceEq, if_true, if_false]
      have h8' : 2 ≤ az.length := h8
      obtain ⟨g1, c, y, hcy, hne⟩ := ha.at_ 0 O
      obtain ⟨g2, _⟩ := ha.at_ 1 O
      have ho := h3 rfl
      have hs := sgn_in (o := o) O ho.2
      split
      · refine ⟨fun r l hr hl => ?_, 40, _, Z, by decide⟩
        simp only [List.append_assoc, List.cons_append, List.nil_append]
        exact lx40 (g1 _ _ (nalc (by decide)) (lx32 (lxs hs (g2 _ _ (nalc (by decide)) (lx41 hl)))))
      · refine ⟨fun r l hr hl => ?_, c, _, by rw [hcy]; rfl, hne⟩
        simp only [List.append_assoc, List.cons_append, List.nil_append]
        exact g1 _ _ (nalc (by decide)) (lx32 (lxs hs (g2 _ _ hr hl)))
theorem exKs_lx : ∀ (l : List Ex) (os : List Int), exVs l = true → exUs l = true → LXs (exTs l os) (exKs l os)
  | [], _, _, _ => trivial
  | x :: r, os, hv, hu => by
    simp only [exVs, Bool.and_eq_true] at hv
    simp only [exUs, Bool.and_eq_true] at hu
    exact ⟨exK_lx x _ hv.1 hu.1, exKs_lx r os.tail hv.2 hu.2⟩
end
def LT (w : Str) (K : List Tk) : Prop := ∀ r l, Lx r l → Lx (w ++ r) (K ++ l)
theorem margin_ws (n : Nat) : (margin n).all wsB = true := by
  induction n with
  | zero => rfl
  | succ n ih => rw [margin, List.all_append, ih]; rfl
theorem lxm {n : Nat} {r : Str} {l : List Tk} (h : Lx r l) : Lx (margin n ++ r) l := Lx.ws (margin_ws n) h
theorem wordK_in {k : Int} : wordK k ∈ kwords := by
  unfold wordK
  repeat' split
  all_goals decide +kernel
theorem lt_stW0 {k : Int} {nm : Str} {ne nb nl : Nat} {es : List Str} {ks : List (List Tk)} (hx : LXs es ks) (hl : es.length = ne) (h : stC k nm ne nb nl = 0) (h3 : ¬ (k = 3 ∨ k = 4)) : LT (stW0 k nm es) (stK0 k nm ks) := by
  obtain ⟨h1, h2, _, h4, _⟩ := stC_z h
  have hc := hx.comma
  intro r l hr
  rcases (by omega : k = 1 ∨ k = 2 ∨ k = 5 ∨ k = 6 ∨ k = 7 ∨ k = 8 ∨ k = 9 ∨ k = 10) with rfl | rfl | rfl | hk
  · simp only [stW0, stK0, if_true, List.append_assoc, List.cons_append, List.nil_append]
    have h4' : 1 ≤ ne := h4
    exact lxw (h2 rfl) (nalc (by decide)) (lx32 (lx61 ((hx.at_ 0 O).1 _ _ (nalc (by decide)) (lx59 (lx10 hr)))))
  · simp only [stW0, stK0, Int.reduceEq, if_true, if_false, List.append_assoc, List.cons_append, List.nil_append]
    have h4' : 2 ≤ ne := h4
    exact lxw (h2 rfl) (nalc (by decide)) (lx91 ((hx.at_ 0 O).1 _ _ (nalc (by decide)) (lx93 (lx32 (lx61 ((hx.at_ 1 O).1 _ _ (nalc (by decide)) (lx59 (lx10 hr))))))))
  · simp only [stW0, stK0, Int.reduceEq, if_true, if_false, List.append_assoc, List.cons_append, List.nil_append]
    exact lxw (h2 rfl) (nalc (by decide)) (lx40 (hc _ _ (nalc (by decide)) (lx41 (lx59 (lx10 hr)))))
  · have hw : Lx (wordK k ++ 32 :: (commaW es ++ 59 :: 10 :: r)) (wdK (wordK k) :: (commaK ks ++ sgK [59] :: l)) := lxk wordK_in (nalc (by decide)) (lx32 (hc _ _ (nalc (by decide)) (lx59 (lx10 hr))))
    by_cases h9 : k = 9 ∨ k = 10
    · have he : es = [] := List.eq_nil_of_length_eq_zero (by
        have := (stC_z h).2.2.2.2.1
        have h0 : mostS k = 0 := by rcases h9 with rfl | rfl <;> rfl
        omega)
      subst he
      have hk0 : ks = [] := by cases ks with | nil => rfl | cons _ _ => exact hx.elim
      subst hk0
      have hw2 : Lx (wordK k ++ 59 :: 10 :: r) (wdK (wordK k) :: sgK [59] :: l) := lxk wordK_in (nalc (by decide)) (lx59 (lx10 hr))
      rcases h9 with rfl | rfl
      · exact hw2
      · exact hw2
    · rcases (by omega : k = 6 ∨ k = 7 ∨ k = 8) with rfl | rfl | rfl
      all_goals
        simp only [stW0, stK0, Int.reduceEq, if_true, if_false, List.append_assoc, List.cons_append, List.nil_append]
        simpa [wordK] using hw
mutual
theorem stK_lt : ∀ (x : Stm) (m lv : Nat), stV x m = true → stU x = true → LT (stT x lv) (stK x)
  | .mk k nm es b e, m, lv, hv, hu => by
    simp only [stV, Bool.and_eq_true, decide_eq_true_eq] at hv
    simp only [stU, Bool.and_eq_true] at hu
    have he := exKs_lx es [] hv.1.1.2 hu.1.1
    have hlen := exTs_length es []
    have hb := stKs_lt b (m + 1) (lv + 1) hv.1.2 hu.1.2
    have hE := stKs_lt e (m + 1) (lv + 1) hv.2 hu.2
    have h1 := stK1_lt e (m + 1) lv hv.2 hu.2
    rw [stT, stK]
    split
    · rename_i h34
      obtain ⟨_, _, _, h4, _⟩ := stC_z hv.1.1.1.2
      have h4' : 1 ≤ es.length := by rcases h34 with rfl | rfl <;> exact h4
      intro r l hr
      have hkw : (if k = 3 then ifW else whileW) ∈ kwords := by split <;> decide +kernel
      have htail : Lx ((if e.isEmpty = true then [10] else if isIf e = true then [32, 101, 108, 115, 101, 32] ++ st1 e lv else [32, 101, 108, 115, 101, 32, 123, 10] ++ stTs e (lv + 1) ++ margin lv ++ [125, 10]) ++ r) ((if e.isEmpty = true then [] else if isIf e = true then wdK elseW :: stK1 e else wdK elseW :: sgK [123] :: (stKs e ++ [sgK [125]])) ++ l) := by
        split
        · exact lx10 hr
        · split
          · simp only [List.append_assoc, List.cons_append, List.nil_append]
            exact lx32 (lxk (w := elseW) (by decide +kernel) (nalc (by decide)) (lx32 (h1 _ _ hr)))
          · simp only [List.append_assoc, List.cons_append, List.nil_append]
            exact lx32 (lxk (w := elseW) (by decide +kernel) (nalc (by decide)) (lx32 (lx123 (lx10 (hE _ _ (lxm (lx125 (lx10 hr))))))))
      have hall := lxk hkw (nalc (by decide)) (lx32 (lx40 ((he.at_ 0 O).1 _ _ (nalc (by decide)) (lx41 (lx32 (lx123 (lx10 (hb _ _ (lxm (n := lv) (lx125 htail))))))))))
      simpa only [List.append_assoc, List.cons_append, List.nil_append, ifW, whileW] using hall
    · rename_i h34
      exact lt_stW0 he hlen hv.1.1.1.2 h34
theorem stKs_lt : ∀ (l : List Stm) (m lv : Nat), stVs l m = true → stUs l = true → LT (stTs l lv) (stKs l)
  | [], _, _, _, _ => fun _ _ h => h
  | x :: r, m, lv, hv, hu => by
    simp only [stVs, Bool.and_eq_true] at hv
    simp only [stUs, Bool.and_eq_true] at hu
    intro q l h
    simp only [stTs, stKs, List.append_assoc]
    exact lxm (stK_lt x m lv hv.1 hu.1 _ _ (stKs_lt r m lv hv.2 hu.2 q l h))
theorem stK1_lt : ∀ (l : List Stm) (m lv : Nat), stVs l m = true → stUs l = true → LT (st1 l lv) (stK1 l)
  | [], _, _, _, _ => fun _ _ h => h
  | x :: r, m, lv, hv, hu => by
    simp only [stVs, Bool.and_eq_true] at hv
    simp only [stUs, Bool.and_eq_true] at hu
    rw [st1, stK1]
    exact stK_lt x m lv hv.1 hu.1
end
theorem lxs_nums : ∀ {l : List Int}, (∀ x ∈ l, U32 x) → LXs (l.map decS) (l.map fun n => [nuK n])
  | [], _ => trivial
  | x :: r, h => by
    refine ⟨⟨lxn (h x (List.mem_cons_self ..)), ?_⟩, lxs_nums fun y hy => h y (List.mem_cons_of_mem _ hy)⟩
    have := (exK_lx (.mk 1 0 x [] []) 0 (by simp [exV, exVs, exC, namedE, leastE, mostE]) (by have := h x (List.mem_cons_self ..); simp only [exU, exUs, Bool.and_true, decide_eq_true_eq]; exact this)).2
    exact this
theorem lxs_names : ∀ {l : List Str}, (∀ x ∈ l, identB x = true) → LXs l (l.map fun n => [wdK n])
  | [], _ => trivial
  | x :: r, h => by
    refine ⟨⟨lxi (h x (List.mem_cons_self ..)), ?_⟩, lxs_names fun y hy => h y (List.mem_cons_of_mem _ hy)⟩
    obtain ⟨⟨c, y, e, hc⟩, _⟩ := ident_al (h x (List.mem_cons_self ..))
    exact ⟨c, y, e, fun h => by subst h; revert hc; decide⟩
theorem glo_lt {g : Glo} (h : gloC g = 0) (hu : U32 g.num ∧ ∀ x ∈ g.init, U32 x) : LT (gloT g) (gloK g) := by
  obtain ⟨h1, h2, h3, h4, h5, h6⟩ := gloC_zero h
  intro r l hr
  unfold gloT gloK
  split
  · simp only [List.append_assoc, List.cons_append, List.nil_append]
    exact lxk (w := constW) (by decide +kernel) (nalc (by decide)) (lx32 (lxw h3 (nalc (by decide)) (lx32 (lx61 (lxn hu.1 _ _ (nalc (by decide)) (lx59 (lx10 hr)))))))
  · split
    · simp only [List.append_assoc, List.cons_append, List.nil_append]
      exact lxk (w := varW) (by decide +kernel) (nalc (by decide)) (lx32 (lxw h3 (nalc (by decide)) (lx59 (lx10 hr))))
    · simp only [List.append_assoc, List.cons_append, List.nil_append]
      refine lxk (w := arrayW) (by decide +kernel) (nalc (by decide)) (lx32 (lxw h3 (nalc (by decide)) (lx91 (lxn hu.1 _ _ (nalc (by decide)) (lx93 ?_)))))
      split
      · exact lx59 (lx10 hr)
      · simp only [List.append_assoc, List.cons_append, List.nil_append]
        exact lx32 (lx61 ((lxs_nums hu.2).comma _ _ (nalc (by decide)) (lx59 (lx10 hr))))
theorem fnc_lt {x : Fnc} (h : fnV x) (hu : stUs x.body = true) : LT (fncT x) (fncK x) := by
  obtain ⟨a1, a2, a3, a4, a5, a6⟩ := h
  intro r l hr
  unfold fncT fncK
  simp only [List.append_assoc, List.cons_append, List.nil_append]
  refine lxk (w := funcW) (by decide +kernel) (nalc (by decide)) (lx32 (lxw a1 (nalc (by decide)) (lx40 ((lxs_names fun w hw => a4 w (List.mem_append_left _ hw)).comma _ _ (nalc (by decide)) (lx41 (lx32 (lx123 (lx10 ?_))))))))
  have hb := stKs_lt x.body 1 1 a5 hu _ _ (lx125 (lx10 hr))
  split
  · exact hb
  · simp only [List.append_assoc, List.cons_append, List.nil_append]
    exact lx32 (lx32 (lxk (w := varW) (by decide +kernel) (nalc (by decide)) (lx32 ((lxs_names fun w hw => a4 w (List.mem_append_right _ hw)).comma _ _ (nalc (by decide)) (lx59 (lx10 hb))))))
theorem flat_lt {α : Type} {f : α → Str} {g : α → List Tk} : ∀ {l : List α}, (∀ x ∈ l, LT (f x) (g x)) → LT (l.map f).flatten (l.map g).flatten
  | [], _ => fun _ _ h => h
  | x :: r, h => fun q l hq => by
    simp only [List.map_cons, List.flatten_cons, List.append_assoc]
    exact h x (List.mem_cons_self ..) _ _ (flat_lt (fun y hy => h y (List.mem_cons_of_mem _ hy)) q l hq)
theorem prg_lx {p : Prg} (h : PV p) (hu : prU p) : Lx (prgT p) (prgK p) := by
  have h1 := flat_lt (l := p.globals) (fun g hg => glo_lt (h.2.2.1 g hg).1 (hu.1 g hg))
  have h2 := flat_lt (l := p.funcs) (fun x hx => fnc_lt (h.2.2.2.1 x hx) (hu.2 x hx))
  have := h1 _ _ (h2 [] [] Lx.end_)
  simpa [prgT, prgK] using this
variable {s : Str}
theorem and_no {α β : Type} {a : PR α} {k : α → PS → PR β} (h : a.and k ≠ .out) : a ≠ .out := by rintro rfl; exact h rfl
theorem Toks.tl {t : PS} {k : Tk} {r : List Tk} (h : Toks s t (k :: r)) : Toks s (advP s t) r := h.2.2.2.2
theorem isP_sg {t : PS} {w v : Str} {r : List Tk} (h : Toks s t (sgK w :: r)) : isP t v = decide (w = v) := by
  simp only [isP, h.1, h.2.1, sgK]; rfl
theorem isP_wd {t : PS} {w v : Str} {r : List Tk} (h : Toks s t (wdK w :: r)) : isP t v = decide (w = v) := by
  simp only [isP, h.1, h.2.1, wdK]; rfl
theorem isP_nu {t : PS} {n : Int} {v : Str} {r : List Tk} (h : Toks s t (nuK n :: r)) : isP t v = false := by
  simp only [isP, h.1, nuK]; rfl
theorem isNm_wd {t : PS} {w : Str} {r : List Tk} (h : Toks s t (wdK w :: r)) : isNm t = !kwB w := by
  simp only [isNm, h.1, h.2.1, wdK]; rfl
theorem id_kw {w : Str} (h : identB w = true) : kwB w = false := by
  simp only [identB, Bool.and_eq_true, Bool.not_eq_true'] at h; exact h.2
theorem id_ne {w v : Str} (h : identB w = true) (hv : identB v = false) : ¬ decide (w = v) = true := by
  rw [decide_eq_true_eq]; rintro rfl; rw [h] at hv; cases hv
theorem isNm_id {t : PS} {w : Str} {r : List Tk} (h : Toks s t (wdK w :: r)) (hi : identB w = true) : isNm t = true := by rw [isNm_wd h, id_kw hi]; rfl
theorem exp_sg {t : PS} {w : Str} {r : List Tk} (h : Toks s t (sgK w :: r)) {ws : List Str} : expP s (w :: ws) t = expP s ws (advP s t) := by
  rw [expP, if_pos (by rw [isP_sg h]; exact decide_eq_true rfl)]
theorem exp_1 {α : Type} {t : PS} {w : Str} {r : List Tk} (h : Toks s t (sgK w :: r)) {k : Unit → PS → PR α} : (expP s [w] t).and k = k () (advP s t) := by
  rw [exp_sg h, expP]; rfl
theorem exp_2 {α : Type} {t : PS} {w x : Str} {r : List Tk} (h : Toks s t (sgK w :: sgK x :: r)) {k : Unit → PS → PR α} : (expP s [w, x] t).and k = k () (advP s (advP s t)) := by
  rw [exp_sg h, exp_1 h.tl]
theorem name_id {α : Type} {t : PS} {w : Str} {r : List Tk} (h : Toks s t (wdK w :: r)) (hi : identB w = true) {k : Str → PS → PR α} : (nameP s t).and k = k w (advP s t) := by
  rw [nameP, if_pos (isNm_id h hi), h.2.1]; rfl
theorem numb_nu {α : Type} {t : PS} {n : Int} {r : List Tk} (h : Toks s t (nuK n :: r)) {k : Int → PS → PR α} : (numbP s t).and k = k n (advP s t) := by
  rw [numbP, if_pos (show t.next.kind = 2 from h.1), h.2.2.1]; rfl
def binW (w : Str) : Int := if idxOf (fun x => decide (w = x)) (signL.drop 4) 0 < 0 then 0 else idxOf (fun x => decide (w = x)) (signL.drop 4) 0 + 4
theorem binP_sg {t : PS} {w : Str} {r : List Tk} (h : Toks s t (sgK w :: r)) : binP t = binW w := by
  unfold binP binW
  rw [if_neg (by rw [h.1]; exact (by decide : ¬ (3 : Int) ≠ 3)), h.2.1]; rfl
theorem binW_op {o : Int} (h1 : 4 ≤ o) (h2 : o ≤ 21) : binW (sgnT o) = o := by
  have : ∀ n : Nat, n < 22 → 4 ≤ n → binW (signL.getD n []) = (n : Int) := by decide +kernel
  have h := this o.toNat O O
  rw [show sgnT o = signL.getD o.toNat [] from rfl, h]; omega
def closers : List Str := [[41], [44], [93], [59]]
theorem strg_15 (o : Int) : 1 ≤ strg o ∧ strg o ≤ 5 := by unfold strg; repeat' split <;> omega
def FO (m : Int) : List Tk → Prop
  | [] => False
  | k :: _ => (∃ w, k = sgK w ∧ w ∈ closers) ∨ ∃ o : Int, 4 ≤ o ∧ o ≤ 21 ∧ k = sgK (sgnT o) ∧ strg o ≤ m
theorem FO.mono {m n : Int} {l : List Tk} (h : FO m l) (hm : m ≤ n) : FO n l := by
  cases l with
  | nil => exact h
  | cons k r =>
    rcases h with h | ⟨o, h1, h2, h3, h4⟩
    · exact .inl h
    · exact .inr ⟨o, h1, h2, h3, by omega⟩
theorem FO.cl {w : Str} (hw : w ∈ closers) (m : Int) (r : List Tk) : FO m (sgK w :: r) := .inl ⟨w, rfl, hw⟩
theorem FO.no {m : Int} {t : PS} {l : List Tk} (h : FO m l) (ht : Toks s t l) : isP t [91] = false ∧ isP t [40] = false := by
  cases l with
  | nil => exact h.elim
  | cons k r =>
    rcases h with ⟨w, rfl, hw⟩ | ⟨o, h1, h2, rfl, _⟩
    · rw [isP_sg ht, isP_sg ht]
      exact (show ∀ w ∈ closers, decide (w = [91]) = false ∧ decide (w = [40]) = false by decide +kernel) w hw
    · rw [isP_sg ht, isP_sg ht]
      have : ∀ n : Nat, n < 22 → 4 ≤ n → decide (signL.getD n [] = [91]) = false ∧ decide (signL.getD n [] = [40]) = false := by decide +kernel
      exact this o.toNat O O
theorem loop_stop {m least : Int} {n : Nat} {x : Ex} {t : PS} {l : List Tk} (hf : FO m l) (hm : m < least) (ht : Toks s t l) (hn : pLoop s n least x t ≠ .out) : pLoop s n least x t = .ok x t := by
  cases n with
  | zero => exact absurd (by rw [pLoop]) hn
  | succ n =>
    rw [pLoop, if_neg]
    cases l with
    | nil => exact hf.elim
    | cons k r =>
      rcases hf with ⟨w, rfl, hw⟩ | ⟨o, h1, h2, rfl, h4⟩
      · rw [binP_sg ht]
        have := (show ∀ w ∈ closers, binW w = 0 by decide +kernel) w hw
        rw [this]; exact fun h => h.1 rfl
      · rw [binP_sg ht, binW_op h1 h2]; omega
def topS : Ex → Int → Int
  | .mk k o _ _ _, out => if k = 7 ∧ ¬ strg o < out then strg o else 5
def PE (s : Str) (x : Ex) : Prop :=
  (∀ (out : Int) (n : Nat) (least : Int) (t : PS) (l : List Tk), Toks s t (exK x out ++ l) → FO (topS x out) l → (least ≤ out ∨ least ≤ 1) → pExpr s (n + 1) least t ≠ .out → ∃ m t', pExpr s (n + 1) least t = pLoop s m least x t' ∧ Toks s t' l) ∧
  (∀ (out : Int), (x.kind ≠ 7 ∨ strg x.op < out) → ∀ (n : Nat) (t : PS) (l : List Tk), Toks s t (exK x out ++ l) → FO 5 l → pArg s n t ≠ .out → ∃ t', pArg s n t = .ok x t' ∧ Toks s t' l)
theorem PE.ex {x : Ex} (h : PE s x) {n : Nat} {t : PS} {w : Str} {l : List Tk} (hw : w ∈ closers) (ht : Toks s t (exK x 0 ++ sgK w :: l)) (hn : pExpr s n 1 t ≠ .out) : ∃ t', pExpr s n 1 t = .ok x t' ∧ Toks s t' (sgK w :: l) := by
  cases n with
  | zero => exact absurd (by rw [pExpr]) hn
  | succ n =>
    obtain ⟨m, t', e, ht'⟩ := h.1 0 n 1 t _ ht (FO.cl hw _ _) (.inr O) hn
    rw [e] at hn ⊢
    exact ⟨t', loop_stop (m := 0) (FO.cl hw _ _) O ht' hn, ht'⟩
theorem elems_rd : ∀ (l : List Ex) (x : Ex), (∀ y ∈ x :: l, PE s y) → ∀ (n : Nat) (acc : List Ex) (t : PS) (r : List Tk), Toks s t (commaK (exKs (x :: l) []) ++ sgK [41] :: r) → pElems s n acc t ≠ .out → ∃ t', pElems s n acc t = .ok (acc ++ x :: l) t' ∧ Toks s t' (sgK [41] :: r)
  | [], x, hl, n, acc, t, r, ht, hn => by
    cases n with
    | zero => exact absurd (by rw [pElems]) hn
    | succ n =>
      rw [pElems] at hn ⊢
      obtain ⟨t1, e, h1⟩ := (hl x (List.mem_cons_self ..)).ex (w := [41]) (by decide) (by simpa [exKs, commaK] using ht) (and_no hn)
      rw [e]
      simp only [PR.and]
      rw [if_neg (by rw [isP_sg h1]; decide)]
      exact ⟨t1, rfl, h1⟩
  | y :: l, x, hl, n, acc, t, r, ht, hn => by
    cases n with
    | zero => exact absurd (by rw [pElems]) hn
    | succ n =>
      rw [pElems] at hn ⊢
      obtain ⟨t1, e, h1⟩ := (hl x (List.mem_cons_self ..)).ex (w := [44]) (l := commaK (exKs (y :: l) []) ++ sgK [41] :: r) (by decide) (by simpa [exKs, commaK] using ht) (and_no hn)
      rw [e] at hn ⊢
      simp only [PR.and] at hn ⊢
      have hp : isP t1 [44] = true := by rw [isP_sg h1]; decide
      rw [if_pos hp] at hn ⊢
      obtain ⟨t2, e2, h2⟩ := elems_rd l y (fun z hz => hl z (List.mem_cons_of_mem _ hz)) n (acc ++ [x]) (advP s t1) r h1.tl hn
      exact ⟨t2, by rw [e2, List.append_assoc]; rfl, h2⟩
theorem args_rd {l : List Ex} (hl : ∀ y ∈ l, PE s y) {n : Nat} {t : PS} {r : List Tk} (ht : Toks s t (commaK (exKs l []) ++ sgK [41] :: r)) (hh : isP t [41] = true → l = []) (hn : pArgs s n t ≠ .out) : ∃ t', pArgs s n t = .ok l t' ∧ Toks s t' r := by
  cases n with
  | zero => exact absurd (by rw [pArgs]) hn
  | succ n =>
    rw [pArgs] at hn ⊢
    cases l with
    | nil =>
      have ht' : Toks s t (sgK [41] :: r) := ht
      rw [if_pos (by rw [isP_sg ht']; decide)]
      exact ⟨_, rfl, ht'.tl⟩
    | cons x l =>
      have hp : ¬ isP t [41] = true := fun h => by cases hh h
      rw [if_neg hp] at hn ⊢
      obtain ⟨t1, e, h1⟩ := elems_rd l x hl n [] t r ht (and_no hn)
      rw [e]
      simp only [PR.and]
      rw [exp_sg h1, expP]
      exact ⟨_, rfl, h1.tl⟩
theorem ex_head : ∀ (x : Ex) (out : Int), exV x = true → ∃ k r, exK x out = k :: r ∧ k ≠ sgK [41]
  | .mk k o n nm az, out, hv => by
    simp only [exV, Bool.and_eq_true, decide_eq_true_eq] at hv
    obtain ⟨h1, h2, h3, h4, h5, h6, h7, h8, h9⟩ := exC_z hv.1
    rw [exK]
    have wd : ∀ w : Str, wdK w ≠ sgK [41] := fun w h => by
      have := congrArg Prod.fst h; simp [wdK, sgK] at this
    rcases (by omega : k = 1 ∨ k = 2 ∨ k = 3 ∨ k = 4 ∨ k = 5 ∨ k = 6 ∨ k = 7) with rfl | rfl | rfl | rfl | rfl | rfl | rfl
    · exact ⟨nuK n, [], rfl, fun h => by have := congrArg Prod.fst h; simp [nuK, sgK] at this⟩
    · exact ⟨_, _, rfl, wd _⟩
    · exact ⟨_, _, rfl, wd _⟩
    · exact ⟨_, _, rfl, wd _⟩
    · exact ⟨_, _, rfl, wd _⟩
    · have ho := h2 rfl
      refine ⟨sgK (sgnT o), _, Z, ?_⟩
      rcases (by omega : o = 1 ∨ o = 2 ∨ o = 3) with rfl | rfl | rfl <;> decide
    · have h8' : 2 ≤ az.length := h8
      match az, hv, h8' with
      | a :: b :: r, hv, _ =>
        simp only [exVs, Bool.and_eq_true] at hv
        simp only [exKs, exKW, Int.reduceEq, if_false, List.getD_cons_zero]
        split
        · exact ⟨_, _, rfl, by decide⟩
        · obtain ⟨k, q, e, hk⟩ := ex_head a ((outers 7 o).headD 0) hv.2.1
          exact ⟨k, _, by rw [e]; rfl, hk⟩
theorem isP_ne {t : PS} {k : Tk} {r : List Tk} {w : Str} (h : Toks s t (k :: r)) (hk : k ≠ sgK w) (hw : kwB w = false) (hi : identB w = false) (hv : (k.1 = 1 → (kwB k.2.1 || identB k.2.1) = true) ∧ (k.1 = 3 → k.2.2 = 0)) : ¬ isP t w = true := by
  intro hp
  simp only [isP, Bool.and_eq_true, Bool.or_eq_true, decide_eq_true_eq] at hp
  rw [h.1, h.2.1] at hp
  rcases hp with ⟨h3 | h1, e⟩
  · exact hk (Prod.ext h3 (Prod.ext e (hv.2 h3)))
  · have := hv.1 h1
    rw [e, hw, hi] at this; cases this
theorem exK_form : ∀ (x : Ex) (out : Int), exV x = true → ∀ k r, exK x out = k :: r → (k.1 = 1 → (kwB k.2.1 || identB k.2.1) = true) ∧ (k.1 = 3 → k.2.2 = 0)
  | .mk k o n nm az, out, hv => by
    simp only [exV, Bool.and_eq_true, decide_eq_true_eq] at hv
    obtain ⟨h1, h2, h3, h4, h5, h6, h7, h8, h9⟩ := exC_z hv.1
    rw [exK]
    have wd : ∀ {w : Str} {k' : Tk} {r R : List Tk}, identB w = true → wdK w :: R = k' :: r → (k'.1 = 1 → (kwB k'.2.1 || identB k'.2.1) = true) ∧ (k'.1 = 3 → k'.2.2 = 0) := fun {w k' r R} hi he => by
      injection he with he _; subst he
      exact ⟨fun _ => (by show (kwB w || identB w) = true; rw [hi, Bool.or_true]), fun h => (by simp [wdK] at h)⟩
    have sg : ∀ {w : Str} {k' : Tk} {r R : List Tk}, sgK w :: R = k' :: r → (k'.1 = 1 → (kwB k'.2.1 || identB k'.2.1) = true) ∧ (k'.1 = 3 → k'.2.2 = 0) := fun {w k' r R} he => by
      injection he with he _; subst he
      exact ⟨fun h => (by simp [sgK] at h), fun _ => rfl⟩
    rcases (by omega : k = 1 ∨ k = 2 ∨ k = 3 ∨ k = 4 ∨ k = 5 ∨ k = 6 ∨ k = 7) with rfl | rfl | rfl | rfl | rfl | rfl | rfl <;> intro k' r he
    · have he' : nuK n :: [] = k' :: r := he
      injection he' with he' _; subst he'
      exact ⟨fun h => (by simp [nuK] at h), fun h => (by simp [nuK] at h)⟩
    · exact wd (h4 rfl) he
    · exact wd (h4 rfl) he
    · exact wd (h4 rfl) he
    · have he' : wdK getW :: [] = k' :: r := he
      injection he' with he' _; subst he'
      exact ⟨fun _ => (by decide +kernel), fun h => (by simp [wdK] at h)⟩
    · exact sg he
    · have h8' : 2 ≤ az.length := h8
      match az, hv, h8', he with
      | a :: b :: q, hv, _, he =>
        simp only [exVs, Bool.and_eq_true] at hv
        simp only [exKs, exKW, Int.reduceEq, if_false, List.getD_cons_zero] at he
        split at he
        · exact sg he
        · obtain ⟨k0, q0, e, hk⟩ := ex_head a ((outers 7 o).headD 0) hv.2.1
          rw [e] at he
          injection he with he _; subst he
          exact exK_form a ((outers 7 o).headD 0) hv.2.1 _ _ e
theorem args_head {l : List Ex} (hv : exVs l = true) {t : PS} {r : List Tk} (ht : Toks s t (commaK (exKs l []) ++ sgK [41] :: r)) (hp : isP t [41] = true) : l = [] := by
  cases l with
  | nil => rfl
  | cons x l =>
    simp only [exVs, Bool.and_eq_true] at hv
    obtain ⟨k, q, e, hk⟩ := ex_head x 0 hv.1
    have hform := exK_form x 0 hv.1 _ _ e
    have : ∃ q', commaK (exKs (x :: l) []) ++ sgK [41] :: r = k :: q' := by
      cases l with
      | nil => exact ⟨_, by simp only [exKs, commaK, List.headD_nil, e]; rfl⟩
      | cons y l => exact ⟨_, by simp only [exKs, commaK, List.headD_nil, e]; rfl⟩
    obtain ⟨q', e2⟩ := this
    rw [e2] at ht
    exact absurd hp (isP_ne ht hk (by decide +kernel) (by decide +kernel) hform)
theorem topS_ge (x : Ex) {c m : Int} (h : c ≤ m) (h5 : c ≤ 5) : c ≤ topS x m := by
  cases x
  unfold topS
  split <;> omega
theorem len_one {α : Type} {l : List α} (h : l.length = 1) : ∃ a, l = [a] := by match l, h with | [a], _ => exact ⟨a, rfl⟩
theorem len_two {α : Type} {l : List α} (h : l.length = 2) : ∃ a b, l = [a, b] := by match l, h with | [a, b], _ => exact ⟨a, b, rfl⟩
theorem kind_wd {t : PS} {w : Str} {r : List Tk} (h : Toks s t (wdK w :: r)) : ¬ t.next.kind = 2 := by rw [h.1]; exact (by decide : ¬ (1 : Int) = 2)
theorem kind_sg {t : PS} {w : Str} {r : List Tk} (h : Toks s t (sgK w :: r)) : ¬ t.next.kind = 2 := by rw [h.1]; exact (by decide : ¬ (3 : Int) = 2)
theorem wd_no {t : PS} {w v : Str} {r : List Tk} (h : Toks s t (wdK w :: r)) (hi : identB w = true) (hv : identB v = false) : ¬ isP t v = true := by rw [isP_wd h]; exact id_ne hi hv
theorem sg_no {t : PS} {w v : Str} {r : List Tk} (h : Toks s t (sgK w :: r)) (hv : decide (w = v) = false) : ¬ isP t v = true := by rw [isP_sg h, hv]; decide
theorem sg_is {t : PS} {w : Str} {r : List Tk} (h : Toks s t (sgK w :: r)) : isP t w = true := by rw [isP_sg h]; exact decide_eq_true rfl
theorem wd_is {t : PS} {w : Str} {r : List Tk} (h : Toks s t (wdK w :: r)) : isP t w = true := by rw [isP_wd h]; exact decide_eq_true rfl
theorem kw_no {t : PS} {w v : Str} {r : List Tk} (h : Toks s t (wdK w :: r)) (hv : decide (w = v) = false) : ¬ isP t v = true := by rw [isP_wd h, hv]; decide
theorem id_arg {n : Nat} {t : PS} {w : Str} {r : List Tk} (h : Toks s t (wdK w :: r)) (hi : identB w = true) : pArg s (n + 1) t =
      if isP (advP s t) [91] = true then (pExpr s n 1 (advP s (advP s t))).and fun x t => (expP s [[93]] t).and fun _ t => .ok (.mk 3 0 0 w [x]) t
      else if isP (advP s t) [40] = true then (pArgs s n (advP s (advP s t))).and fun l t => .ok (.mk 4 0 0 w l) t
      else .ok (.mk 2 0 0 w []) (advP s t) := by
  rw [pArg, if_neg (wd_no h hi (by decide +kernel)), if_neg (wd_no h hi (by decide +kernel)), if_neg (wd_no h hi (by decide +kernel)), if_neg (kind_wd h), if_neg (wd_no h hi (by decide +kernel)), if_neg (wd_no h hi (by decide +kernel)), name_id h hi]
theorem ex_infix {o : Int} {a b : Ex} (h3 : 4 ≤ o ∧ o ≤ 21) (ha : PE s a) (hb : PE s b) (out : Int) (n : Nat) (least : Int) (t : PS) (l : List Tk) (ho : ¬ strg o < out) (ht : Toks s t (exK (.mk 7 o 0 [] [a, b]) out ++ l)) (hf : FO (strg o) l) (hle : least ≤ strg o)
    (hn : pExpr s (n + 1) least t ≠ .out) : ∃ m t', pExpr s (n + 1) least t = pLoop s m least (.mk 7 o 0 [] [a, b]) t' ∧ Toks s t' l := by
  have hs5 := strg_15 o
  have e0 : exK (.mk 7 o 0 [] [a, b]) out = exK a (strg o) ++ sgK (sgnT o) :: exK b (strg o + 1) := by
    rw [exK]; simp only [exKs, exKW, outers, Int.reduceEq, if_false, if_true, if_neg ho, List.headD_cons, List.tail_cons, List.getD_cons_zero, List.getD_cons_succ]
  rw [e0, List.append_assoc, List.cons_append] at ht
  obtain ⟨m, t1, e1, h1⟩ := ha.1 (strg o) n least t _ ht (.inr ⟨o, h3.1, h3.2, rfl, topS_ge a O O⟩) (.inl hle) hn
  rw [e1] at hn ⊢
  cases m with
  | zero => exact absurd (by rw [pLoop]) hn
  | succ m =>
    rw [pLoop] at hn ⊢
    have hb1 : binP t1 = o := by rw [binP_sg h1, binW_op h3.1 h3.2]
    rw [hb1, if_pos ⟨by omega, hle⟩] at hn ⊢
    have hn2 := and_no hn
    cases m with
    | zero => exact absurd (by rw [pExpr]) hn2
    | succ m =>
      obtain ⟨m3, t3, e3, h3'⟩ := hb.1 (strg o + 1) m (strg o + 1) (advP s t1) l h1.tl (hf.mono (topS_ge b O O)) (.inl O) hn2
      have hst := loop_stop (m := strg o) (least := strg o + 1) hf O h3' (by rw [← e3]; exact hn2)
      rw [e3, hst]
      exact ⟨m + 1, t3, rfl, h3'⟩
mutual
theorem ex_rd : ∀ (x : Ex), exV x = true → PE s x
  | .mk k o n nm az, hv => by
    simp only [exV, Bool.and_eq_true, decide_eq_true_eq] at hv
    have ih := exs_rd az hv.2
    have hvs := hv.2
    obtain ⟨h1, h2, h3, h4, h5, h6, h7, h8, h9⟩ := exC_z hv.1
    have harg : ∀ (out : Int), (k ≠ 7 ∨ strg o < out) → ∀ (n' : Nat) (t : PS) (l : List Tk), Toks s t (exK (.mk k o n nm az) out ++ l) → FO 5 l → pArg s n' t ≠ .out → ∃ t', pArg s n' t = .ok (.mk k o n nm az) t' ∧ Toks s t' l := by
      intro out hout n' t l ht hf hn
      cases n' with
      | zero => exact absurd (by rw [pArg]) hn
      | succ n' =>
        rw [exK] at ht
        rcases (by omega : k = 1 ∨ k = 2 ∨ k = 3 ∨ k = 4 ∨ k = 5 ∨ k = 6 ∨ k = 7) with rfl | rfl | rfl | rfl | rfl | rfl | rfl
        · have ha0 : az = [] := List.eq_nil_of_length_eq_zero (by have : az.length ≤ 0 := h9; omega)
          obtain rfl := h7 O
          obtain rfl := h5 rfl
          subst ha0
          have ht' : Toks s t (nuK n :: l) := ht
          have hno : ∀ v, ¬ isP t v = true := fun v => by rw [isP_nu ht']; decide
          rw [pArg, if_neg (hno _), if_neg (hno _), if_neg (hno _), if_pos (show t.next.kind = 2 from ht'.1), ht'.2.2.1]
          exact ⟨_, rfl, ht'.tl⟩
        · have ha0 : az = [] := List.eq_nil_of_length_eq_zero (by have : az.length ≤ 0 := h9; omega)
          obtain rfl := h7 O
          obtain rfl := h6 O
          subst ha0
          have ht' : Toks s t (wdK nm :: l) := ht
          have hno := hf.no ht'.tl
          rw [id_arg ht' (h4 rfl), if_neg (by rw [hno.1]; decide), if_neg (by rw [hno.2]; decide)]
          exact ⟨_, rfl, ht'.tl⟩
        · obtain ⟨a, rfl⟩ := len_one (l := az) (by have : az.length ≤ 1 := h9; have : 1 ≤ az.length := h8; omega)
          obtain rfl := h7 O
          obtain rfl := h6 O
          have ht' : Toks s t (wdK nm :: sgK [91] :: (exK a 0 ++ sgK [93] :: l)) := by
            have e : exKW 3 0 0 nm (exKs [a] (outers 3 0)) out ++ l = wdK nm :: sgK [91] :: (exK a 0 ++ sgK [93] :: l) := by
              show wdK nm :: sgK [91] :: ((exK a 0 ++ [sgK [93]]) ++ l) = _
              rw [List.append_assoc]; rfl
            rw [e] at ht; exact ht
          rw [id_arg ht' (h4 rfl), if_pos (sg_is ht'.tl)] at hn ⊢
          obtain ⟨t1, e, h1'⟩ := (ih a (List.mem_cons_self ..)).ex (by decide) ht'.tl.tl (and_no hn)
          rw [e]
          simp only [PR.and]
          rw [exp_sg h1', expP]
          exact ⟨_, rfl, h1'.tl⟩
        · obtain rfl := h7 O
          obtain rfl := h6 O
          have ht' : Toks s t (wdK nm :: sgK [40] :: (commaK (exKs az []) ++ sgK [41] :: l)) := by
            have e : exKW 4 0 0 nm (exKs az (outers 4 0)) out ++ l = wdK nm :: sgK [40] :: (commaK (exKs az []) ++ sgK [41] :: l) := by
              show wdK nm :: sgK [40] :: ((commaK (exKs az []) ++ [sgK [41]]) ++ l) = _
              rw [List.append_assoc]; rfl
            rw [e] at ht; exact ht
          rw [id_arg ht' (h4 rfl), if_neg (sg_no ht'.tl (by decide)), if_pos (sg_is ht'.tl)] at hn ⊢
          obtain ⟨t1, e, h1'⟩ := args_rd ih ht'.tl.tl (fun hp => args_head hvs ht'.tl.tl hp) (and_no hn)
          rw [e]
          exact ⟨_, rfl, h1'⟩
        · have ha0 : az = [] := List.eq_nil_of_length_eq_zero (by have : az.length ≤ 0 := h9; omega)
          obtain rfl := h7 O
          obtain rfl := h6 O
          obtain rfl := h5 rfl
          subst ha0
          have ht' : Toks s t (wdK getW :: l) := ht
          rw [pArg, if_neg (kw_no ht' (by decide)), if_neg (kw_no ht' (by decide)), if_neg (kw_no ht' (by decide)), if_neg (kind_wd ht'), if_pos (show isP t [103, 101, 116] = true from wd_is ht')]
          exact ⟨_, rfl, ht'.tl⟩
        · obtain ⟨a, rfl⟩ := len_one (l := az) (by have : az.length ≤ 1 := h9; have : 1 ≤ az.length := h8; omega)
          obtain rfl := h6 O
          obtain rfl := h5 rfl
          have ho := h2 rfl
          have ht' : Toks s t (sgK (sgnT o) :: (exK a 9 ++ l)) := ht
          have ha := ih a (List.mem_cons_self ..)
          have hs9 : a.kind ≠ 7 ∨ strg a.op < 9 := .inr (by have := strg_15 a.op; omega)
          rcases (by omega : o = 1 ∨ o = 2 ∨ o = 3) with rfl | rfl | rfl
          · rw [pArg, if_pos (show isP t [33] = true from sg_is ht')] at hn ⊢
            obtain ⟨t1, e, h1'⟩ := ha.2 9 hs9 n' (advP s t) l ht'.tl hf (and_no hn)
            rw [e]; exact ⟨_, rfl, h1'⟩
          · rw [pArg, if_neg (sg_no ht' (by decide)), if_pos (show isP t [45] = true from sg_is ht')] at hn ⊢
            obtain ⟨t1, e, h1'⟩ := ha.2 9 hs9 n' (advP s t) l ht'.tl hf (and_no hn)
            rw [e]; exact ⟨_, rfl, h1'⟩
          · rw [pArg, if_neg (sg_no ht' (by decide)), if_neg (sg_no ht' (by decide)), if_pos (show isP t [126] = true from sg_is ht')] at hn ⊢
            obtain ⟨t1, e, h1'⟩ := ha.2 9 hs9 n' (advP s t) l ht'.tl hf (and_no hn)
            rw [e]; exact ⟨_, rfl, h1'⟩
        · obtain ⟨a, b, rfl⟩ := len_two (l := az) (by have : az.length ≤ 2 := h9; have : 2 ≤ az.length := h8; omega)
          obtain rfl := h6 O
          obtain rfl := h5 rfl
          have hlt : strg o < out := by omega
          have hs := strg_15 o
          have ht' : Toks s t (sgK [40] :: (exK (.mk 7 o 0 [] [a, b]) 0 ++ sgK [41] :: l)) := by
            have e : exKW 7 o 0 [] (exKs [a, b] (outers 7 o)) out ++ l = sgK [40] :: (exK (.mk 7 o 0 [] [a, b]) 0 ++ sgK [41] :: l) := by
              rw [exK]
              simp only [exKs, exKW, outers, Int.reduceEq, if_false, if_true, if_pos hlt, if_neg (show ¬ strg o < 0 by omega), List.headD_cons, List.tail_cons, List.getD_cons_zero, List.getD_cons_succ, List.append_assoc, List.cons_append, List.nil_append]
            rw [e] at ht; exact ht
          rw [pArg, if_neg (sg_no ht' (by decide)), if_neg (sg_no ht' (by decide)), if_neg (sg_no ht' (by decide)), if_neg (kind_sg ht'), if_neg (sg_no ht' (by decide)), if_pos (sg_is ht')] at hn ⊢
          have hn2 := and_no hn
          cases n' with
          | zero => exact absurd (by rw [pExpr]) hn2
          | succ n' =>
            obtain ⟨m, t1, e1, h1'⟩ := ex_infix (h3 rfl) (ih a (List.mem_cons_self ..)) (ih b (List.mem_cons_of_mem _ (List.mem_cons_self ..))) 0 n' 1 (advP s t) _ O ht'.tl (FO.cl (by decide) _ _) hs.1 hn2
            have hst := loop_stop (m := 0) (least := 1) (FO.cl (by decide) _ _) O h1' (by rw [← e1]; exact hn2)
            rw [e1, hst]
            simp only [PR.and]
            rw [exp_sg h1', expP]
            exact ⟨_, rfl, h1'.tl⟩
    refine ⟨fun out n' least t l ht hf hle hn => ?_, harg⟩
    by_cases hk : k = 7 ∧ ¬ strg o < out
    · have e : topS (.mk k o n nm az) out = strg o := if_pos hk
      obtain ⟨rfl, hk2⟩ := hk
      obtain ⟨a, b, rfl⟩ := len_two (l := az) (by have : az.length ≤ 2 := h9; have : 2 ≤ az.length := h8; omega)
      obtain rfl := h6 O
      obtain rfl := h5 rfl
      rw [e] at hf
      have hs := strg_15 o
      exact ex_infix (h3 rfl) (ih a (List.mem_cons_self ..)) (ih b (List.mem_cons_of_mem _ (List.mem_cons_self ..))) out n' least t l hk2 ht hf O hn
    · have e : topS (.mk k o n nm az) out = 5 := if_neg hk
      rw [e] at hf
      rw [pExpr] at hn ⊢
      obtain ⟨t1, e1, h1'⟩ := harg out O n' t l ht hf (and_no hn)
      rw [e1]
      exact ⟨n', t1, rfl, h1'⟩
theorem exs_rd : ∀ (l : List Ex), exVs l = true → ∀ y ∈ l, PE s y
  | [], _ => fun y hy => (by cases hy)
  | x :: r, hv => by
    simp only [exVs, Bool.and_eq_true] at hv
    have h1 := ex_rd x hv.1
    have h2 := exs_rd r hv.2
    intro y hy
    rcases List.mem_cons.1 hy with rfl | hy
    · exact h1
    · exact h2 y hy
end
variable {s : Str}
def NE (s : Str) (l : List Tk) : Prop := ∀ t, Toks s t l → ¬ isP t elseW = true
theorem NE.sg {w : Str} {l : List Tk} (h : decide (w = elseW) = false) : NE s (sgK w :: l) := fun _ ht => sg_no ht h
theorem NE.wd {w : Str} {l : List Tk} (h : w ≠ elseW) : NE s (wdK w :: l) := fun t ht hp => by
  rw [isP_wd ht, decide_eq_true_eq] at hp; exact h hp
def QS (s : Str) (x : Stm) : Prop :=
  (∀ (n : Nat) (t : PS) (l : List Tk), Toks s t (stK x ++ l) → NE s l → pStm s n t ≠ .out → ∃ t', pStm s n t = .ok x t' ∧ Toks s t' l) ∧
  (x.kind = 3 → ∃ K, stK x = wdK ifW :: K ∧ ∀ (n : Nat) (t : PS) (l : List Tk), Toks s t (K ++ l) → NE s l → pIf s n t ≠ .out → ∃ t', pIf s n t = .ok x t' ∧ Toks s t' l)
def SH (x : Stm) : Prop := ∃ w r, stK x = wdK w :: r ∧ w ≠ [125] ∧ w ≠ elseW
theorem id_no {w v : Str} (h : identB w = true) (hv : identB v = false) : w ≠ v := by rintro rfl; rw [h] at hv; cases hv
theorem st_head {x : Stm} {m : Nat} (hv : stV x m = true) : SH x := by
  cases x with
  | mk k nm es b e =>
    simp only [stV, Bool.and_eq_true, decide_eq_true_eq] at hv
    obtain ⟨h1, h2, _, h4, h5, _⟩ := stC_z hv.1.1.1.2
    unfold SH
    rw [stK]
    rcases (by omega : k = 3 ∨ k = 4 ∨ k = 1 ∨ k = 2 ∨ k = 5 ∨ (6 ≤ k ∧ k ≤ 10)) with rfl | rfl | rfl | rfl | rfl | hk
    · exact ⟨_, _, rfl, by decide, by decide⟩
    · exact ⟨_, _, rfl, by decide, by decide⟩
    · exact ⟨_, _, rfl, id_no (h2 rfl) (by decide +kernel), id_no (h2 rfl) (by decide +kernel)⟩
    · exact ⟨_, _, rfl, id_no (h2 rfl) (by decide +kernel), id_no (h2 rfl) (by decide +kernel)⟩
    · exact ⟨_, _, rfl, id_no (h2 rfl) (by decide +kernel), id_no (h2 rfl) (by decide +kernel)⟩
    · rcases (by omega : k = 6 ∨ k = 7 ∨ k = 8 ∨ k = 9 ∨ k = 10) with rfl | rfl | rfl | rfl | rfl <;> exact ⟨_, _, rfl, by decide, by decide⟩
theorem sts_head {b : List Stm} {r : List Tk} (hb : ∀ y ∈ b, SH y) : NE s (stKs b ++ sgK [125] :: r) := by
  cases b with
  | nil => exact NE.sg (by decide)
  | cons x b =>
    obtain ⟨w, q, e, _, h⟩ := hb x (List.mem_cons_self ..)
    rw [stKs, e]; exact NE.wd h
theorem andOk {α β : Type} {a : α} {t : PS} {k : α → PS → PR β} : (PR.ok a t).and k = k a t := rfl
theorem rest_rd : ∀ (b : List Stm), (∀ y ∈ b, QS s y ∧ SH y) → ∀ (n : Nat) (acc : List Stm) (t : PS) (r : List Tk), Toks s t (stKs b ++ sgK [125] :: r) → pRest s n acc t ≠ .out → ∃ t', pRest s n acc t = .ok (acc ++ b) t' ∧ Toks s t' r
  | [], hb, n, acc, t, r, ht, hn => by
    cases n with
    | zero => exact absurd (by rw [pRest]) hn
    | succ n =>
      have ht' : Toks s t (sgK [125] :: r) := ht
      rw [pRest, if_pos (sg_is ht')]
      exact ⟨_, by rw [List.append_nil], ht'.tl⟩
  | x :: b, hb, n, acc, t, r, ht, hn => by
    cases n with
    | zero => exact absurd (by rw [pRest]) hn
    | succ n =>
      obtain ⟨w, q, e, h125, _⟩ := (hb x (List.mem_cons_self ..)).2
      rw [stKs, List.append_assoc] at ht
      have ht' := ht
      rw [e] at ht'
      have hno : ¬ isP t [125] = true := by rw [isP_wd (w := w) ht', decide_eq_true_eq]; exact h125
      rw [pRest, if_neg hno] at hn ⊢
      obtain ⟨t1, e1, h1⟩ := (hb x (List.mem_cons_self ..)).1.1 n t _ ht (sts_head fun y hy => (hb y (List.mem_cons_of_mem _ hy)).2) (and_no hn)
      rw [e1] at hn ⊢
      simp only [PR.and] at hn ⊢
      obtain ⟨t2, e2, h2⟩ := rest_rd b (fun y hy => hb y (List.mem_cons_of_mem _ hy)) n (acc ++ [x]) t1 r h1 hn
      exact ⟨t2, by rw [e2, List.append_assoc]; rfl, h2⟩
theorem cond_rd {c : Ex} {b : List Stm} (hc : PE s c) (hb : ∀ y ∈ b, QS s y ∧ SH y) {n : Nat} {t : PS} {r : List Tk} (ht : Toks s t (sgK [40] :: (exK c 0 ++ sgK [41] :: sgK [123] :: (stKs b ++ sgK [125] :: r)))) (hn : pCond s n t ≠ .out) : ∃ t', pCond s n t = .ok (c, b) t' ∧ Toks s t' r := by
  cases n with
  | zero => exact absurd (by rw [pCond]) hn
  | succ n =>
    rw [pCond, exp_1 ht] at hn ⊢
    obtain ⟨t1, e1, h1⟩ := hc.ex (by decide) ht.tl (and_no hn)
    rw [e1] at hn ⊢
    simp only [PR.and] at hn ⊢
    rw [exp_sg h1, exp_sg h1.tl, expP] at hn ⊢
    simp only at hn ⊢
    obtain ⟨t2, e2, h2⟩ := rest_rd b hb n [] _ r h1.tl.tl (and_no hn)
    rw [e2]
    exact ⟨t2, rfl, h2⟩
theorem isIf_one {e : List Stm} (h : isIf e = true) : ∃ x, e = [x] ∧ x.kind = 3 := by
  match e, h with
  | [.mk k nm es b e], h => exact ⟨_, rfl, show k = 3 by simpa [isIf] using h⟩
theorem if_rd {c : Ex} {b e : List Stm} (hc : PE s c) (hb : ∀ y ∈ b, QS s y ∧ SH y) (he : ∀ y ∈ e, QS s y ∧ SH y) {n : Nat} {t : PS} {l : List Tk}
    (ht : Toks s t (sgK [40] :: (exK c 0 ++ sgK [41] :: sgK [123] :: (stKs b ++ sgK [125] :: ((if e.isEmpty = true then [] else if isIf e = true then wdK elseW :: stK1 e else wdK elseW :: sgK [123] :: (stKs e ++ [sgK [125]])) ++ l))))) (hl : NE s l)
    (hn : pIf s n t ≠ .out) : ∃ t', pIf s n t = .ok (.mk 3 [] [c] b e) t' ∧ Toks s t' l := by
  cases n with
  | zero => exact absurd (by rw [pIf]) hn
  | succ n =>
    rw [pIf] at hn ⊢
    obtain ⟨t1, e1, h1⟩ := cond_rd hc hb ht (and_no hn)
    rw [e1, andOk] at hn ⊢
    cases e with
    | nil =>
      have h1' : Toks s t1 l := h1
      have hno : ¬ isP t1 [101, 108, 115, 101] = true := hl t1 h1'
      rw [if_neg hno]
      exact ⟨t1, rfl, h1'⟩
    | cons x e' =>
      have hem : ¬ (x :: e').isEmpty = true := by simp
      rw [if_neg hem] at h1
      by_cases hi : isIf (x :: e') = true
      · obtain ⟨y, hy, hk⟩ := isIf_one hi
        cases hy
        rw [if_pos hi] at h1
        obtain ⟨K, eK, hK⟩ := (he x (List.mem_cons_self ..)).1.2 hk
        have h1' : Toks s t1 (wdK elseW :: wdK ifW :: (K ++ l)) := by
          have : (wdK elseW :: stK1 [x]) ++ l = wdK elseW :: wdK ifW :: (K ++ l) := by rw [stK1, eK]; rfl
          rw [this] at h1; exact h1
        have p1 : isP t1 [101, 108, 115, 101] = true := wd_is h1'
        have p2 : isP (advP s t1) [105, 102] = true := wd_is h1'.tl
        rw [if_pos p1, if_pos p2] at hn ⊢
        obtain ⟨t2, e2, h2⟩ := hK n _ l h1'.tl.tl hl (and_no hn)
        rw [e2]
        exact ⟨t2, rfl, h2⟩
      · rw [if_neg hi] at h1
        have h1' : Toks s t1 (wdK elseW :: sgK [123] :: (stKs (x :: e') ++ sgK [125] :: l)) := by
          have : (wdK elseW :: sgK [123] :: (stKs (x :: e') ++ [sgK [125]])) ++ l = wdK elseW :: sgK [123] :: (stKs (x :: e') ++ sgK [125] :: l) := by
            rw [List.cons_append, List.cons_append, List.append_assoc]; rfl
          rw [this] at h1; exact h1
        have p1 : isP t1 [101, 108, 115, 101] = true := wd_is h1'
        have p2 : ¬ isP (advP s t1) [105, 102] = true := sg_no h1'.tl (by decide)
        rw [if_pos p1, if_neg p2, exp_1 h1'.tl] at hn ⊢
        obtain ⟨t2, e2, h2⟩ := rest_rd (x :: e') he n [] _ l h1'.tl.tl (and_no hn)
        rw [e2]
        exact ⟨t2, rfl, h2⟩
theorem stm_id {n : Nat} {t : PS} {w : Str} {r : List Tk} (h : Toks s t (wdK w :: r)) (hi : identB w = true) : pStm s (n + 1) t =
      if isP (advP s t) [61] = true then (pExpr s n 1 (advP s (advP s t))).and fun x t2 => (expP s [[59]] t2).and fun _ t2 => .ok (.mk 1 w [x] [] []) t2
       else if isP (advP s t) [91] = true then (pExpr s n 1 (advP s (advP s t))).and fun x t2 => (expP s [[93], [61]] t2).and fun _ t2 => (pExpr s n 1 t2).and fun y t2 => (expP s [[59]] t2).and fun _ t2 => .ok (.mk 2 w [x, y] [] []) t2
       else (expP s [[40]] (advP s t)).and fun _ t2 => (pArgs s n t2).and fun l t2 => (expP s [[59]] t2).and fun _ t2 => .ok (.mk 5 w l [] []) t2 := by
  rw [pStm, if_pos (isNm_id h hi), h.2.1]; rfl
theorem kw_nm {t : PS} {w : Str} {r : List Tk} (h : Toks s t (wdK w :: r)) (hw : kwB w = true) : ¬ isNm t = true := by rw [isNm_wd h, hw]; decide
theorem st_arg {k : Int} {w : Str} {x : Ex} {n : Nat} {t : PS} {l : List Tk} (hx : PE s x) (ht : Toks s t (wdK w :: (exK x 0 ++ sgK [59] :: l))) (hn : (pExpr s n 1 (advP s t)).and (fun x t => (expP s [[59]] t).and fun _ t => .ok (Stm.mk k [] [x] [] []) t) ≠ .out) :
    ∃ t', (pExpr s n 1 (advP s t)).and (fun x t => (expP s [[59]] t).and fun _ t => .ok (Stm.mk k [] [x] [] []) t) = .ok (.mk k [] [x] [] []) t' ∧ Toks s t' l := by
  obtain ⟨t1, e, h1⟩ := hx.ex (by decide) ht.tl (and_no hn)
  rw [e]
  simp only [PR.and]
  rw [exp_sg h1, expP]
  exact ⟨_, rfl, h1.tl⟩
theorem app2 {α : Type} (a : List α) (b : α) (c : List α) : (a ++ [b]) ++ c = a ++ b :: c := by rw [List.append_assoc]; rfl
mutual
theorem st_rd : ∀ (x : Stm) (m : Nat), stV x m = true → QS s x
  | .mk k nm es b e, m, hv => by
    simp only [stV, Bool.and_eq_true, decide_eq_true_eq] at hv
    have ihb := sts_rd b (m + 1) hv.1.2
    have ihe := sts_rd e (m + 1) hv.2
    have ihx := exs_rd (s := s) es hv.1.1.2
    have hvs := hv.1.1.2
    obtain ⟨h1, h2, h3, h4, h5, h6, h7⟩ := stC_z hv.1.1.1.2
    have nilb : k ≠ 3 → k ≠ 4 → b = [] := fun a c => List.eq_nil_of_length_eq_zero (h6 a c)
    have nile : k ≠ 3 → e = [] := fun a => List.eq_nil_of_length_eq_zero (h7 a)
    rcases (by omega : k = 1 ∨ k = 2 ∨ k = 3 ∨ k = 4 ∨ k = 5 ∨ k = 6 ∨ k = 7 ∨ k = 8 ∨ k = 9 ∨ k = 10) with rfl | rfl | rfl | rfl | rfl | rfl | rfl | rfl | rfl | rfl
    · refine ⟨fun n t l ht hl hn => ?_, fun h => absurd h (by decide : ¬ (1 : Int) = 3)⟩
      cases n with
      | zero => exact absurd (by rw [pStm]) hn
      | succ n =>
        obtain rfl := nilb (by decide) (by decide)
        obtain rfl := nile (by decide)
        obtain ⟨x, rfl⟩ := len_one (l := es) (by have : es.length ≤ 1 := h5; have : 1 ≤ es.length := h4; omega)
        have ht' : Toks s t (wdK nm :: sgK [61] :: (exK x 0 ++ sgK [59] :: l)) := by
          have e : stK (.mk 1 nm [x] [] []) ++ l = wdK nm :: sgK [61] :: (exK x 0 ++ sgK [59] :: l) := by
            rw [stK]; show wdK nm :: sgK [61] :: ((exK x 0 ++ [sgK [59]]) ++ l) = _
            rw [app2]
          rw [e] at ht; exact ht
        rw [stm_id ht' (h2 rfl), if_pos (sg_is ht'.tl)] at hn ⊢
        obtain ⟨t1, e1, k1⟩ := (ihx x (List.mem_cons_self ..)).ex (by decide) ht'.tl.tl (and_no hn)
        rw [e1]
        simp only [PR.and]
        rw [exp_sg k1, expP]
        exact ⟨_, rfl, k1.tl⟩
    · refine ⟨fun n t l ht hl hn => ?_, fun h => absurd h (by decide : ¬ (2 : Int) = 3)⟩
      cases n with
      | zero => exact absurd (by rw [pStm]) hn
      | succ n =>
        obtain rfl := nilb (by decide) (by decide)
        obtain rfl := nile (by decide)
        obtain ⟨x, y, rfl⟩ := len_two (l := es) (by have : es.length ≤ 2 := h5; have : 2 ≤ es.length := h4; omega)
        have ht' : Toks s t (wdK nm :: sgK [91] :: (exK x 0 ++ sgK [93] :: sgK [61] :: (exK y 0 ++ sgK [59] :: l))) := by
          have e : stK (.mk 2 nm [x, y] [] []) ++ l = wdK nm :: sgK [91] :: (exK x 0 ++ sgK [93] :: sgK [61] :: (exK y 0 ++ sgK [59] :: l)) := by
            rw [stK]; show wdK nm :: sgK [91] :: ((exK x 0 ++ sgK [93] :: sgK [61] :: (exK y 0 ++ [sgK [59]])) ++ l) = _
            rw [List.append_assoc, List.cons_append, List.cons_append, app2]
          rw [e] at ht; exact ht
        rw [stm_id ht' (h2 rfl), if_neg (sg_no ht'.tl (by decide)), if_pos (sg_is ht'.tl)] at hn ⊢
        obtain ⟨t1, e1, k1⟩ := (ihx x (List.mem_cons_self ..)).ex (by decide) ht'.tl.tl (and_no hn)
        rw [e1] at hn ⊢
        simp only [PR.and] at hn ⊢
        rw [exp_sg k1, exp_sg k1.tl, expP] at hn ⊢
        simp only at hn ⊢
        obtain ⟨t2, e2, k2⟩ := (ihx y (List.mem_cons_of_mem _ (List.mem_cons_self ..))).ex (by decide) k1.tl.tl (and_no hn)
        rw [e2]
        simp only [PR.and]
        rw [exp_sg k2, expP]
        exact ⟨_, rfl, k2.tl⟩
    · obtain ⟨x, rfl⟩ := len_one (l := es) (by have : es.length ≤ 1 := h5; have : 1 ≤ es.length := h4; omega)
      obtain rfl := h3 rfl
      have hif : ∃ K, stK (.mk 3 [] [x] b e) = wdK ifW :: K ∧ ∀ (n : Nat) (t : PS) (l : List Tk), Toks s t (K ++ l) → NE s l → pIf s n t ≠ .out → ∃ t', pIf s n t = .ok (.mk 3 [] [x] b e) t' ∧ Toks s t' l := by
        refine ⟨sgK [40] :: (exK x 0 ++ sgK [41] :: sgK [123] :: (stKs b ++ sgK [125] :: (if e.isEmpty = true then [] else if isIf e = true then wdK elseW :: stK1 e else wdK elseW :: sgK [123] :: (stKs e ++ [sgK [125]])))), by rw [stK]; rfl, fun n t l ht hl hn => ?_⟩
        refine if_rd (ihx x (List.mem_cons_self ..)) ihb ihe ?_ hl hn
        simpa only [List.append_assoc, List.cons_append] using ht
      refine ⟨fun n t l ht hl hn => ?_, fun _ => hif⟩
      obtain ⟨K, eK, hK⟩ := hif
      cases n with
      | zero => exact absurd (by rw [pStm]) hn
      | succ n =>
        rw [eK] at ht
        have ht' : Toks s t (wdK ifW :: (K ++ l)) := ht
        have p1 : isP t [105, 102] = true := wd_is ht'
        rw [pStm, if_neg (kw_nm ht' (by decide +kernel)), if_pos p1] at hn ⊢
        exact hK n _ l ht'.tl hl hn
    · refine ⟨fun n t l ht hl hn => ?_, fun h => absurd h (by decide : ¬ (4 : Int) = 3)⟩
      obtain ⟨x, rfl⟩ := len_one (l := es) (by have : es.length ≤ 1 := h5; have : 1 ≤ es.length := h4; omega)
      obtain rfl := h3 rfl
      obtain rfl := nile (by decide)
      cases n with
      | zero => exact absurd (by rw [pStm]) hn
      | succ n =>
        have ht' : Toks s t (wdK whileW :: sgK [40] :: (exK x 0 ++ sgK [41] :: sgK [123] :: (stKs b ++ sgK [125] :: l))) := by
          have e : stK (.mk 4 [] [x] b []) ++ l = wdK whileW :: sgK [40] :: (exK x 0 ++ sgK [41] :: sgK [123] :: (stKs b ++ sgK [125] :: l)) := by
            rw [stK]; show wdK whileW :: sgK [40] :: ((exK x 0 ++ sgK [41] :: sgK [123] :: (stKs b ++ [sgK [125]])) ++ l) = _
            rw [List.append_assoc, List.cons_append, List.cons_append, app2]
          rw [e] at ht; exact ht
        have p1 : isP t [119, 104, 105, 108, 101] = true := wd_is ht'
        rw [pStm, if_neg (kw_nm ht' (by decide +kernel)), if_neg (kw_no ht' (by decide)), if_pos p1] at hn ⊢
        obtain ⟨t1, e1, k1⟩ := cond_rd (ihx x (List.mem_cons_self ..)) ihb ht'.tl (and_no hn)
        rw [e1]
        exact ⟨t1, rfl, k1⟩
    · refine ⟨fun n t l ht hl hn => ?_, fun h => absurd h (by decide : ¬ (5 : Int) = 3)⟩
      obtain rfl := nilb (by decide) (by decide)
      obtain rfl := nile (by decide)
      cases n with
      | zero => exact absurd (by rw [pStm]) hn
      | succ n =>
        have ht' : Toks s t (wdK nm :: sgK [40] :: (commaK (exKs es []) ++ sgK [41] :: sgK [59] :: l)) := by
          have e : stK (.mk 5 nm es [] []) ++ l = wdK nm :: sgK [40] :: (commaK (exKs es []) ++ sgK [41] :: sgK [59] :: l) := by
            rw [stK]; show wdK nm :: sgK [40] :: ((commaK (exKs es []) ++ [sgK [41], sgK [59]]) ++ l) = _
            rw [List.append_assoc]; rfl
          rw [e] at ht; exact ht
        rw [stm_id ht' (h2 rfl), if_neg (sg_no ht'.tl (by decide)), if_neg (sg_no ht'.tl (by decide)), exp_1 ht'.tl] at hn ⊢
        obtain ⟨t1, e1, k1⟩ := args_rd ihx ht'.tl.tl (fun hp => args_head hvs ht'.tl.tl hp) (and_no hn)
        rw [e1]
        simp only [PR.and]
        rw [exp_sg k1, expP]
        exact ⟨_, rfl, k1.tl⟩
    all_goals
      refine ⟨fun n t l ht hl hn => ?_, fun h => (by simp [Stm.kind] at h)⟩
      obtain rfl := nilb (by decide) (by decide)
      obtain rfl := nile (by decide)
      obtain rfl := h3 rfl
      cases n with
      | zero => exact absurd (by rw [pStm]) hn
      | succ n => ?_
    · obtain ⟨x, rfl⟩ := len_one (l := es) (by have : es.length ≤ 1 := h5; have : 1 ≤ es.length := h4; omega)
      have ht' : Toks s t (wdK (wordK 6) :: (exK x 0 ++ sgK [59] :: l)) := by
        have e : stK (.mk 6 [] [x] [] []) ++ l = wdK (wordK 6) :: (exK x 0 ++ sgK [59] :: l) := by
          rw [stK]; show wdK (wordK 6) :: ((exK x 0 ++ [sgK [59]]) ++ l) = _
          rw [app2]
        rw [e] at ht; exact ht
      have p1 : isP t [114, 101, 116, 117, 114, 110] = true := wd_is ht'
      rw [pStm, if_neg (kw_nm ht' (by decide +kernel)), if_neg (kw_no ht' (by decide)), if_neg (kw_no ht' (by decide)), if_pos p1] at hn ⊢
      exact st_arg (ihx x (List.mem_cons_self ..)) ht' hn
    · obtain ⟨x, rfl⟩ := len_one (l := es) (by have : es.length ≤ 1 := h5; have : 1 ≤ es.length := h4; omega)
      have ht' : Toks s t (wdK (wordK 7) :: (exK x 0 ++ sgK [59] :: l)) := by
        have e : stK (.mk 7 [] [x] [] []) ++ l = wdK (wordK 7) :: (exK x 0 ++ sgK [59] :: l) := by
          rw [stK]; show wdK (wordK 7) :: ((exK x 0 ++ [sgK [59]]) ++ l) = _
          rw [app2]
        rw [e] at ht; exact ht
      have p1 : isP t [112, 117, 116] = true := wd_is ht'
      rw [pStm, if_neg (kw_nm ht' (by decide +kernel)), if_neg (kw_no ht' (by decide)), if_neg (kw_no ht' (by decide)), if_neg (kw_no ht' (by decide)), if_pos p1] at hn ⊢
      exact st_arg (ihx x (List.mem_cons_self ..)) ht' hn
    · obtain ⟨x, rfl⟩ := len_one (l := es) (by have : es.length ≤ 1 := h5; have : 1 ≤ es.length := h4; omega)
      have ht' : Toks s t (wdK (wordK 8) :: (exK x 0 ++ sgK [59] :: l)) := by
        have e : stK (.mk 8 [] [x] [] []) ++ l = wdK (wordK 8) :: (exK x 0 ++ sgK [59] :: l) := by
          rw [stK]; show wdK (wordK 8) :: ((exK x 0 ++ [sgK [59]]) ++ l) = _
          rw [app2]
        rw [e] at ht; exact ht
      have p1 : isP t [115, 116, 111, 112] = true := wd_is ht'
      rw [pStm, if_neg (kw_nm ht' (by decide +kernel)), if_neg (kw_no ht' (by decide)), if_neg (kw_no ht' (by decide)), if_neg (kw_no ht' (by decide)), if_neg (kw_no ht' (by decide)), if_pos p1] at hn ⊢
      exact st_arg (ihx x (List.mem_cons_self ..)) ht' hn
    · obtain rfl : es = [] := List.eq_nil_of_length_eq_zero (by have : es.length ≤ 0 := h5; omega)
      have ht' : Toks s t (wdK (wordK 9) :: sgK [59] :: l) := ht
      have p1 : isP t [98, 114, 101, 97, 107] = true := wd_is ht'
      rw [pStm, if_neg (kw_nm ht' (by decide +kernel)), if_neg (kw_no ht' (by decide)), if_neg (kw_no ht' (by decide)), if_neg (kw_no ht' (by decide)), if_neg (kw_no ht' (by decide)), if_neg (kw_no ht' (by decide)), if_pos p1, exp_1 ht'.tl]
      exact ⟨_, rfl, ht'.tl.tl⟩
    · obtain rfl : es = [] := List.eq_nil_of_length_eq_zero (by have : es.length ≤ 0 := h5; omega)
      have ht' : Toks s t (wdK (wordK 10) :: sgK [59] :: l) := ht
      have p1 : isP t [99, 111, 110, 116, 105, 110, 117, 101] = true := wd_is ht'
      rw [pStm, if_neg (kw_nm ht' (by decide +kernel)), if_neg (kw_no ht' (by decide)), if_neg (kw_no ht' (by decide)), if_neg (kw_no ht' (by decide)), if_neg (kw_no ht' (by decide)), if_neg (kw_no ht' (by decide)), if_neg (kw_no ht' (by decide)), if_pos p1, exp_1 ht'.tl]
      exact ⟨_, rfl, ht'.tl.tl⟩
theorem sts_rd : ∀ (l : List Stm) (m : Nat), stVs l m = true → ∀ y ∈ l, QS s y ∧ SH y
  | [], _, _ => fun y hy => (by cases hy)
  | x :: r, m, hv => by
    simp only [stVs, Bool.and_eq_true] at hv
    have h1 := st_rd x m hv.1
    have h2 := sts_rd r m hv.2
    intro y hy
    rcases List.mem_cons.1 hy with rfl | hy
    · exact ⟨h1, st_head hv.1⟩
    · exact h2 y hy
end
-- names, numbers, globals, functions
theorem names_rd : ∀ (l : List Str) (w : Str), (∀ y ∈ w :: l, identB y = true) → ∀ (n : Nat) (acc : List Str) (t : PS) (z : Str) (r : List Tk), decide (z = [44]) = false → Toks s t (namesK (w :: l) ++ sgK z :: r) → pNames s n acc t ≠ .out → ∃ t', pNames s n acc t = .ok (acc ++ w :: l) t' ∧ Toks s t' (sgK z :: r)
  | [], w, hl, n, acc, t, z, r, hz, ht, hn => by
    cases n with
    | zero => exact absurd (by rw [pNames]) hn
    | succ n =>
      have ht' : Toks s t (wdK w :: sgK z :: r) := ht
      rw [pNames, name_id ht' (hl w (List.mem_cons_self ..)), if_neg (sg_no ht'.tl hz)]
      exact ⟨_, rfl, ht'.tl⟩
  | v :: l, w, hl, n, acc, t, z, r, hz, ht, hn => by
    cases n with
    | zero => exact absurd (by rw [pNames]) hn
    | succ n =>
      have ht' : Toks s t (wdK w :: sgK [44] :: (namesK (v :: l) ++ sgK z :: r)) := ht
      rw [pNames, name_id ht' (hl w (List.mem_cons_self ..)), if_pos (sg_is ht'.tl)] at hn ⊢
      obtain ⟨t2, e2, h2⟩ := names_rd l v (fun y hy => hl y (List.mem_cons_of_mem _ hy)) n (acc ++ [w]) _ z r hz ht'.tl.tl hn
      exact ⟨t2, by rw [e2, List.append_assoc]; rfl, h2⟩
theorem nums_rd : ∀ (l : List Int) (w : Int) (n : Nat) (acc : List Int) (t : PS) (z : Str) (r : List Tk), decide (z = [44]) = false → Toks s t (commaK ((w :: l).map fun n => [nuK n]) ++ sgK z :: r) → pNums s n acc t ≠ .out → ∃ t', pNums s n acc t = .ok (acc ++ w :: l) t' ∧ Toks s t' (sgK z :: r)
  | [], w, n, acc, t, z, r, hz, ht, hn => by
    cases n with
    | zero => exact absurd (by rw [pNums]) hn
    | succ n =>
      have ht' : Toks s t (nuK w :: sgK z :: r) := ht
      rw [pNums, numb_nu ht', if_neg (sg_no ht'.tl hz)]
      exact ⟨_, rfl, ht'.tl⟩
  | v :: l, w, n, acc, t, z, r, hz, ht, hn => by
    cases n with
    | zero => exact absurd (by rw [pNums]) hn
    | succ n =>
      have ht' : Toks s t (nuK w :: sgK [44] :: (commaK ((v :: l).map fun n => [nuK n]) ++ sgK z :: r)) := ht
      rw [pNums, numb_nu ht', if_pos (sg_is ht'.tl)] at hn ⊢
      obtain ⟨t2, e2, h2⟩ := nums_rd l v n (acc ++ [w]) _ z r hz ht'.tl.tl hn
      exact ⟨t2, by rw [e2, List.append_assoc]; rfl, h2⟩
theorem glo_rd {g : Glo} (hv : gloC g = 0) {n : Nat} {t : PS} {r : List Tk} (ht : Toks s t (gloK g ++ r)) (hn : pGlo s n t ≠ .out) : ∃ t', pGlo s n t = .ok g t' ∧ Toks s t' r := by
  obtain ⟨h1, h2, h3, h4, h5, h6⟩ := gloC_zero hv
  obtain ⟨k, nm, nu, ini⟩ := g
  simp only at h1 h2 h3 h4 h5 h6
  rcases (by omega : k = 1 ∨ k = 2 ∨ k = 3) with rfl | rfl | rfl
  · obtain rfl := h4 (by decide)
    have ht' : Toks s t (wdK constW :: wdK nm :: sgK [61] :: nuK nu :: sgK [59] :: r) := ht
    have p1 : isP t [99, 111, 110, 115, 116] = true := wd_is ht'
    rw [pGlo, if_pos p1, name_id ht'.tl h3, exp_1 ht'.tl.tl, numb_nu ht'.tl.tl.tl, exp_1 ht'.tl.tl.tl.tl]
    exact ⟨_, rfl, ht'.tl.tl.tl.tl.tl⟩
  · obtain rfl := h4 (by decide)
    obtain rfl := h5 rfl
    have ht' : Toks s t (wdK varW :: wdK nm :: sgK [59] :: r) := ht
    have p1 : isP t [118, 97, 114] = true := wd_is ht'
    rw [pGlo, if_neg (kw_no ht' (by decide)), if_pos p1, name_id ht'.tl h3, exp_1 ht'.tl.tl]
    exact ⟨_, rfl, ht'.tl.tl.tl⟩
  · have ht' : Toks s t (wdK arrayW :: wdK nm :: sgK [91] :: nuK nu :: sgK [93] :: (((if ini = [] then [] else sgK [61] :: commaK (ini.map fun n => [nuK n])) ++ [sgK [59]]) ++ r)) := ht
    have e1 : (expP s [[97, 114, 114, 97, 121]] t) = .ok () (advP s t) := by rw [expP, if_pos (show isP t [97, 114, 114, 97, 121] = true from wd_is ht'), expP]
    rw [pGlo, if_neg (kw_no ht' (by decide)), if_neg (kw_no ht' (by decide)), e1] at hn ⊢
    simp only [PR.and] at hn ⊢
    have h3' := ht'.tl.tl.tl.tl.tl
    have e2 : nameP s (advP s t) = .ok nm (advP s (advP s t)) := by rw [nameP, if_pos (isNm_id ht'.tl h3), ht'.tl.2.1]; rfl
    have e3 : expP s [[91]] (advP s (advP s t)) = .ok () (advP s (advP s (advP s t))) := by rw [exp_sg ht'.tl.tl, expP]
    have e4 : numbP s (advP s (advP s (advP s t))) = .ok nu (advP s (advP s (advP s (advP s t)))) := by rw [numbP, if_pos (show _ = (2 : Int) from ht'.tl.tl.tl.1), ht'.tl.tl.tl.2.2.1]; rfl
    have e5 : expP s [[93]] (advP s (advP s (advP s (advP s t)))) = .ok () (advP s (advP s (advP s (advP s (advP s t))))) := by rw [exp_sg ht'.tl.tl.tl.tl, expP]
    rw [e2] at hn ⊢
    simp only at hn ⊢
    rw [e3] at hn ⊢
    simp only at hn ⊢
    rw [e4] at hn ⊢
    simp only at hn ⊢
    rw [e5] at hn ⊢
    simp only at hn ⊢
    cases ini with
    | nil =>
      have h4' : Toks s _ (sgK [59] :: r) := h3'
      have e6 : ∀ k : Unit → PS → PR Glo, (match expP s [[59]] (advP s (advP s (advP s (advP s (advP s t))))) with | .ok a t => k a t | .er t => .er t | .out => .out) = k () (advP s (advP s (advP s (advP s (advP s (advP s t)))))) := fun k => by rw [exp_sg h4', expP]
      rw [if_neg (sg_no h4' (by decide)), exp_sg h4', expP]
      exact ⟨_, rfl, h4'.tl⟩
    | cons x l =>
      have h4' : Toks s (advP s (advP s (advP s (advP s (advP s t))))) (sgK [61] :: (commaK ((x :: l).map fun n => [nuK n]) ++ sgK [59] :: r)) := by
        have e : ((if (x :: l) = [] then [] else sgK [61] :: commaK ((x :: l).map fun n => [nuK n])) ++ [sgK [59]]) ++ r = sgK [61] :: (commaK ((x :: l).map fun n => [nuK n]) ++ sgK [59] :: r) := by
          rw [if_neg (by simp), app2]; rfl
        rw [e] at h3'; exact h3'
      rw [if_pos (sg_is h4')] at hn ⊢
      have hn2 : pNums s n [] (advP s (advP s (advP s (advP s (advP s (advP s t)))))) ≠ .out := fun h => by rw [h] at hn; exact hn rfl
      obtain ⟨t1, e7, k1⟩ := nums_rd l x n [] _ [59] r (by decide) h4'.tl hn2
      rw [e7]
      simp only
      rw [exp_sg k1, expP]
      exact ⟨_, rfl, k1.tl⟩
theorem body_rd {x : Fnc} (hv : fnV x) {n : Nat} {t : PS} {r : List Tk} (ht : Toks s t (sgK [41] :: sgK [123] :: ((if x.locals = [] then [] else wdK varW :: (namesK x.locals ++ [sgK [59]])) ++ (stKs x.body ++ sgK [125] :: r)))) (hn : pBody s n x.name x.params t ≠ .out) :
    ∃ t', pBody s n x.name x.params t = .ok x t' ∧ Toks s t' r := by
  obtain ⟨a1, a2, a3, a4, a5, a6⟩ := hv
  have hb := sts_rd (s := s) x.body 1 a5
  rw [pBody, exp_2 ht] at hn ⊢
  have h2 := ht.tl.tl
  by_cases hl : x.locals = []
  · rw [if_pos hl] at h2
    have h2' : Toks s (advP s (advP s t)) (stKs x.body ++ sgK [125] :: r) := h2
    have hno : ¬ isP (advP s (advP s t)) [118, 97, 114] = true := by
      have hh : ∀ (b : List Stm), stVs b 1 = true → Toks s (advP s (advP s t)) (stKs b ++ sgK [125] :: r) → ¬ isP (advP s (advP s t)) [118, 97, 114] = true := by
        intro b hb hT
        cases b with
        | nil => exact sg_no hT (by decide)
        | cons y b =>
          simp only [stVs, Bool.and_eq_true] at hb
          obtain ⟨w, q, e, hw⟩ : ∃ w q, stK y = wdK w :: q ∧ w ≠ [118, 97, 114] := by
            cases y with
            | mk k nm es b e =>
              have hy := hb.1
              simp only [stV, Bool.and_eq_true, decide_eq_true_eq] at hy
              obtain ⟨h1, h2, _⟩ := stC_z hy.1.1.1.2
              rw [stK]
              rcases (by omega : k = 3 ∨ k = 4 ∨ k = 1 ∨ k = 2 ∨ k = 5 ∨ (6 ≤ k ∧ k ≤ 10)) with rfl | rfl | rfl | rfl | rfl | hk
              · exact ⟨_, _, rfl, by decide⟩
              · exact ⟨_, _, rfl, by decide⟩
              · exact ⟨_, _, rfl, id_no (h2 rfl) (by decide +kernel)⟩
              · exact ⟨_, _, rfl, id_no (h2 rfl) (by decide +kernel)⟩
              · exact ⟨_, _, rfl, id_no (h2 rfl) (by decide +kernel)⟩
              · rcases (by omega : k = 6 ∨ k = 7 ∨ k = 8 ∨ k = 9 ∨ k = 10) with rfl | rfl | rfl | rfl | rfl <;> exact ⟨_, _, rfl, by decide⟩
          rw [stKs, e] at hT
          rw [isP_wd (w := w) hT, decide_eq_true_eq]; exact hw
      exact hh x.body a5 h2'
    rw [if_neg hno] at hn ⊢
    obtain ⟨t1, e1, k1⟩ := rest_rd x.body hb n [] _ r h2' (and_no hn)
    rw [e1]
    refine ⟨t1, ?_, k1⟩
    simp only [PR.and, List.nil_append]
    rw [← hl]
  · rw [if_neg hl] at h2
    have h2' : Toks s (advP s (advP s t)) (wdK varW :: (namesK x.locals ++ sgK [59] :: (stKs x.body ++ sgK [125] :: r))) := by
      rw [List.cons_append, app2] at h2; exact h2
    have p1 : isP (advP s (advP s t)) [118, 97, 114] = true := wd_is h2'
    rw [if_pos p1] at hn ⊢
    obtain ⟨w, l, e⟩ := List.exists_cons_of_ne_nil hl
    rw [e] at h2'
    obtain ⟨t1, e1, k1⟩ := names_rd l w (fun y hy => a4 y (List.mem_append_right _ (by rw [e]; exact hy))) n [] _ [59] _ (by decide) h2'.tl (and_no hn)
    rw [e1] at hn ⊢
    simp only [PR.and, List.nil_append] at hn ⊢
    rw [exp_sg k1, expP] at hn ⊢
    simp only at hn ⊢
    obtain ⟨t2, e2, k2⟩ := rest_rd x.body hb n [] _ r k1.tl (and_no hn)
    rw [e2]
    refine ⟨t2, ?_, k2⟩
    simp only [List.nil_append]
    rw [← e]
theorem fun_rd {x : Fnc} (hv : fnV x) {n : Nat} {t : PS} {r : List Tk} (ht : Toks s t (fncK x ++ r)) (hn : pFun s n (advP s t) ≠ .out) : ∃ t', pFun s n (advP s t) = .ok x t' ∧ Toks s t' r := by
  have hv' := hv
  obtain ⟨a1, a2, a3, a4, a5, a6⟩ := hv
  have ht' : Toks s t (wdK funcW :: wdK x.name :: sgK [40] :: (namesK x.params ++ sgK [41] :: sgK [123] :: ((if x.locals = [] then [] else wdK varW :: (namesK x.locals ++ [sgK [59]])) ++ (stKs x.body ++ sgK [125] :: r)))) := by
    have e : fncK x ++ r = wdK funcW :: wdK x.name :: sgK [40] :: (namesK x.params ++ sgK [41] :: sgK [123] :: ((if x.locals = [] then [] else wdK varW :: (namesK x.locals ++ [sgK [59]])) ++ (stKs x.body ++ sgK [125] :: r))) := by
      rw [fncK]; simp only [List.append_assoc, List.cons_append, List.nil_append]
    rw [e] at ht; exact ht
  rw [pFun, name_id ht'.tl a1, exp_1 ht'.tl.tl] at hn ⊢
  have h3 := ht'.tl.tl.tl
  by_cases hp : x.params = []
  · rw [hp] at h3
    have h3' : Toks s _ (sgK [41] :: sgK [123] :: ((if x.locals = [] then [] else wdK varW :: (namesK x.locals ++ [sgK [59]])) ++ (stKs x.body ++ sgK [125] :: r))) := h3
    rw [if_pos (sg_is h3')] at hn ⊢
    rw [← hp] at hn ⊢
    exact body_rd hv' h3' hn
  · obtain ⟨w, l, e⟩ := List.exists_cons_of_ne_nil hp
    rw [e] at h3
    have hno : ¬ isP (advP s (advP s (advP s t))) [41] = true := by
      have : ∃ q, namesK (w :: l) = wdK w :: q := by cases l <;> exact ⟨_, rfl⟩
      obtain ⟨q, eq⟩ := this
      rw [eq] at h3
      exact wd_no (w := w) h3 (a4 w (List.mem_append_left _ (by rw [e]; exact List.mem_cons_self ..))) (by decide +kernel)
    rw [if_neg hno] at hn ⊢
    obtain ⟨t1, e1, k1⟩ := names_rd l w (fun y hy => a4 y (List.mem_append_left _ (by rw [e]; exact hy))) n [] _ [41] _ (by decide) h3 (and_no hn)
    rw [e1] at hn ⊢
    simp only [PR.and, List.nil_append] at hn ⊢
    rw [← e] at hn ⊢
    exact body_rd hv' k1 hn
theorem prog_fn : ∀ (l : List Fnc), (∀ x ∈ l, fnV x) → ∀ (n : Nat) (p : Prg) (t : PS), Toks s t (l.map fncK).flatten → pProg s n p t ≠ .out → ∃ t', pProg s n p t = .ok ⟨p.globals, p.funcs ++ l⟩ t'
  | [], _, n, p, t, ht, hn => by
    cases n with
    | zero => exact absurd (by rw [pProg]) hn
    | succ n =>
      have ht' : t.next.kind = 0 := ht
      rw [pProg, if_pos ht']
      exact ⟨t, by rw [List.append_nil]⟩
  | x :: l, hl, n, p, t, ht, hn => by
    cases n with
    | zero => exact absurd (by rw [pProg]) hn
    | succ n =>
      have ht' : Toks s t (fncK x ++ (l.map fncK).flatten) := ht
      have h0 : Toks s t (wdK funcW :: _) := ht'
      have p1 : isP t [102, 117, 110, 99] = true := wd_is h0
      have hk : ¬ t.next.kind = 0 := by rw [h0.1]; exact (by decide : ¬ (1 : Int) = 0)
      rw [pProg, if_neg hk, if_pos p1] at hn ⊢
      obtain ⟨t1, e1, k1⟩ := fun_rd (hl x (List.mem_cons_self ..)) ht' (and_no hn)
      rw [e1] at hn ⊢
      simp only [PR.and] at hn ⊢
      obtain ⟨t2, e2⟩ := prog_fn l (fun y hy => hl y (List.mem_cons_of_mem _ hy)) n _ t1 k1 hn
      exact ⟨t2, by rw [e2]; simp⟩
theorem prog_gl : ∀ (l : List Glo), (∀ g ∈ l, gloC g = 0) → ∀ (fs : List Fnc), (∀ x ∈ fs, fnV x) → ∀ (n : Nat) (p : Prg) (t : PS), Toks s t ((l.map gloK).flatten ++ (fs.map fncK).flatten) → pProg s n p t ≠ .out → ∃ t', pProg s n p t = .ok ⟨p.globals ++ l, p.funcs ++ fs⟩ t'
  | [], _, fs, hf, n, p, t, ht, hn => by
    obtain ⟨t2, e2⟩ := prog_fn fs hf n p t ht hn
    exact ⟨t2, by rw [e2, List.append_nil]⟩
  | g :: l, hl, fs, hf, n, p, t, ht, hn => by
    cases n with
    | zero => exact absurd (by rw [pProg]) hn
    | succ n =>
      have ht' : Toks s t (gloK g ++ ((l.map gloK).flatten ++ (fs.map fncK).flatten)) := by
        rw [List.map_cons, List.flatten_cons, List.append_assoc] at ht; exact ht
      obtain ⟨w, q, e, hw⟩ : ∃ w q, gloK g = wdK w :: q ∧ decide (w = [102, 117, 110, 99]) = false := by
        unfold gloK
        split
        · exact ⟨_, _, rfl, by decide⟩
        · split
          · exact ⟨_, _, rfl, by decide⟩
          · exact ⟨_, _, rfl, by decide⟩
      have h0 := ht'
      rw [e] at h0
      have h0' : Toks s t (wdK w :: (q ++ ((l.map gloK).flatten ++ (fs.map fncK).flatten))) := h0
      have hk : ¬ t.next.kind = 0 := by rw [h0'.1]; exact (by decide : ¬ (1 : Int) = 0)
      rw [pProg, if_neg hk, if_neg (kw_no h0' hw)] at hn ⊢
      obtain ⟨t1, e1, k1⟩ := glo_rd (hl g (List.mem_cons_self ..)) ht' (and_no hn)
      rw [e1] at hn ⊢
      simp only [PR.and] at hn ⊢
      obtain ⟨t2, e2⟩ := prog_gl l (fun y hy => hl y (List.mem_cons_of_mem _ hy)) fs hf n _ t1 k1 hn
      exact ⟨t2, by rw [e2]; simp⟩
theorem toks_prog {s : Str} {p : Prg} (hv : PV p) (hs : s.length ≤ 12000) (hf : prgF p = (0, 0)) (h : Lx s (prgK p)) : parP s = (p, (0, 0)) := by
  have ht := h.zero
  have hn := (prog_fin s).no
  obtain ⟨t', e⟩ := prog_gl p.globals (fun g hg => (hv.2.2.1 g hg).1) p.funcs hv.2.2.2.1 (fuelP s) ⟨[], []⟩ _ ht hn
  rw [parP, if_neg O, e]
  simp only [List.nil_append]
  rw [if_neg (by rw [hf]; decide)]
theorem prF_len {p : Prg} (h : (prgF p).1 = 0) : (prgT p).length ≤ 12000 := by
  unfold prgF at h
  split at h
  · rename_i h1; exact absurd h h1
  · split at h
    · cases h
    · omega
def Gap (g : Str) : Prop := (∃ x v, g = x :: v ∧ (x = 32 ∨ x = 9 ∨ x = 10 ∨ x = 35)) ∧ ∀ r, skL false (g ++ r) = g.length + skL false r
theorem tok_hd {u : Str} (h : tk3 (rdS u).1) : ∀ c, u.head? = some c → wsB c = false ∧ c ≠ 35 := by
  have no4 : ∀ {w : Str} {x : Int}, ¬ tk3 ((4 : Int), w, x) := fun h => by rcases h with h | h | h <;> (have h' : (4 : Int) = _ := h; exact absurd h' (by decide))
  match u with
  | [] => intro c hc; cases hc
  | c :: r =>
    intro d hd
    obtain rfl : c = d := by simpa using hd
    rw [rdS] at h
    split at h
    · rename_i hc; exact al_ws (by simp [alB, hc])
    · split at h
      · rename_i hc; exact al_ws (by simp [alB, hc])
      · split at h
        · rename_i hc; subst hc; decide
        · cases hf : signsP.find? (fun x => x.isPrefixOf (c :: r)) with
          | none => rw [hf] at h; exact absurd h no4
          | some x =>
            have h1 := List.find?_some hf
            have h2 := List.mem_of_find?_eq_some hf
            have h3 : x ≠ [] ∧ wsB (x.getD 0 0) = false ∧ x.getD 0 0 ≠ 35 := (show ∀ x ∈ signsP, x ≠ [] ∧ wsB (x.getD 0 0) = false ∧ x.getD 0 0 ≠ 35 by decide +kernel) x h2
            match x, h3, h1 with
            | [], h3, _ => exact absurd rfl h3.1
            | y :: q, h3, h1 =>
              simp only [List.isPrefixOf, Bool.and_eq_true, beq_iff_eq] at h1
              obtain rfl := h1.1
              exact h3.2
theorem rd_rt {u : Str} (h : tk3 (rdS u).1) : u.take (rdS u).2 = (rdS u).1.2.1 ∧ ¬ (rtS u).1 ≤ 1 ∧ (rtS u).2.1 = (rdS u).1.2.1 ∧ (rdS u).2 = (rdS u).1.2.1.length ∧ (rdS u).2 ≤ u.length := by
  have no4 : ∀ {w : Str} {x : Int}, ¬ tk3 ((4 : Int), w, x) := fun h => by rcases h with h | h | h <;> (have h' : (4 : Int) = _ := h; exact absurd h' (by decide))
  match u with
  | [] => rcases h with h | h | h <;> exact absurd h (by decide)
  | c :: r =>
    have hl := (rdS_ok (c :: r)).1
    refine ⟨?_, ?_⟩
    · rw [rdS] at h ⊢
      split at h
      · rename_i hc
        rw [if_pos hc]
        split at h
        · rename_i hk
          rw [if_pos hk]
          exact take_tw _
        · exact absurd h no4
      · rename_i hc
        rw [if_neg hc]
        split at h
        · rename_i hd
          rw [if_pos hd]
          cases hn : numL (digL (c :: r)) with
          | none => rw [hn] at h; exact absurd h no4
          | some n => exact take_tw _
        · rename_i hd
          rw [if_neg hd]
          split at h
          · rename_i hq
            rw [if_pos hq]
            split at h
            · rename_i hb; rw [if_pos hb]
            · exact absurd h no4
          · rename_i hq
            rw [if_neg hq]
            cases hf : signsP.find? (fun x => x.isPrefixOf (c :: r)) with
            | none => rw [hf] at h; exact absurd h no4
            | some x => exact pre_iff.2 (by have := List.find?_some hf; simpa using this)
    · rw [rdS] at h hl ⊢
      rw [rtS]
      split at h
      · rename_i hc
        rw [if_pos hc] at hl
        rw [if_pos hc, if_pos hc]
        split at h
        · rename_i hk
          rw [if_pos hk] at hl
          rw [if_pos hk]
          rcases Bool.or_eq_true_iff.1 hk with hk | hk
          · rw [if_pos hk]; exact ⟨by show ¬ (4 : Int) ≤ 1; decide, rfl, rfl, hl⟩
          · split
            · exact ⟨by show ¬ (4 : Int) ≤ 1; decide, rfl, rfl, hl⟩
            · exact ⟨by show ¬ (2 : Int) ≤ 1; decide, rfl, rfl, hl⟩
        · exact absurd h no4
      · rename_i hc
        rw [if_neg hc] at hl
        rw [if_neg hc, if_neg hc]
        split at h
        · rename_i hd
          rw [if_pos hd] at hl
          rw [if_pos hd, if_pos hd]
          cases hn : numL (digL (c :: r)) with
          | none => rw [hn] at h; exact absurd h no4
          | some n => rw [hn] at hl; exact ⟨by show ¬ (3 : Int) ≤ 1; decide, rfl, rfl, hl⟩
        · rename_i hd
          rw [if_neg hd] at hl
          rw [if_neg hd, if_neg hd]
          split at h
          · rename_i hq
            rw [if_pos hq] at hl
            rw [if_pos hq, if_pos hq]
            split at h
            · rename_i hb
              rw [if_pos hb] at hl
              rw [if_pos hb, if_pos hb]
              have h3 := chr_len hb
              exact ⟨by show ¬ (3 : Int) ≤ 1; decide, rfl, by show 3 = ((c :: r).take 3).length; rw [List.length_take]; omega, hl⟩
            · exact absurd h no4
          · rename_i hq
            rw [if_neg hq] at hl
            rw [if_neg hq, if_neg hq]
            cases hf : signsP.find? (fun x => x.isPrefixOf (c :: r)) with
            | none => rw [hf] at h; exact absurd h no4
            | some x => rw [hf] at hl; exact ⟨by show ¬ (4 : Int) ≤ 1; decide, rfl, rfl, hl⟩
theorem rd_0 {u : Str} (h : (rdS u).1.1 = 0) : u = [] := by
  match u with
  | [] => rfl
  | c :: r =>
    rw [rdS] at h
    split at h
    · split at h <;> simp at h
    · split at h
      · cases hn : numL (digL (c :: r)) with
        | none => rw [hn] at h; simp at h
        | some n => rw [hn] at h; simp at h
      · split at h
        · split at h
          · simp at h
          · simp at h
        · cases hf : signsP.find? (fun x => x.isPrefixOf (c :: r)) with
          | none => rw [hf] at h; simp at h
          | some x => rw [hf] at h; simp at h
theorem Lx.any {u : Str} (h : tk3 (rdS u).1) {g r : Str} (hg : Gap g) {l : List Tk} (hl : Lx r l) : Lx ((rdS u).1.2.1 ++ (g ++ r)) ((rdS u).1 :: l) := by
  obtain ⟨⟨x, v, rfl, hx⟩, hs⟩ := hg
  obtain ⟨h1, _, _, h4, h5⟩ := rd_rt h
  have e : rdS (u.take (rdS u).2 ++ x :: (v ++ r)) = rdS u := rdS_takeX hx u _ (v ++ r) h (Nat.le_refl _) h5
  have hgd : gapD (u.take (rdS u).2 ++ x :: (v ++ r)) = u.take (rdS u).2 ++ x :: (v ++ r) := gapD_head (tok_hd (by rw [e]; exact h))
  rw [← h1]
  show Lx (u.take (rdS u).2 ++ x :: (v ++ r)) _
  refine .cons (n := (rdS u).2) (by rw [hgd, e]) h ?_
  rw [hgd, List.drop_append_of_le_length (by rw [List.length_take]; omega), List.drop_eq_nil_of_le (by rw [List.length_take]; omega), List.nil_append]
  exact gap_skip hs hl
def layT (g : Nat → Str) : Nat → List RT → Str
  | _, [] => []
  | i, t :: l => t.text ++ (g i ++ layT g (i + 1) l)
theorem lay_at {g : Nat → Str} {ts : List RT} {t : RT} {i : Nat} (h : ts[i]? = some t) : layT g i (ts.drop i) = t.text ++ (g i ++ layT g (i + 1) (ts.drop (i + 1))) := by
  obtain ⟨hk, rfl⟩ := List.getElem?_eq_some_iff.1 h
  rw [List.drop_eq_getElem_cons hk]; rfl
theorem lay_len {g : Nat → Str} {B : Nat} (hg : ∀ i, (g i).length ≤ 6) : ∀ (ts : List RT) (i : Nat), (∀ t ∈ ts, t.text.length ≤ B) → (layT g i ts).length ≤ (B + 6) * ts.length
  | [], _, _ => Nat.le_refl _
  | t :: l, i, h => by
    have h1 := h t (List.mem_cons_self ..)
    have h2 := lay_len hg l (i + 1) fun y hy => h y (List.mem_cons_of_mem _ hy)
    have h3 := hg i
    rw [layT, List.length_append, List.length_append, List.length_cons, Nat.mul_succ]; omega
theorem lay_lx {s : Str} {g : Nat → Str} (hg : ∀ i, Gap (g i)) {a : Nat} {ts : List RT} (h : RL s a ts) : ∀ {K : List Tk}, Lx (s.drop a) K → ∀ i, Lx (layT g i ts) K := by
  induction h with
  | @stop a t h hk =>
    intro K hl i
    have hu : gapD (s.drop a) = s.drop (gapN s a) := by rw [gapD, gapN, List.drop_drop]
    cases hl with
    | nil h0 =>
      rw [hu] at h0
      have ht : t.text = [] := by
        rw [h]
        show (rtS (s.drop (gapN s a))).2.1 = []
        rw [rd_0 h0]; rfl
      show Lx (t.text ++ (g i ++ [])) []
      rw [ht]
      exact gap_skip (hg i).2 .end_
    | @cons _ k n l h0 hk3 _ =>
      rw [hu] at h0
      exact absurd hk (by
        rw [h]
        show ¬ (rtS (s.drop (gapN s a))).1 ≤ 1
        exact (rd_rt (by rw [h0]; exact hk3)).2.1)
  | @next a t l h hk _ ih =>
    intro K hl i
    have hu : gapD (s.drop a) = s.drop (gapN s a) := by rw [gapD, gapN, List.drop_drop]
    cases hl with
    | nil h0 =>
      rw [hu] at h0
      exact absurd (show t.kind ≤ 1 by
        rw [h]
        show (rtS (s.drop (gapN s a))).1 ≤ 1
        rw [rd_0 h0]; decide) hk
    | @cons _ k n K h0 hk3 hl =>
      rw [hu] at h0 hl
      have h3 : tk3 (rdS (s.drop (gapN s a))).1 := by rw [h0]; exact hk3
      obtain ⟨h1, _, h4, h5, _⟩ := rd_rt h3
      have ht : t.text = (rdS (s.drop (gapN s a))).1.2.1 := by rw [h]; exact h4
      have ho : t.off = gapN s a := by rw [h]; rfl
      have hn : n = t.text.length := by rw [ht, ← h5, h0]
      have := ih (K := K) (by rw [ho, ← hn, ← List.drop_drop]; exact hl) (i + 1)
      have h6 := Lx.any h3 (hg i) this
      rw [h0] at h6
      rw [h0] at ht
      show Lx (t.text ++ (g i ++ layT g (i + 1) l)) (k :: K)
      rw [ht]; exact h6
theorem RL.len {s : Str} {a : Nat} {l : List RT} (h : RL s a l) (ha : a ≤ s.length) : l.length + a ≤ s.length + 1 ∧ ∀ t ∈ l, t.text.length ≤ s.length := by
  have hgap : ∀ a, a ≤ s.length → a ≤ gapN s a ∧ gapN s a ≤ s.length := fun a ha => by
    have := skL_le false (s.drop a)
    rw [List.length_drop] at this
    exact ⟨by unfold gapN; omega, by unfold gapN; omega⟩
  have hok : ∀ a, a ≤ s.length → a + (rtA s a).text.length ≤ s.length ∧ (¬ (rtA s a).kind ≤ 1 → 0 < (rtA s a).text.length) := fun a ha => by
    obtain ⟨h1, h2, h3⟩ := rtS_ok (s.drop a)
    rw [List.length_drop] at h1
    exact ⟨by show a + (rtS (s.drop a)).2.1.length ≤ _; omega, h3⟩
  induction h with
  | @stop a t h hk =>
    obtain ⟨g1, g2⟩ := hgap a ha
    have := (hok _ g2).1
    rw [← h] at this
    exact ⟨by rw [List.length_singleton]; omega, fun x hx => by rw [List.mem_singleton.1 hx]; omega⟩
  | @next a t l h hk _ ih =>
    obtain ⟨g1, g2⟩ := hgap a ha
    obtain ⟨h1, h2⟩ := hok _ g2
    rw [← h] at h1 h2
    have ho : t.off = gapN s a := by rw [h]; rfl
    have hp := h2 hk
    obtain ⟨i1, i2⟩ := ih O
    refine ⟨by rw [List.length_cons]; omega, fun x hx => ?_⟩
    rcases List.mem_cons.1 hx with rfl | hx
    · omega
    · exact i2 x hx
def gapsL : List Str := [[32], [10], [9, 32], [35, 32, 59, 32, 123, 10]]
def kix (k : Int) : Nat := if 0 ≤ k ∧ k ≤ 3 then k.toNat else 0
theorem kix_lt (k : Int) : kix k < 4 := by unfold kix; split <;> omega
theorem gapsL_ok : ∀ x ∈ gapsL, Gap x ∧ x.length ≤ 6 := by
  intro x hx
  simp only [gapsL, List.mem_cons, List.not_mem_nil, or_false] at hx
  rcases hx with rfl | rfl | rfl | rfl
  · exact ⟨⟨⟨32, [], rfl, .inl rfl⟩, gap_ws (by decide)⟩, by decide⟩
  · exact ⟨⟨⟨10, [], rfl, .inr (.inr (.inl rfl))⟩, gap_ws (by decide)⟩, by decide⟩
  · exact ⟨⟨⟨9, [32], rfl, .inr (.inl rfl)⟩, gap_ws (by decide)⟩, by decide⟩
  · refine ⟨⟨⟨35, _, Z, .inr (.inr (.inr Z))⟩, fun r => ?_⟩, by decide⟩
    have := rem_nl (g := [32, 59, 32, 123]) (by decide) r
    show skL false (35 :: ([32, 59, 32, 123] ++ 10 :: r)) = 6 + skL false r
    rw [skL, if_neg (by decide), if_pos rfl, this]
    show 1 + (4 + 1 + skL false r) = _
    omega
def gapF (gs : List Int) (i : Nat) : Str := gapsL.getD (kix (gs.getD (i % gs.length) 0)) []
theorem gapF_mem (gs : List Int) (i : Nat) : gapF gs i ∈ gapsL := by
  have h : kix (gs.getD (i % gs.length) 0) < gapsL.length := kix_lt _
  rw [gapF, List.getD_eq_getElem?_getD, List.getElem?_eq_getElem h]
  exact List.getElem_mem h
theorem gapF_ok (gs : List Int) (i : Nat) : Gap (gapF gs i) ∧ (gapF gs i).length ≤ 6 := gapsL_ok _ (gapF_mem gs i)
theorem lay_par {p : Prg} {ts : List RT} {gs : List Int} (hu : prU p) (hf : (prgF p).1 = 0) (hr : RL (prgT p) 0 ts) :
    parP (layT (gapF gs) 0 ts) = if 12000 < (layT (gapF gs) 0 ts).length then (⟨[], []⟩, (3, -1)) else (p, (0, 0)) := by
  have hs : (shapeF p).1 = 0 := by
    unfold prgF at hf
    split at hf
    · rename_i h1; exact absurd hf h1
    · rename_i h1; simpa using h1
  have hv := PV.of hu hs
  split
  · rename_i h; rw [parP, if_pos h]
  · rename_i h
    exact toks_prog hv O (prgF_00 hf) (lay_lx (fun i => (gapF_ok gs i).1) hr (K := prgK p) (by rw [List.drop_zero]; exact prg_lx hv hu) 0)
theorem lay_fit {p : Prg} {ts : List RT} {gs : List Int} (hf : (prgF p).1 = 0) (hr : RL (prgT p) 0 ts) : (layT (gapF gs) 0 ts).length ≤ 200000000 := by
  have hl := prF_len hf
  obtain ⟨h1, h2⟩ := hr.len (Nat.zero_le _)
  have := lay_len (g := gapF gs) (B := 12000) (fun i => (gapF_ok gs i).2) ts 0 fun t ht => by have := h2 t ht; omega
  have h3 : (12000 + 6) * ts.length ≤ (12000 + 6) * 12001 := Nat.mul_le_mul_left _ O
  omega
open Go.FL
attribute [local irreducible] JC JO JA JB thenQ blockQ retQ AC fill CellsAt QE Ev Mid
theorem Rts.at_ {s : World} {A : Option Addr} {n c k : Nat} {l : List RT} (h : Rts s A n c l) (hk : k < n) : ∃ b off x, A = some ⟨b, off, none⟩ ∧ l[k]? = some x ∧ CellsAt s b (off + k * 4) [.int .i64 x.kind, .int .i64 (x.off : Int), St x.text, .int .u32 x.num] ∧ x.text.length ≤ 9223372036854775807 ∧ U32 x.num := by
  have hl : k < l.length := by rw [← h.1]; exact hk
  obtain ⟨b, off, cs, h1, h2, _, rfl, h5⟩ := h.2.2.2 k l[k] (List.getElem?_eq_getElem hl)
  exact ⟨b, off, l[k], h1, List.getElem?_eq_getElem hl, h2, h5⟩
theorem tokensP_ac (D : Nat) (L : Hl) (s : World) (l : List UInt8) (hl : l.length ≤ 1100000) : AC Tryz.prog D 16 [St l] L s fun v L' s' => L = L' ∧ ∃ A n c' ts, v = .slice A n c' ∧ Rts s' A n c' ts ∧ RL l 0 ts := AC.pubW (tokens_ac D L s l hl)
end Go.Proofs.YtiljephghfngnaaGreatDoor
namespace Go.Proofs.YtiljephghfngnaaGreatDoor
open Go Go.FL
def Its (s : World) (A : Option Addr) (n c : Nat) (l : List Int) : Prop := Sl 1 (fun _ x cs => cs = [.int .i64 x]) s A n c l
theorem Its.le {D : Nat} {s s' : World} {A : Option Addr} {n c : Nat} {l : List Int} (h : Its s A n c l) (hl : Le D s s') : Its s' A n c l := Sl.le (fun _ _ h => h) h hl
theorem Its.at_ {s : World} {A : Option Addr} {n c k : Nat} {l : List Int} (h : Its s A n c l) (hk : k < n) : ∃ b off x, A = some ⟨b, off, none⟩ ∧ l[k]? = some x ∧ CellsAt s b (off + k) [.int .i64 x] ∧ True := by
  have hl : k < l.length := by rw [← h.1]; exact hk
  obtain ⟨b, off, cs, h1, h2, _, rfl⟩ := h.2.2.2 k l[k] (List.getElem?_eq_getElem hl)
  exact ⟨b, off, l[k], h1, List.getElem?_eq_getElem hl, by simpa using h2, trivial⟩
open Go.FL
attribute [local irreducible] JC JO JA JB thenQ blockQ retQ AC fill CellsAt QE Ev Mid
theorem gap_at {s : World} {b k : Nat} (h : CellsAt s b 0 [St [32], St [10], St [9, 32], St [35, 32, 59, 32, 123, 10]]) (hk : k < 4) : CellsAt s b (0 + k) [St (gapsL.getD k [])] := by
  unfold CellsAt at h
  exact CellsAt.one (h k (St (gapsL.getD k [])) (by
    have h2 : k < gapsL.length := hk
    show (gapsL.map fun x => St x)[k]? = _
    rw [List.getElem?_map, List.getD_eq_getElem?_getD, List.getElem?_eq_getElem h2]; rfl))
theorem remN (i n : Nat) : Value.int .i64 ((i : Int).tmod (n : Int)) = .int .i64 ((i % n : Nat) : Int) := by rw [Int.tmod_eq_emod_of_nonneg O]; rfl
theorem lay_acc {g : Nat → Str} {ts : List RT} {acc : Str} {i B : Nat} (h : acc ++ layT g i (ts.drop i) = layT g 0 ts) (hB : (layT g 0 ts).length ≤ B) : acc.length ≤ B := by
  have := congrArg List.length h
  rw [List.length_append] at this; omega
theorem lay_end {g : Nat → Str} {ts : List RT} {acc : Str} {i : Nat} (h : acc ++ layT g i (ts.drop i) = layT g 0 ts) (hi : ts.length ≤ i) : acc = layT g 0 ts := by
  rw [List.drop_eq_nil_of_le hi, layT, List.append_nil] at h; exact h
theorem lay_next {g : Nat → Str} {ts : List RT} {x : RT} {acc w : Str} {i : Nat} (h : acc ++ layT g i (ts.drop i) = layT g 0 ts) (hx : ts[i]? = some x) (hw : g i = w) : ((acc ++ x.text) ++ w) ++ layT g (i + 1) (ts.drop (i + 1)) = layT g 0 ts := by
  rw [← h, lay_at hx, hw]; simp only [List.append_assoc]
theorem lawLayout_ac (D : Nat) (L : Hl) (s : World) (hG : GP s) (d : Nat) (p : Prg) (Ag Af : Option Addr) (ng cg nf cf : Nat) (hGl : Glos s Ag ng cg p.globals) (hFn : Fncs d s Af nf cf p.funcs) (AI : Option Addr) (nI cI : Nat) (gl : List Int) (hI : Its s AI nI cI gl) : AC Tryz.prog D 6 [.agg #[.slice Ag ng cg, .slice Af nf cf], .slice AI nI cI] L s fun v L' _ => v = .bool true ∧ L = L' := by
 have hU : prU p := ⟨hGl.u, hFn.u⟩
 have hIc0 := hI.1
 have hIc := hI.2.1
 have hIc2 := hI.2.2.1
 refine AC_enter (TT := TT) (fn := Tryz.f6) TT_ok Tryz.func6 V Z Tryz.ntmps6 Z (rs := [.tmp 4]) Z [(0, _), (1, _)] Z <| Sr <| JO_boxA Z Z ?_
 intro β1 s1 h1
 refine At Z Z <| Zs <| Sr <| Jc Z Z Z (spelled_ac D _ _ (hG.le h1)) ?_
 rintro _ _ s2 h2 ⟨rfl, rfl⟩
 refine ZqnT Z Z <| Nt <| Zz Z <| Zk <| Zt <| Zs <| Sr <| JO_q (QE_ldA 0 [_, _] Z Z Z Z Z) Z <| Jc Z Z Z (rprgF_ac D _ _ d p Ag Af ng cg nf cf (hGl.le (h1.t h2)) (hFn.le (h1.t h2))) ?_
 rintro _ _ s3 h3 ⟨rfl, rfl⟩
 refine JO_q (QE_field Z Z Z Z Z Z Z Z Z) Z <| Zqne Z Z Z <| Zqm Z Z <| ?_
 refine JO_caseN (t := 18) Z (fun c4 => ?_) (fun c4 => ?_)
 ·
  refine Wf Y4 <| Wf Y4 <| Wf Y4 <| ZqT Z Z Z <| Nt <| Zy Z <| Sr <| At Z Z <| Zo <| Zu <| ?_
  refine retQ_mk [_] L (.inr Z) (.tmp Z (.nil)) Z (h1.t h2|>.t h3) (fun sR hS2 => ?_)
  exact ⟨rfl, rfl⟩
 refine Zg Z Z <| Zqm Z Z <| Zg Z Z <| Ws Y4 <| Zg Z Z <| Zqeq Z Z Z <| ZqF Z Z Z <| Nt <| ?_
 refine JC_ifD Z (fun c5 => ?_) (fun c5 => ?_)
 ·
  refine Sr <| At Z Z <| Zo <| Zu <| ?_
  refine retQ_mk [_] L (.inr Z) (.tmp Z (.nil)) Z (h1.t h2|>.t h3) (fun sR hS2 => ?_)
  exact ⟨rfl, rfl⟩
 have hz : (prgF p).1 = 0 := by first | assumption | omega
 have hgl : 0 < nI := by omega
 have hpl := prF_len hz
 refine Zk <| Zt <| Sr <| JO_q (QE_ldA 0 [_, _] Z Z Z Z Z) Z <| Jc Z Z Z (rprinted_ac D _ _ d p Ag Af ng cg nf cf (hGl.le (h1.t h2|>.t h3)) (hFn.le (h1.t h2|>.t h3)) (PV.of hU (prF_shape hz))) ?_
 rintro _ _ s6 h6 ⟨rfl, rfl⟩
 refine Jc Z Z Z (tokensP_ac D _ _ (prgT p) O) ?_
 rintro _ _ s7 h7 ⟨rfl, Atk, nt, ct, ts, rfl, hT, hRL⟩
 have hnt := hT.1
 have hnt2 := hT.2.1
 have hnt3 := hT.2.2.1
 obtain ⟨hlen1, hlen2⟩ := hRL.len (Nat.zero_le _)
 have hfit := lay_fit (gs := gl) hz hRL
 refine At Z Z <| Sr <| JO_bs [(_, _), (_, _), (_, _), (_, _)] [_, _, _, _] Z Z Z Z Z Z Z Z Z ?_
 intro βn s8 h8 hcb
 refine At Z Z <| Sr <| At Z Z <| Zs <| Sr <| At Z Z <| Zp <| JC_loop (γ := Nat × Str) (fun g => [(1, _), (2, _), (4, _), (5, _), (6, _), (7, St g.2), (8, .int .i64 (g.1 : Int))]) (fun _ => _) (fun g tw => Le D s8 tw ∧ (g.1 ≤ nt ∧ g.2 ++ layT (gapF gl) g.1 (ts.drop g.1) = layT (gapF gl) 0 ts)) (fun g => nt - g.1) (fun _ _ _ h hl => ⟨h.1.trans hl, h.2⟩) (0, []) (.cons Z (.cons Z (.cons Z (.cons Z (.cons Z (.cons Z (.cons Z (.nil _)))))))) Z ⟨Le.refl _, ⟨Nat.zero_le _, Z⟩⟩ ?_
 intro g s9 I9
 obtain ⟨i, acc⟩ := g
 obtain ⟨hi0, hacc⟩ := I9.2
 simp only at hi0 hacc
 dsimp only
 refine Zs <| Sr <| Zqm Z Z <| Zqm Z Z <| Ws Y4 <| Zqlt Z Z Z <| Nt <| ?_
 refine JC_ifD Z (fun c10 => ?_) (fun c10 => ?_)
 ·
  have hi : i < nt := by omega
  obtain ⟨bx, ox, x, rfl, hx, hcx, hxl, hxu⟩ := Rts.at_ (hT.le (h8.t I9.1)) hi
  have hxm := List.mem_of_getElem? hx
  have hxl2 := hlen2 x hxm
  have hal := lay_acc hacc hfit
  obtain ⟨bg, offg, gk, hEg, hg, hcg, _⟩ := Its.at_ (hI.le (h1.t h2|>.t h3|>.t h6|>.t h7|>.t h8|>.t I9.1)) (Nat.mod_lt i hgl)
  subst hEg
  have hgF : gapF gl i = gapsL.getD (kix gk) [] := by rw [gapF, ← hIc0, List.getD_eq_getElem?_getD (l := gl), hg]; rfl
  refine Zk <| Zt <| Zs <| Zp <| Sr <| Zqm Z Z <| Zqm Z Z <| Zqm Z Z <| Ws Y4 <| JO_q (QE_cast (QE_rem Z Z O) (remN i nI)) Z <| JO_q (QE_ia1 Z Z Z Z Z Z (Nat.mod_lt i hgl)) Z <| JO_q (QE_ldsR0 Z Z Z (hcg.le (Lr D)) Z) Z <| At Z Z <| Zs <| Sr <| Zqm Z Z <| Jc Z Z Z (in_ac D _ _ _ _ _) ?_
  rintro _ _ s11 h11 ⟨rfl, rfl⟩
  refine Zqno Z Z <| Nt <| ?_
  refine JC_ifN Z (fun c12 => ?_) (fun c12 => ?_)
  ·
   have hz0 := c12
   have hk0 : kix gk = 0 := by unfold kix; split <;> omega
   rw [hk0] at hgF
   refine Zr <| At Z Z <| JC_draw drawsMixed 13 Z _ (fun _ h => h) ?_
   intro s13 h13
   refine za 0 Z (QE_mv Z) Z <| za 1 Z (QE_mv Z) Z <| za 2 Z (QE_mv Z) Z <| za 3 Z (QE_iaN Z Z Z Z Z Z (show i < nt by omega)) Z <| za 4 Z (QE_fa Z Z Z Z) Z <| za 5 Z (QE_ldsR 2 Z Z Z (hcx.le (h11.t h13)) Z) Z <| za 6 Z (QE_sadd Z Z O) Z <| za 7 Z (QE_mv Z) Z <| za 8 Z (QE_mv Z) Z <| za 9 Z (QE_ia1 (j := 0) Z Z Z Z Z Z (show 0 < 4 by decide)) Z <| za 10 Z (QE_ldsR0 Z Z Z (gap_at (hcb.le (I9.1.t h11|>.t h13)) (show 0 < 4 by decide)) Z) Z <| za 11 Z (QE_sadd Z Z (by have h6 := (gapF_ok gl i).2; rw [hgF] at h6; simp only [List.length_append]; omega)) Z <| za 12 Z (QE_as Z) Z ?_
   refine JA_done V <| Zb <| Zt <| Zr <| Zqm Z Z <| Zqadd Z Z Z (w64 O O) <| Zqa Z Z <| Zn <| ?_
   refine thenQ_n ⟨(i + 1, (acc ++ x.text) ++ gapsL.getD 0 []), [], kp, Z, ⟨(I9.1.t h11|>.t h13), ⟨by simp only; omega, lay_next hacc hx hgF⟩⟩, (by simp only; omega)⟩
  obtain ⟨kn, rfl⟩ := Int.eq_ofNat_of_zero_le (show 0 ≤ gk by have := c12; omega)
  have hkn : kn < 4 := by have := c12; omega
  have hk0 : kix (kn : Int) = kn := by unfold kix; split <;> omega
  rw [hk0] at hgF
  refine Zk <| Zt <| JC_draw drawsMixed 13 Z _ (fun _ h => h) ?_
  intro s14 h14
  refine za 0 Z (QE_mv Z) Z <| za 1 Z (QE_mv Z) Z <| za 2 Z (QE_mv Z) Z <| za 3 Z (QE_iaN Z Z Z Z Z Z (show i < nt by omega)) Z <| za 4 Z (QE_fa Z Z Z Z) Z <| za 5 Z (QE_ldsR 2 Z Z Z (hcx.le (h11.t h14)) Z) Z <| za 6 Z (QE_sadd Z Z O) Z <| za 7 Z (QE_mv Z) Z <| za 8 Z (QE_mv Z) Z <| za 9 Z (QE_ia1 Z Z Z Z Z Z hkn) Z <| za 10 Z (QE_ldsR0 Z Z Z (gap_at (hcb.le (I9.1.t h11|>.t h14)) hkn) Z) Z <| za 11 Z (QE_sadd Z Z (by have h6 := (gapF_ok gl i).2; rw [hgF] at h6; simp only [List.length_append]; omega)) Z <| za 12 Z (QE_as Z) Z <| JA_done V ?_
  refine Zb <| Zt <| Zr <| Zqm Z Z <| Zqadd Z Z Z (w64 O O) <| Zqa Z Z <| Zn <| ?_
  refine thenQ_n ⟨(i + 1, (acc ++ x.text) ++ gapsL.getD kn []), [], kp, Z, ⟨(I9.1.t h11|>.t h14), ⟨by simp only; omega, lay_next hacc hx hgF⟩⟩, (by simp only; omega)⟩
 obtain rfl : acc = layT (gapF gl) 0 ts := lay_end hacc O
 refine Zl <| Zv <| Zv <| Zd <| Zt <| Sr <| Zqm Z Z <| Jc Z Z Z (parse_prog D _ _ (hG.le (h1.t h2|>.t h3|>.t h6|>.t h7|>.t h8|>.t I9.1)) (layT (gapF gl) 0 ts)) ?_
 rintro _ _ s15 h15 ⟨rfl, dr, pr, fr, kr, Agr, ngr, cgr, Afr, nfr, cfr, rfl, hpr, hgr, hfr⟩
 rw [lay_par hU hz hRL] at hpr
 refine Zqm Z Z <| Zqx Z Z Z <| Zqx Z Z Z <| JO_allocZ Z [_, _] Z Z ?_
 intro β16 s16 h16
 refine JO_allocZ Z [_, _] Z Z ?_
 intro β17 s17 h17
 refine Wt 1 [_, _] Y9 <| Wt 0 [_, _] Y9 <| Nt <| Zs <| Sr <| Zqm Z Z <| Zqlt2 Z Z Z Z <| Zqgt Z Z Z <| Nt <| ?_
 refine JC_ifD Z (fun c18 => ?_) (fun c18 => ?_)
 ·
  rw [if_pos O] at hpr
  cases hpr
  refine Zs <| JC_draw drawsMixed 4 Z _ (fun _ h => h) ?_
  intro s19 h19
  refine za 0 Z (QE_ldA 0 [_, _] Z Z Z Z Z) Z <| JA_1 1 V <| Jb Z trivial Z Z Z (at_ac D _ _ _ _) ?_
  rintro _ _ s20 h20 ⟨rfl, rfl⟩
  refine ⟨fun _ _ h => h, ?_⟩
  refine za 2 Z (QE_cast (v' := .bool true) (QE_aeq Z Z (eqFault _ _ _ _)) (bT ⟨Z, Z⟩)) Z <| za 3 Z (QE_as Z) Z <| JA_done V <| Zt <| Zo <| Zu <| ?_
  refine retQ_mk [_, _, _] L (.inr Z) (.tmp Z (.nil)) Z (h1.t h2|>.t h3|>.t h6|>.t h7|>.t h8|>.t I9.1|>.t h15|>.t h16|>.t h17|>.t h19|>.t h20) (fun sR hS2 => ?_)
  exact ⟨rfl, rfl⟩
 rw [if_neg O] at hpr
 cases hpr
 refine Zk <| Zt <| Sr <| W0 Y5 <| Wl 0 Y6 <| JO_q (QE_cast (v' := .bool true) (QE_eq Z Z) (bT (by rfl))) Z <| Zqm Z Z <| Zg Z Z <| JO_q (QE_ldA 2 [_, _] Z Z Z Z Z) Z <| Zg Z Z <| JO_q (QE_ldA 1 [_, _] Z Z Z Z Z) Z <| Zg Z Z <| Jc Z Z Z (sameP_ac D _ _ d p Ag Af ng cg nf cf (hGl.le (h1.t h2|>.t h3|>.t h6|>.t h7|>.t h8|>.t I9.1|>.t h15|>.t h16|>.t h17)) (hFn.le (h1.t h2|>.t h3|>.t h6|>.t h7|>.t h8|>.t I9.1|>.t h15|>.t h16|>.t h17)) dr _ _ _ _ _ _ (hgr.le (h16.t h17)) (hfr.le (h16.t h17))) ?_
 rintro _ _ s21 h21 ⟨rfl, rfl⟩
 refine ZqT Z Z Z <| At Z Z <| Zo <| ?_
 refine retQ_mk [_, _, _] L (.inr Z) (.tmp Z (.nil)) Z (h1.t h2|>.t h3|>.t h6|>.t h7|>.t h8|>.t I9.1|>.t h15|>.t h16|>.t h17|>.t h21) (fun sR hS2 => ?_)
 exact ⟨rfl, rfl⟩
end Go.Proofs.YtiljephghfngnaaGreatDoor
namespace Go.Proofs.YtiljephghfngnaaGreatDoor
open Go Go.FL Go.ChangeShapes Go.WideShapes Go.ChangeAt Go.RowKit Go.Deep
theorem own_knob : ownKnob Tryz.prog.godebug = none := by kernel_rfl
theorem laid_out : laidOutB Tryz.prog = true := by kernel_rfl
theorem mark_free (l : List Obj) : ∃ D, ∀ E, D ≤ E → ∀ o ∈ l, o ≠ dum E := by
  induction l with
  | nil => exact ⟨0, fun _ _ _ h => by cases h⟩
  | cons x l ih =>
    obtain ⟨D, hD⟩ := ih
    have hx : ∃ B, ∀ E, B ≤ E → x ≠ dum E := by
      cases x with
      | mapIter a n b c => exact ⟨n + 1, fun E hE h => by simp only [dum, Obj.mapIter.injEq] at h; omega⟩
      | _ => exact ⟨0, fun E _ h => by simp [dum] at h⟩
    obtain ⟨B, hB⟩ := hx
    refine ⟨max D B, fun E hE o ho => ?_⟩
    rcases List.mem_cons.1 ho with rfl | ho
    · exact hB E O
    · exact hD E O o ho
theorem mark_world (W : World) : ∃ D, ∀ k : Nat, W.heap[k]? ≠ some (dum D) := by
  obtain ⟨D, hD⟩ := mark_free W.heap.toList
  refine ⟨D, fun k hk => hD D (Nat.le_refl _) (dum D) ?_ Z⟩
  rw [← Array.getElem?_toList] at hk
  exact List.mem_of_getElem? hk
theorem below_of {D : Nat} {W W' : World} (hD : ∀ k : Nat, W.heap[k]? ≠ some (dum D)) (h : Le D W W') : Below W.heap.size W W' :=
  ⟨h.os, h.tape, h.output, h.size, fun k hk => (h.block k hk).resolve_left (hD k)⟩
theorem law_calls {P : Program} {f : FuncId} {args : List Value} {W : World} (h : ∀ D, AC P D f args [] W fun v L' _ => v = .bool true ∧ [] = L') :
    Calls P f args.toArray W fun e W' => e = .returned (.bool true) ∧ Below W.heap.size W W' := by
  obtain ⟨D, hD⟩ := mark_world W
  refine ((h D).2 ⟨by simp, fun x hx => by cases hx⟩).mono ?_
  rintro e w' ⟨v, L', s', h1, rfl, h3, h4, rfl, rfl⟩
  exact ⟨h1, below_of hD h4⟩
section
variable {H : Type} {enc : TypeId × Value → H} {P : Program}
theorem trodAll_stays {W W' : World} (hl : laidOutB P = true) (hb : Below W.heap.size W W') : ∀ {ts : List TypeId} {vs : List Value} {ds : List (DataW H)} {ps : List MemPlace}, (∀ t ∈ ts, P.readableRec t = true ∧ t < P.types.size) → (∀ x ∈ ps, x.block < W.heap.size) →
    DataW.TrodAll enc P W 0 (fun _ => true) true ts vs ds ps → DataW.TrodAll enc P W' 0 (fun b => decide (b < W.heap.size)) true ts vs ds ps
  | [], _, _, _, _, _, h => by
    obtain ⟨rfl, rfl, rfl⟩ := trodAll_nil h
    exact trodAll_mk0
  | t :: ts, _, _, _, hts, hp, h => by
    obtain ⟨v, vs, d, ds, a, b, rfl, rfl, rfl, h1, h2⟩ := trodAll_cons h
    have ht := hts t (List.mem_cons_self ..)
    exact trodAll_cons_mk (Below.trod hl ht.1 ht.2 h1 hb fun x hx => hp x (List.mem_append_left _ hx)) (trodAll_stays hl hb (fun t' h' => hts t' (List.mem_cons_of_mem _ h')) (fun x hx => hp x (List.mem_append_right _ hx)) h2)
theorem law_post {fn : Func} {s : ChangeSpec} {W W' : World} {args : Array Value} {ds gs : List (DataW H)} {before : List MemPlace} {tb : TypeId} (hl : laidOutB P = true) (hts : ∀ t ∈ fn.params.toList, P.readableRec t = true ∧ t < P.types.size) (hr : fn.resultTypes = #[tb]) (hb : P.underlying tb = some .bool)
    (hv : s.vars = []) (hW : DataW.Whole enc P fn.params.toList s.vars false W args.toList ds gs before) (hfn : s.fn H ds = { results := [.lit (.bool true)], args := ds }) (hB : Below W.heap.size W W') : s.post enc P fn false true false false W args (.bool true) W' := by
  have hlt : ∀ x ∈ before, x.block < W.heap.size := fun x hx => hW.lt x hx
  have hW' := hW
  obtain ⟨p, q, hA, hV, rfl, _, _⟩ := hW
  rw [hv] at hV
  obtain ⟨rfl, rfl⟩ := trodVars_none hV
  refine ⟨ds, [], p ++ [], [], p, [], hW', ?_, ?_, ?_, hB.frame _, fun h => by cases h⟩
  · rw [List.append_nil, hfn, hr]; exact trodAll_cons_mk (shut_bool hb _) trodAll_mk0
  · rw [List.append_nil, hfn]; exact trodAll_stays hl hB hts (fun x hx => hlt x (List.mem_append_left _ hx)) hA
  · rw [List.append_nil, hfn, hv]; rfl
end
def Rd (W : World) (t : TypeId) (cs : List Value) : Prop := ∃ (H : Type) (enc : TypeId × Value → H) (n : Nat) (x : DataW H × List MemPlace), DataW.trod enc Tryz.prog W 0 (fun _ => true) true n t cs = some x
section
variable {W : World} {t e : TypeId} {cs : List Value}
theorem rd_int {k : IntKind} (ht : Tryz.prog.underlying t = some (.int k)) (h : Rd W t cs) : ∃ n, cs = [.int k n] ∧ (Lit.int k n).wf = true := by
  obtain ⟨H, enc, n, x, h⟩ := h
  obtain ⟨i, h1, _, h2⟩ := DataW.trod_int ht h
  exact ⟨i, h1, h2⟩
theorem rd_str (ht : Tryz.prog.underlying t = some .string) (h : Rd W t cs) : ∃ l : List UInt8, cs = [St l] ∧ l.length ≤ 9223372036854775807 := by
  obtain ⟨H, enc, n, x, h⟩ := h
  obtain ⟨s, h1, _, h2⟩ := DataW.trod_string ht h
  refine ⟨s.data.toList, by rw [h1], ?_⟩
  have : s.data.toList.length = s.size := by rw [Array.length_toList]; rfl
  simp only [maxLen] at h2
  omega
theorem rd_field {fs : Array Field} (ht : Tryz.prog.underlying t = some (.struct fs)) (h : Rd W t cs) {sz : Nat} (hc : Tryz.prog.cellsOf t = sz) : cs.length = sz ∧ ∀ (i : Nat) (f : Field), fs[i]? = some f → ∀ (ty off n : Nat), f.type = ty → f.offset = off → Tryz.prog.cellsOf ty = n → Rd W ty ((cs.drop off).take n) := by
  obtain ⟨H, enc, n, x, h⟩ := h
  obtain ⟨xs, m, _, _, h1, h2, h3⟩ := DataW.trod_struct ht h
  refine ⟨h1.trans hc, fun i f hf ty off k e1 e2 e3 => ?_⟩
  have hi : i < xs.length := by rw [h2]; exact (Array.getElem?_eq_some_iff.1 hf).1
  have := h3 i f hf
  rw [List.getElem?_eq_getElem hi, e1, e2, e3] at this
  exact ⟨H, enc, m, _, this⟩
theorem rd_slice {sz : Nat} (ht : Tryz.prog.underlying t = some (.slice e)) (hc : Tryz.prog.cellsOf e = sz) (hp : 0 < sz) (h : Rd W t cs) : ∃ A n c, cs = [.slice A n c] ∧ n ≤ c ∧ c ≤ 9223372036854775807 ∧
    ∀ i, i < n → ∃ b off ds, A = some ⟨b, off, none⟩ ∧ CellsAt W b (off + i * sz) ds ∧ ds.length = sz ∧ Rd W e ds := by
  obtain ⟨H, enc, q, x, h⟩ := h
  rcases open_slice ht h with ⟨rfl, _⟩ | ⟨a, len, cap, m, k, D, Pl, rfl, _, h1, h2, h3, _, h4⟩
  · exact ⟨none, 0, 0, rfl, Nat.le_refl _, by omega, fun i hi => by omega⟩
  · simp only [maxLen] at h2
    refine ⟨some a, len, cap, Z, h1, by omega, fun i hi => ?_⟩
    obtain ⟨ds, k1, k2⟩ := h4 i (by simp at h3; omega)
    rw [hc] at k1
    obtain ⟨_, k3, k4⟩ := World.cells?_some k1
    obtain ⟨b, off, spot⟩ := a
    have hs : spot = none := by
      obtain ⟨ds0, j1, _⟩ := h4 0 (by simp at h3; omega)
      rw [hc, Nat.zero_mul] at j1
      obtain ⟨_, j3, j4⟩ := World.cells?_some j1
      have := j4 0 hp
      rw [List.getElem?_eq_getElem O] at this
      simpa [Addr.add] using World.cell?_spot this
    subst hs
    refine ⟨b, off, ds, Z, fun j v hj => ?_, k3, H, enc, k, _, k2⟩
    have hl : j < sz := by rw [← k3]; exact (List.getElem?_eq_some_iff.1 hj).1
    have := k4 j hl
    rw [hj, add_lit, add_lit] at this
    exact this
theorem sl_of {α : Type} [Inhabited α] {R : World → α → List Value → Prop} {sz : Nat} (ht : Tryz.prog.underlying t = some (.slice e)) (hc : Tryz.prog.cellsOf e = sz) (hp : 0 < sz) (h : Rd W t cs) (hel : ∀ ds, Rd W e ds → ∃ x : α, R W x ds) : ∃ A n c l, cs = [.slice A n c] ∧ Sl sz R W A n c l := by
  obtain ⟨A, n, c, h1, h2, h3, h4⟩ := rd_slice ht hc hp h
  obtain ⟨f, hf⟩ := choose_lt (α := α) (p := fun i x => ∃ b off ds, A = some ⟨b, off, none⟩ ∧ CellsAt W b (off + i * sz) ds ∧ ds.length = sz ∧ R W x ds) (n := n) (fun i hi => by
    obtain ⟨b, off, ds, k1, k2, k3, k4⟩ := h4 i hi
    obtain ⟨x, hx⟩ := hel ds k4
    exact ⟨x, b, off, ds, k1, k2, k3, hx⟩)
  refine ⟨A, n, c, (List.range n).map f, h1, by simp, h2, h3, fun i x hi => ?_⟩
  rw [List.getElem?_map] at hi
  cases hr : (List.range n)[i]? with
  | none => simp [hr] at hi
  | some j =>
    simp [hr] at hi
    obtain ⟨hi1, hi2⟩ := List.getElem?_eq_some_iff.1 hr
    simp at hi1 hi2
    subst hi2; subst hi
    exact hf i hi1
theorem len2 {l : List Value} (h : l.length = 2) : ∃ a b, l = [a, b] := by match l, h with | [a, b], _ => exact ⟨a, b, rfl⟩
theorem len4 {l : List Value} (h : l.length = 4) : ∃ a b c d, l = [a, b, c, d] := by match l, h with | [a, b, c, d], _ => exact ⟨a, b, c, d, rfl⟩
theorem one_eq {a b : Value} (h : [a] = [b]) : a = b := by injection h
theorem u32_wf {n : Int} (h : (Lit.int .u32 n).wf = true) : U32 n := by have := bounds_u32 h; exact ⟨by omega, by omega⟩
end
set_option maxRecDepth 100000
instance : Inhabited Ex := ⟨.mk 0 0 0 [] []⟩
instance : Inhabited Stm := ⟨.mk 0 [] [] [] []⟩
instance : Inhabited Fnc := ⟨⟨[], [], [], []⟩⟩
instance : Inhabited Glo := ⟨⟨0, [], 0, []⟩⟩
theorem c_int : Tryz.prog.cellsOf 3 = 1 := by kernel_rfl
theorem c_u32 : Tryz.prog.cellsOf 40 = 1 := by kernel_rfl
theorem c_str : Tryz.prog.cellsOf 9 = 1 := by kernel_rfl
theorem c_strs : Tryz.prog.cellsOf 44 = 1 := by kernel_rfl
theorem c_words : Tryz.prog.cellsOf 50 = 1 := by kernel_rfl
theorem c_ex : Tryz.prog.cellsOf 97 = 5 := by kernel_rfl
theorem c_exs : Tryz.prog.cellsOf 95 = 1 := by kernel_rfl
theorem c_st : Tryz.prog.cellsOf 100 = 5 := by kernel_rfl
theorem c_sts : Tryz.prog.cellsOf 54 = 1 := by kernel_rfl
theorem c_fn : Tryz.prog.cellsOf 56 = 4 := by kernel_rfl
theorem c_fns : Tryz.prog.cellsOf 23 = 1 := by kernel_rfl
theorem c_gl : Tryz.prog.cellsOf 52 = 4 := by kernel_rfl
theorem c_gls : Tryz.prog.cellsOf 22 = 1 := by kernel_rfl
theorem c_prg : Tryz.prog.cellsOf 25 = 2 := by kernel_rfl
theorem len5 {l : List Value} (h : l.length = 5) : ∃ a b c d e, l = [a, b, c, d, e] := by match l, h with | [a, b, c, d, e], _ => exact ⟨a, b, c, d, e, rfl⟩
def RdN (n : Nat) (W : World) (t : TypeId) (cs : List Value) : Prop := ∃ (H : Type) (enc : TypeId × Value → H) (x : DataW H × List MemPlace), DataW.trod enc Tryz.prog W 0 (fun _ => true) true n t cs = some x
section
variable {W : World} {t e : TypeId} {cs : List Value}
theorem RdN.rd {n : Nat} (h : RdN n W t cs) : Rd W t cs := by
  obtain ⟨H, enc, x, h⟩ := h
  exact ⟨H, enc, n, x, h⟩
theorem rdn_field {n : Nat} {fs : Array Field} (ht : Tryz.prog.underlying t = some (.struct fs)) (h : RdN n W t cs) {sz : Nat} (hc : Tryz.prog.cellsOf t = sz) : cs.length = sz ∧ ∃ m, n = m + 1 ∧ ∀ (i : Nat) (f : Field), fs[i]? = some f → ∀ (ty off k : Nat), f.type = ty → f.offset = off → Tryz.prog.cellsOf ty = k → RdN m W ty ((cs.drop off).take k) := by
  obtain ⟨H, enc, x, h⟩ := h
  obtain ⟨xs, m, hm, _, h1, h2, h3⟩ := DataW.trod_struct ht h
  refine ⟨h1.trans hc, m, hm, fun i f hf ty off k e1 e2 e3 => ?_⟩
  have hi : i < xs.length := by rw [h2]; exact (Array.getElem?_eq_some_iff.1 hf).1
  have := h3 i f hf
  rw [List.getElem?_eq_getElem hi, e1, e2, e3] at this
  exact ⟨H, enc, _, this⟩
theorem rdn_slice {n sz : Nat} (ht : Tryz.prog.underlying t = some (.slice e)) (hc : Tryz.prog.cellsOf e = sz) (hp : 0 < sz) (h : RdN n W t cs) : ∃ A m c, cs = [.slice A m c] ∧ m ≤ c ∧ c ≤ 9223372036854775807 ∧
    ∀ i, i < m → ∃ b off ds q, A = some ⟨b, off, none⟩ ∧ CellsAt W b (off + i * sz) ds ∧ ds.length = sz ∧ n = q + 1 ∧ RdN q W e ds := by
  obtain ⟨H, enc, x, h⟩ := h
  rcases DataW.trod_slice ht h with ⟨rfl, _⟩ | ⟨a, len, cap, elems, rest, q, hq, rfl, _, _, h1, h2, hlen, hel, _, _⟩
  · exact ⟨none, 0, 0, rfl, Nat.le_refl _, by omega, fun i hi => by omega⟩
  · simp only [maxLen] at h2
    have h4 : ∀ i, i < len → ∃ ds x, W.cells? 0 (a.add (i * sz)) sz = some ds ∧ DataW.trod enc Tryz.prog W 0 (fun _ => true) true q e ds = some x := by
      intro i hi
      have := hel i hi
      rw [List.getElem?_eq_getElem O, hc] at this
      obtain ⟨ds, k1, k2⟩ := Option.bind_eq_some_iff.1 this
      exact ⟨ds, _, k1, k2⟩
    refine ⟨some a, len, cap, Z, h1, by omega, fun i hi => ?_⟩
    obtain ⟨ds, y, k1, k2⟩ := h4 i hi
    obtain ⟨_, k3, k4⟩ := World.cells?_some k1
    obtain ⟨b, off, spot⟩ := a
    have hs : spot = none := by
      obtain ⟨ds0, _, j1, _⟩ := h4 0 O
      rw [Nat.zero_mul] at j1
      obtain ⟨_, j3, j4⟩ := World.cells?_some j1
      have := j4 0 hp
      rw [List.getElem?_eq_getElem O] at this
      simpa [Addr.add] using World.cell?_spot this
    subst hs
    refine ⟨b, off, ds, q, Z, fun j v hj => ?_, k3, hq, H, enc, _, k2⟩
    have hl : j < sz := by rw [← k3]; exact (List.getElem?_eq_some_iff.1 hj).1
    have := k4 j hl
    rw [hj, add_lit, add_lit] at this
    exact this
theorem sln_of {α : Type} [Inhabited α] {R : World → α → List Value → Prop} {n sz : Nat} (ht : Tryz.prog.underlying t = some (.slice e)) (hc : Tryz.prog.cellsOf e = sz) (hp : 0 < sz) (h : RdN n W t cs) (hel : ∀ q, n = q + 1 → ∀ ds, RdN q W e ds → ∃ x : α, R W x ds) : ∃ A m c l, cs = [.slice A m c] ∧ Sl sz R W A m c l := by
  obtain ⟨A, m, c, h1, h2, h3, h4⟩ := rdn_slice ht hc hp h
  obtain ⟨f, hf⟩ := choose_lt (α := α) (p := fun i x => ∃ b off ds, A = some ⟨b, off, none⟩ ∧ CellsAt W b (off + i * sz) ds ∧ ds.length = sz ∧ R W x ds) (n := m) (fun i hi => by
    obtain ⟨b, off, ds, q, k1, k2, k3, k5, k4⟩ := h4 i hi
    obtain ⟨x, hx⟩ := hel q k5 ds k4
    exact ⟨x, b, off, ds, k1, k2, k3, hx⟩)
  refine ⟨A, m, c, (List.range m).map f, h1, by simp, h2, h3, fun i x hi => ?_⟩
  rw [List.getElem?_map] at hi
  cases hr : (List.range m)[i]? with
  | none => simp [hr] at hi
  | some j =>
    simp [hr] at hi
    obtain ⟨hi1, hi2⟩ := List.getElem?_eq_some_iff.1 hr
    simp at hi1 hi2
    subst hi2; subst hi
    exact hf i hi1
theorem rd_words (h : Rd W 50 cs) : ∃ A n c l, cs = [.slice A n c] ∧ Wds W A n c l := sl_of Tryz.underlying50 c_u32 (by decide) h fun _ hd => by
  obtain ⟨n, h1, h2⟩ := rd_int Tryz.underlying40 hd
  exact ⟨n, h1, u32_wf h2⟩
theorem rd_strs (h : Rd W 44 cs) : ∃ A n c l, cs = [.slice A n c] ∧ Strs W A n c l :=
  sl_of (α := List UInt8) (R := fun _ x cs => cs = [St x] ∧ x.length ≤ 9223372036854775807) Tryz.underlying44 c_str (by decide) h (fun _ hd => rd_str Tryz.underlying9 hd)
theorem rd_ex (n : Nat) : ∀ cs, RdN n W 97 cs → ∃ x : Ex, ExR n W x cs := by
  refine Nat.strongRecOn n ?_
  intro n ih cs h
  obtain ⟨h1, m, rfl, h2⟩ := rdn_field Tryz.underlying97 h c_ex
  obtain ⟨a, b, c, d, e, rfl⟩ := len5 h1
  obtain ⟨k, e1, _⟩ := rd_int Tryz.underlying3 (h2 0 _ rfl _ _ _ rfl rfl c_int).rd
  obtain ⟨o, e2, _⟩ := rd_int Tryz.underlying3 (h2 1 _ rfl _ _ _ rfl rfl c_int).rd
  obtain ⟨u, e3, w3⟩ := rd_int Tryz.underlying40 (h2 2 _ rfl _ _ _ rfl rfl c_u32).rd
  obtain ⟨w, e4, w4⟩ := rd_str Tryz.underlying9 (h2 3 _ rfl _ _ _ rfl rfl c_str).rd
  obtain ⟨A, p, q, l, e5, w5⟩ := sln_of (R := ExR m) Tryz.underlying95 c_ex (by decide) (h2 4 _ rfl _ _ _ rfl rfl c_exs) fun q hq ds hd => by
    obtain ⟨x, hx⟩ := ih q O ds hd
    exact ⟨x, hx.up O⟩
  have z1 : a = .int .i64 k := one_eq e1
  have z2 : b = .int .i64 o := one_eq e2
  have z3 : c = .int .u32 u := one_eq e3
  have z4 : d = St w := one_eq e4
  have z5 : e = .slice A p q := one_eq e5
  subst z1; subst z2; subst z3; subst z4; subst z5
  exact ⟨.mk k o u w l, A, p, q, rfl, w5, u32_wf w3, w4⟩
theorem rd_exs {n : Nat} (h : RdN n W 95 cs) : ∃ A m c l, cs = [.slice A m c] ∧ Exs n W A m c l :=
  sln_of (R := ExR n) Tryz.underlying95 c_ex (by decide) h fun q hq ds hd => by
    obtain ⟨x, hx⟩ := rd_ex q ds hd
    exact ⟨x, hx.up O⟩
theorem rd_st (n : Nat) : ∀ cs, RdN n W 100 cs → ∃ x : Stm, StR n W x cs := by
  refine Nat.strongRecOn n ?_
  intro n ih cs h
  obtain ⟨h1, m, rfl, h2⟩ := rdn_field Tryz.underlying100 h c_st
  obtain ⟨a, b, c, d, e, rfl⟩ := len5 h1
  have hB : ∀ {cs}, RdN m W 54 cs → ∃ A p q l, cs = [.slice A p q] ∧ Sl 5 (StR m) W A p q l := fun h => sln_of (R := StR m) Tryz.underlying54 c_st (by decide) h fun q hq ds hd => by
    obtain ⟨x, hx⟩ := ih q O ds hd
    exact ⟨x, hx.up O⟩
  obtain ⟨k, e1, _⟩ := rd_int Tryz.underlying3 (h2 0 _ rfl _ _ _ rfl rfl c_int).rd
  obtain ⟨w, e2, w2⟩ := rd_str Tryz.underlying9 (h2 1 _ rfl _ _ _ rfl rfl c_str).rd
  obtain ⟨A1, p1, q1, l1, e3, w3⟩ := rd_exs (h2 2 _ rfl _ _ _ rfl rfl c_exs)
  obtain ⟨A2, p2, q2, l2, e4, w4⟩ := hB (h2 3 _ rfl _ _ _ rfl rfl c_sts)
  obtain ⟨A3, p3, q3, l3, e5, w5⟩ := hB (h2 4 _ rfl _ _ _ rfl rfl c_sts)
  have z1 : a = .int .i64 k := one_eq e1
  have z2 : b = St w := one_eq e2
  have z3 : c = .slice A1 p1 q1 := one_eq e3
  have z4 : d = .slice A2 p2 q2 := one_eq e4
  have z5 : e = .slice A3 p3 q3 := one_eq e5
  subst z1; subst z2; subst z3; subst z4; subst z5
  exact ⟨.mk k w l1 l2 l3, A1, p1, q1, A2, p2, q2, A3, p3, q3, rfl, w3, w4, w5, w2⟩
theorem rd_sts {n : Nat} (h : RdN n W 54 cs) : ∃ A m c l, cs = [.slice A m c] ∧ Stms n W A m c l :=
  sln_of (R := StR n) Tryz.underlying54 c_st (by decide) h fun q hq ds hd => by
    obtain ⟨x, hx⟩ := rd_st q ds hd
    exact ⟨x, hx.up O⟩
theorem FnR.up {d e : Nat} {s : World} {x : Fnc} {cs : List Value} (h : FnR d s x cs) (he : d ≤ e) : FnR e s x cs := by
  obtain ⟨A1, n1, c1, A2, n2, c2, A3, n3, c3, h1, h2, h3, h4, h5⟩ := h
  exact ⟨A1, n1, c1, A2, n2, c2, A3, n3, c3, h1, h2, h3, Stms.up h4 he, h5⟩
theorem rd_fn {n : Nat} {cs : List Value} (h : RdN n W 56 cs) : ∃ x : Fnc, FnR n W x cs := by
  obtain ⟨h1, m, rfl, h2⟩ := rdn_field Tryz.underlying56 h c_fn
  obtain ⟨a, b, c, d, rfl⟩ := len4 h1
  obtain ⟨w, e1, w1⟩ := rd_str Tryz.underlying9 (h2 0 _ rfl _ _ _ rfl rfl c_str).rd
  obtain ⟨A1, p1, q1, l1, e2, w2⟩ := rd_strs (h2 1 _ rfl _ _ _ rfl rfl c_strs).rd
  obtain ⟨A2, p2, q2, l2, e3, w3⟩ := rd_strs (h2 2 _ rfl _ _ _ rfl rfl c_strs).rd
  obtain ⟨A3, p3, q3, l3, e4, w4⟩ := rd_sts (h2 3 _ rfl _ _ _ rfl rfl c_sts)
  have z1 : a = St w := one_eq e1
  have z2 : b = .slice A1 p1 q1 := one_eq e2
  have z3 : c = .slice A2 p2 q2 := one_eq e3
  have z4 : d = .slice A3 p3 q3 := one_eq e4
  subst z1; subst z2; subst z3; subst z4
  exact ⟨⟨w, l1, l2, l3⟩, A1, p1, q1, A2, p2, q2, A3, p3, q3, rfl, w2, w3, Stms.up w4 O, w1⟩
theorem rd_gl {cs : List Value} (h : Rd W 52 cs) : ∃ x : Glo, GlR W x cs := by
  obtain ⟨h1, h2⟩ := rd_field Tryz.underlying52 h c_gl
  obtain ⟨a, b, c, d, rfl⟩ := len4 h1
  obtain ⟨k, e1, _⟩ := rd_int Tryz.underlying3 (h2 0 _ rfl _ _ _ rfl rfl c_int)
  obtain ⟨w, e2, w2⟩ := rd_str Tryz.underlying9 (h2 1 _ rfl _ _ _ rfl rfl c_str)
  obtain ⟨u, e3, w3⟩ := rd_int Tryz.underlying40 (h2 2 _ rfl _ _ _ rfl rfl c_u32)
  obtain ⟨A, p, q, l, e4, w4⟩ := rd_words (h2 3 _ rfl _ _ _ rfl rfl c_words)
  have z1 : a = .int .i64 k := one_eq e1
  have z2 : b = St w := one_eq e2
  have z3 : c = .int .u32 u := one_eq e3
  have z4 : d = .slice A p q := one_eq e4
  subst z1; subst z2; subst z3; subst z4
  exact ⟨⟨k, w, u, l⟩, A, p, q, rfl, w4, u32_wf w3, w2⟩
theorem rd_prg {n : Nat} {cs : List Value} (h : RdN n W 25 cs) : ∃ (p : Prg) (Ag Af : Option Addr) (ng cg nf cf : Nat), cs = [.slice Ag ng cg, .slice Af nf cf] ∧ Glos W Ag ng cg p.globals ∧ Fncs n W Af nf cf p.funcs := by
  obtain ⟨h1, m, rfl, h2⟩ := rdn_field Tryz.underlying25 h c_prg
  obtain ⟨a, b, rfl⟩ := len2 h1
  obtain ⟨Ag, ng, cg, lg, e1, w1⟩ := sl_of (R := GlR) Tryz.underlying22 c_gl (by decide) (h2 0 _ rfl _ _ _ rfl rfl c_gls).rd fun _ hd => rd_gl hd
  obtain ⟨Af, nf, cf, lf, e2, w2⟩ := sln_of (R := FnR (m + 1)) Tryz.underlying23 c_fn (by decide) (h2 1 _ rfl _ _ _ rfl rfl c_fns) fun q hq ds hd => by
    obtain ⟨x, hx⟩ := rd_fn hd
    exact ⟨x, hx.up O⟩
  have z1 : a = .slice Ag ng cg := one_eq e1
  have z2 : b = .slice Af nf cf := one_eq e2
  subst z1; subst z2
  exact ⟨⟨lg, lf⟩, Ag, Af, ng, cg, nf, cf, rfl, w1, w2⟩
end
section
variable {H : Type} {enc : TypeId × Value → H} {W : World} {base : Nat} {v : Value} {d : DataW H} {ps : List MemPlace}
theorem rd_of {t : TypeId} (hd : DataW.Trod enc Tryz.prog W 0 (fun _ => true) true t v d ps) : Rd W t v.cells.toList := by
  obtain ⟨n, h⟩ := hd
  exact ⟨H, enc, n, _, h⟩
theorem agg_of {t : TypeId} {fs : Array Field} (ht : Tryz.prog.underlying t = some (.struct fs)) (hv : Value.okWide Tryz.prog W .any base t v) : ∃ cs, v = .agg cs := by
  unfold Value.okWide at hv
  rw [ht] at hv
  obtain ⟨cs, h, _⟩ := hv
  exact ⟨cs, h⟩
theorem arg_prg (hv : Value.okWide Tryz.prog W .any base 25 v) (hd : DataW.Trod enc Tryz.prog W 0 (fun _ => true) true 25 v d ps) : ∃ (m : Nat) (p : Prg) (Ag Af : Option Addr) (ng cg nf cf : Nat), v = .agg #[.slice Ag ng cg, .slice Af nf cf] ∧ Glos W Ag ng cg p.globals ∧ Fncs m W Af nf cf p.funcs := by
  obtain ⟨cs, rfl⟩ := agg_of Tryz.underlying25 hv
  obtain ⟨n, h⟩ := hd
  obtain ⟨p, Ag, Af, ng, cg, nf, cf, h1, h2, h3⟩ := rd_prg (n := n) ⟨H, enc, _, h⟩
  refine ⟨n, p, Ag, Af, ng, cg, nf, cf, ?_, h2, h3⟩
  simp only [Value.cells] at h1
  rw [← h1]
end
theorem gw_var {W : World} {nm : String} {g : Nat} {cs : Array Value} (hg : Tryz.prog.globalNamed nm = some g) (h : W.var? Tryz.prog nm = some cs) : ∃ ty fz, W.heap[g]? = some (.cells cs ty fz) := by
  unfold World.var? at h
  rw [hg] at h
  simp only [Option.bind_some] at h
  split at h
  · rename_i c t f hb
    injection h with h
    subst h
    exact ⟨t, f, hb⟩
  · cases h
theorem row_err (u : TypeId) (hu : Tryz.prog.typeName? 3 u = Tryz.prog.typeName? 3 227) : u = 227 :=
  have hn : Tryz.prog.typeName? 3 227 = some ("*" ++ "errors.errorString") := by kernel_rfl
  typeName_ptr_named (nm := "errors.errorString") V V (by decide) u (hu.trans hn)
theorem gp_of {W : World} (h : laidMetH Tryz.prog Rows.syntaxPrintMatchesSpecRow.laid W) : GP W := by
  rw [MakeChecks.laidMetH_plain _ _ _ V] at h
  have h2 := h.tail.tail
  have hpow := Lib.tabIs_of_head (zs := Lib.pow10Tab) (k := .u64) (g := 2) V V Tryz.underlying216 Tryz.underlying128 V V h2
  have h4 := h2.tail
  obtain ⟨a1, s1, hv1, _⟩ := laid_sentinel (g := 5) h4 V V Tryz.underlying124 (fun u hu => row_err u (hu.trans V)) Tryz.underlying227 Tryz.underlying229 rfl rfl Tryz.underlying9 V V
  obtain ⟨a2, s2, hv2, _⟩ := laid_sentinel (g := 4) h4.tail V V Tryz.underlying124 (fun u hu => row_err u (hu.trans V)) Tryz.underlying227 Tryz.underlying229 rfl rfl Tryz.underlying9 V V
  have hasc := Lib.tabIs_of_head (zs := Lib.asciiSpaceTab) (k := .u8) (g := 0) V V Tryz.underlying119 Tryz.underlying5 V V h4.tail.tail.tail
  refine ⟨⟨?_, ?_, ?_⟩, gw_var (g := 0) V hasc⟩
  · exact gw_var (g := 2) V hpow
  · exact ⟨_, _, World.var?_cell (g := 4) V hv2 0⟩
  · exact ⟨_, _, World.var?_cell (g := 5) V hv1 0⟩
set_option maxRecDepth 100000
section
variable {H : Type} {enc : TypeId × Value → H} {W : World} {base : Nat} {v : Value} {d : DataW H} {ps : List MemPlace}
theorem cell_sl {t e : TypeId} (ht : Tryz.prog.underlying t = some (.slice e)) (hv : Value.okWide Tryz.prog W .any base t v) : v.cells.toList = [v] := by
  unfold Value.okWide at hv
  rw [ht] at hv
  simp only [Cell.okWide] at hv
  cases v <;> simp_all [Value.cells, Cell.ok]
theorem rd_ints {cs : List Value} (h : Rd W 43 cs) : ∃ A n c l, cs = [.slice A n c] ∧ Its W A n c l := sl_of Tryz.underlying43 c_int (by decide) h fun _ hd => by
  obtain ⟨n, h1, h2⟩ := rd_int Tryz.underlying3 hd
  exact ⟨n, h1⟩
theorem arg_ints (hv : Value.okWide Tryz.prog W .any base 43 v) (hd : DataW.Trod enc Tryz.prog W 0 (fun _ => true) true 43 v d ps) : ∃ A n c l, v = .slice A n c ∧ Its W A n c l := by
  obtain ⟨A, n, c, l, h1, h2⟩ := rd_ints (rd_of hd)
  rw [cell_sl Tryz.underlying43 hv] at h1
  exact ⟨A, n, c, l, one_eq h1, h2⟩
end
open Go Go.FL Go.ChangeShapes Go.WideShapes Go.ChangeAt Go.RowKit
theorem syntaxLayoutDoesNotMatter_reads : ∀ t ∈ Tryz.f6.params.toList, Tryz.prog.readableRec t = true ∧ t < Tryz.prog.types.size := by
  rw [Tryz.params6]
  intro t ht
  simp only [List.mem_cons, List.not_mem_nil, or_false] at ht
  rcases ht with rfl | rfl <;> exact ⟨by kernel_rfl, of_decide_eq_true V⟩
theorem syntaxLayoutDoesNotMatter_contract (H : Type) (enc : TypeId × Value → H) (W : World) (base : Nat) (args : Array Value) (ds gs : List (DataW H)) (before : List MemPlace)
    (hval : ∀ (j : Nat) t v, Tryz.f6.params[j]? = some t → args[j]? = some v → Value.okWide Tryz.prog W .any base t v)
    (hW : DataW.Whole enc Tryz.prog Tryz.f6.params.toList Rows.syntaxLayoutDoesNotMatterSpec.vars false W args.toList ds gs before) (hL : laidMetH Tryz.prog Rows.syntaxLayoutDoesNotMatterRow.laid W) :
    Calls Tryz.prog 6 args W fun e W' => ∃ v, e = .returned v ∧ Rows.syntaxLayoutDoesNotMatterSpec.post enc Tryz.prog Tryz.f6 false true false false W args v W' := by
  have hW' := hW
  obtain ⟨p, q, hA0, hV, rfl, hfz, hnd⟩ := hW'
  have hA : DataW.TrodAll enc Tryz.prog W 0 (fun _ => true) true Tryz.f6.params.toList args.toList ds p := hA0
  rw [Tryz.params6] at hA hval
  obtain ⟨v0, vs0, d0, ds0, p0, q0, hargs0, rfl, rfl, h0, r0⟩ := trodAll_cons hA
  obtain ⟨v1, vs1, d1, ds1, p1, q1, hargs1, rfl, rfl, h1, r1⟩ := trodAll_cons r0
  obtain ⟨rfl, rfl, rfl⟩ := trodAll_nil r1
  obtain rfl : args = #[v0, v1] := by cases args; simp_all
  obtain ⟨rfl, rfl⟩ := trodVars_none hV
  obtain ⟨m0, p0, Ag0, Af0, ng0, cg0, nf0, cf0, rfl, hGl0, hFn0⟩ := arg_prg (hval 0 25 v0 rfl rfl) h0
  obtain ⟨A1, n1, c1, l1, rfl, hI1⟩ := arg_ints (hval 1 43 v1 rfl rfl) h1
  refine (law_calls (args := [_, _]) fun D => lawLayout_ac D [] W (gp_of hL) m0 p0 Ag0 Af0 ng0 cg0 nf0 cf0 hGl0 hFn0 A1 n1 c1 l1 hI1).mono fun e W' ⟨he, hg⟩ => ?_
  subst he
  exact ⟨_, rfl, law_post laid_out syntaxLayoutDoesNotMatter_reads V Tryz.underlying4 rfl hW rfl hg⟩
theorem syntaxLayoutDoesNotMatter_lifted (os : Os) (started : os.Started) (H : Type) (enc : TypeId × Value → H) :
    ReturnsInHanded {} Tryz.checked os 6 .any (fun w args => (Rows.syntaxLayoutDoesNotMatterSpec.pre enc Tryz.prog Tryz.f6 [] false w args ∧ laidMetH Tryz.prog Rows.syntaxLayoutDoesNotMatterRow.laid w) ∧ sizedMet enc Tryz.prog Tryz.f6 (OpenSpec.ofChange Rows.syntaxLayoutDoesNotMatterSpec) false w args) (Rows.syntaxLayoutDoesNotMatterSpec.post enc Tryz.prog Tryz.f6 false true false false) := by
  refine returnsInHanded_of_change_and (C := Tryz.checked) (X := fun w _ => laidMetH Tryz.prog Rows.syntaxLayoutDoesNotMatterRow.laid w) (fun _ _ _ hh h => h.of_heap hh) own_knob started V Tryz.func6
    (ChangeSpec.witness_shaped (enc := enc) (C := Tryz.checked) (os := os) (X := fun w _ => laidMetH Tryz.prog Rows.syntaxLayoutDoesNotMatterRow.laid w) false (World.laidAll Tryz.prog os Rows.syntaxLayoutDoesNotMatterRow.laid) #[.agg #[.slice none 0 0, .slice none 0 0], .slice none 0 0] 8 (World.laidAll_os _ _ _)
      (World.shaped_of_ZipB V V) V V V
      (by rw [MakeChecks.laidMetH_plain _ _ _ V]; exact laidMet_laidAll _ V V)) ?_
  intro W base args ds gs before hval hW _ _ hL _
  exact syntaxLayoutDoesNotMatter_contract H enc W base args ds gs before hval hW hL
theorem syntaxLayoutDoesNotMatter_said : Rows.SyntaxLayoutDoesNotMatterSaid :=
  OpenClaim.holds_of_wide 6 Tryz.f6 rfl rfl rfl rfl rfl rfl rfl ⟨rfl, rfl, rfl, rfl, rfl⟩ rfl rfl rfl rfl rfl V Tryz.func6 V
    (of_decide_eq_true V) (by unfold Func.isWrapper; first | (rw [if_pos (by decide +kernel)]; kernel_rfl) | (rw [if_neg (by decide +kernel)]; exact ⟨rfl, rfl⟩))
    (fun os started H enc _ => syntaxLayoutDoesNotMatter_lifted os started H enc)
theorem syntaxLayoutDoesNotMatter_plain (f : FuncId) (fn : Func) (hf : Tryz.pinned.checked.prog.funcNamed Rows.syntaxLayoutDoesNotMatterRow.func = some f) (hfn : Tryz.pinned.checked.prog.funcs[f]? = some fn) : true = Tryz.pinned.checked.prog.looks [] ∧ ∀ (j : Nat) t, fn.params[j]? = some t → Tryz.pinned.checked.prog.wantsStandIn t = false := by
  obtain rfl : f = 6 := Option.some.inj ((show Tryz.prog.funcNamed Rows.syntaxLayoutDoesNotMatterRow.func = some 6 by kernel_rfl).symm.trans hf) |>.symm
  obtain rfl : fn = Tryz.f6 := (Option.some.inj (Tryz.func6.symm.trans hfn)).symm
  exact ⟨by kernel_rfl, fun j t ht => by
    rw [Tryz.params6] at ht
    have hm : t ∈ [25, 43] := by simpa using Array.mem_of_getElem? ht
    have hall : ([25, 43].all fun u => !Tryz.prog.wantsStandIn u) = true := by kernel_rfl
    exact (show Tryz.prog.wantsStandIn t = false by simpa using List.all_eq_true.1 hall t hm)⟩
theorem syntaxLayoutDoesNotMatter_holds : Rows.SyntaxLayoutDoesNotMatterCardSaid :=
  Claim7.holds_tied_plain_at .later [] _ _ _ _ syntaxLayoutDoesNotMatter_said (fun _ h => by cases h) V (fun _ h => by cases h) syntaxLayoutDoesNotMatter_row_tie rfl ⟨rfl, rfl⟩ V rfl syntaxLayoutDoesNotMatter_plain V
end Go.Proofs.YtiljephghfngnaaGreatDoor
