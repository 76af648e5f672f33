/- The law PrimerLayoutDoesNotMatter: for every input it returns true, and its arguments read behind the call as they read before; what the package-level variables of the library hold is tied tgt the text of the program. Part 5 of the proof of primerLayoutDoesNotMatter_holds: texts P10, P13, P14, P15, P17, P22, Rk, Ri, Rx, Q21. -/
import Derived.Test.YtoeeblegplghmaaGreatDoorQ21x4
import Derived.ProofKit
import Derived.OpenShut
import Derived.SizedLaws
import Derived.Deep.Slices
import Derived.Test.YtoeeblegplghmaaGreatDoorRows
import Derived.Lay
import Derived.Lib.LaidTab
import Derived.Stop.LaidErr
import Derived.SevenTiedAt
import Derived.Test.YtoeeblegplghmaaGreatDoorCards
import Derived.Test.YtoeeblegplghmaaGreatDoorTie
set_option linter.unusedVariables false
set_option linter.unusedSimpArgs false
set_option linter.unnecessarySimpa false
namespace Go.Proofs.YtoeeblegplghmaaGreatDoor
open Go.FL
attribute [local irreducible] JC JO JA JB thenQ blockQ retQ AC fill CellsAt QE Ev Mid
abbrev Par := List (List UInt8) × Option (List UInt8)
def runY {σ : Type} (pend : σ → Option Code) (St : σ → Par → σ → Prop) : σ → List Par → σ → Prop
  | g, [], g' => g' = g
  | g, p :: r, g' => ∃ g1, St g p g1 ∧ if (pend g1).isNone = true then runY pend St g1 r g' else g' = g1
def chain {σ : Type} (pend : σ → Option Code) (St : σ → Par → σ → Prop) : σ → List Par → σ → Prop
  | g, [], g' => g' = g
  | g, p :: r, g' => ∃ g1, St g p g1 ∧ pend g1 = none ∧ chain pend St g1 r g'
theorem chain_snoc {σ : Type} {pend : σ → Option Code} {St : σ → Par → σ → Prop} {p : Par} {g1 g2 : σ} (h2 : St g1 p g2) (h3 : pend g2 = none) : ∀ (dn : List Par) (g : σ), chain pend St g dn g1 → chain pend St g (dn ++ [p]) g2
  | [], g, h => by
    have h : g1 = g := h
    subst h; exact ⟨g2, h2, h3, rfl⟩
  | q :: r, g, ⟨g', k1, k2, k3⟩ => ⟨g', k1, k2, chain_snoc h2 h3 r g' k3⟩
theorem take_pw {rs : List (List UInt8)} {i : Nat} {l : List UInt8} (h1 : rs[i]? = some checkB) (h2 : rs[i + 1]? = some l) : rs.take (i + 2) = pw (rs.take i, some l) := by
  obtain ⟨k1, e1⟩ := List.getElem?_eq_some_iff.1 h1
  obtain ⟨k2, e2⟩ := List.getElem?_eq_some_iff.1 h2
  rw [pw, List.take_succ_eq_append_getElem k2, List.take_succ_eq_append_getElem k1, e1, e2]; simp
theorem idx_lt {l : List (List UInt8)} {w : List UInt8} : ∀ k : Nat, idxOf (fun x => decide (w = x)) l k = -1 ∧ (∀ (j : Nat) (x : List UInt8), l[j]? = some x → ¬ w = x) ∨ ∃ i : Nat, idxOf (fun x => decide (w = x)) l k = ((k + i : Nat) : Int) ∧ l[i]? = some w ∧ ∀ (j : Nat) (x : List UInt8), j < i → l[j]? = some x → ¬ w = x := by
  induction l with
  | nil => intro k; exact .inl ⟨rfl, fun j x h => by cases h⟩
  | cons y l ih =>
    intro k
    by_cases hy : w = y
    · refine .inr ⟨0, by simp [idxOf, hy], by simp [hy], fun j x hj => by omega⟩
    · rcases ih (k + 1) with ⟨h1, h2⟩ | ⟨i, h1, h2, h3⟩
      · refine .inl ⟨by simp [idxOf, hy, h1], fun j x hx => ?_⟩
        cases j with
        | zero => simp at hx; subst hx; exact hy
        | succ j => exact h2 j x (by simpa using hx)
      · refine .inr ⟨i + 1, by simp only [idxOf, hy, decide_false, Bool.false_eq_true, if_false, h1]; congr 1; omega, by simpa using h2, fun j x hj hx => ?_⟩
        cases j with
        | zero => simp at hx; subst hx; exact hy
        | succ j => exact h3 j x (by omega) (by simpa using hx)
theorem idx_bd (l : List (List UInt8)) (w : List UInt8) : -1 ≤ idxOf (fun x => decide (w = x)) l 0 ∧ idxOf (fun x => decide (w = x)) l 0 < l.length := by
  rcases idx_lt (l := l) (w := w) 0 with ⟨h, _⟩ | ⟨i, h, h2, _⟩
  · omega
  · have := (List.getElem?_eq_some_iff.1 h2).1; omega
set_option maxHeartbeats 2000000 in
set_option maxRecDepth 100000 in
theorem divide2_ac (D : Nat) (s : World) {σ : Type} (H : σ → Hl) (I : σ → World → Prop) (mono : ∀ g s s', I g s → Le D s s' → I g s') (pend : σ → Option Code) (St : σ → Par → σ → Prop) (l : Nat) (g0 : σ) (ws : List (List UInt8)) (hY : ∀ (g : σ) (p : Par) (A : Option Addr) (n c : Nat) (s' : World), Le D s s' → I g s' → pend g = none → Strs s' A n c (pw p) → (∃ dn rt, dvF [] ws = dn ++ p :: rt ∧ chain pend St g0 dn g) → YC Tryz.prog D l [.slice A n c, .bool p.2.isSome] (H g) s' fun v L' s3 => ∃ g1, St g p g1 ∧ v = .bool (pend g1).isNone ∧ L' = H g1 ∧ I g1 s3) (hI : I g0 s) (hp : pend g0 = none) (b : Nat) (A : Option Addr) (n c : Nat) (hcb : CellsAt s b 0 [.slice A n c]) (hS : Strs s A n c ws) (hws : ws.length ≤ 4000000) : AC Tryz.prog D 64 [.func (.yield l) #[] #[], .pointer (some ⟨b, 0, none⟩)] (H g0) s fun _ L' s3 => ∃ g', runY pend St g0 (dvF [] ws) g' ∧ L' = H g' ∧ I g' s3 := by
 refine AC_enterR (TT := TT) (fn := Tryz.f64) TT_ok Tryz.func64 (by kernel_rfl) rfl Tryz.ntmps64 rfl (rs := []) rfl [(0, _), (1, _)] rfl ?_
 refine RC_seq ?_
 refine RC_region ?_
 refine RO_q (QE_ldsR0 rfl rfl rfl (hcb.le (Le.refl (D := D) _)) rfl) rfl ?_
 refine RO_q (QE_as rfl) rfl ?_
 refine RO_nil ?_
 refine thenG_n ?_
 refine RC_block ?_
 refine RC_loop (γ := σ × Value × List (List UInt8)) (fun g => [(0, _), (3, g.2.1)]) (fun g => H g.1) (fun g tw => Le D s tw ∧ (g.2.2.length ≤ ws.length ∧ I g.1 tw ∧ pend g.1 = none ∧ (∃ A' n' c', g.2.1 = .slice A' n' c' ∧ Strs tw A' n' c' g.2.2) ∧ (∀ g', runY pend St g.1 (dvF [] g.2.2) g' → runY pend St g0 (dvF [] ws) g') ∧ ∃ dn, dvF [] ws = dn ++ dvF [] g.2.2 ∧ chain pend St g0 dn g.1)) (fun g => g.2.2.length) (fun _ _ _ h hl => ⟨h.1.trans hl, by obtain ⟨_, k0, k1, k2, ⟨A', n', c', k3, k4⟩, k5⟩ := h; exact ⟨k0, mono _ _ _ k1 hl, k2, ⟨A', n', c', k3, k4.le hl⟩, k5⟩⟩) (g0, .slice A n c, ws) (Keeps.cons rfl (Keeps.cons rfl (Keeps.nil _))) rfl ⟨Le.refl _, ⟨Nat.le_refl _, mono _ _ _ hI (Le.refl (D := D) _), hp, ⟨_, _, _, rfl, hS.le (Le.refl (D := D) _)⟩, fun _ h => h, [], rfl, rfl⟩⟩ ?_
 intro g s1 I1
 obtain ⟨g, vr, rs⟩ := g
 obtain ⟨hrl, hIg, hpg, ⟨A', n', c', hvr, hSr⟩, hrun, dn, hdn, hch⟩ := I1.2
 simp only at hrl hIg hpg hvr hSr hrun hdn hch
 subst hvr
 dsimp only
 have hn' := hSr.1
 have hc1 := hSr.2.1
 have hc2 := hSr.2.2.1
 refine RC_seq ?_
 refine RC_seq ?_
 refine RC_region ?_
 refine RO_q (QE_mv rfl) rfl ?_
 refine RO_q (QE_lenS rfl rfl rfl) rfl ?_
 refine RO_q (QE_gt rfl rfl) rfl ?_
 refine RO_nil ?_
 refine thenG_n ?_
 refine RC_ifD rfl (fun c2 => ?_) (fun c2 => ?_)
 ·
  have hne : 0 < rs.length := by omega
  have hidx := idx_lt (l := rs) (w := checkB) 0
  have hib1 := idx_bd rs checkB
  refine RC_skip ?_
  refine thenG_n ?_
  refine RC_block ?_
  refine RC_seq ?_
  refine RC_region ?_
  refine RO_q (QE_mv rfl) rfl ?_
  refine RO_call (first := []) (captured := []) rfl rfl rfl (sidx_ac D _ _ A' n' c' rs (hSr.le (Le.refl (D := D) _)) checkB) ?_
  rintro _ _ s3 h3 ⟨rfl, rfl⟩
  refine RO_q (QE_as rfl) rfl ?_
  refine RO_nil ?_
  refine thenG_n ?_
  refine RC_seq ?_
  refine RC_seq ?_
  refine RC_region ?_
  refine RO_q (QE_mv rfl) rfl ?_
  refine RO_q (QE_lt rfl rfl) rfl ?_
  refine RO_q (QE_mv rfl) rfl ?_
  refine RO_caseD (t := 13) rfl (fun c4 => ?_) (fun c4 => ?_)
  ·
   refine RO_gF rfl rfl rfl rfl ?_
   refine RO_gF rfl rfl rfl rfl ?_
   refine RO_gF rfl rfl rfl rfl ?_
   refine RO_gF rfl rfl rfl rfl ?_
   refine RO_gF rfl rfl rfl rfl ?_
   refine RO_q (QE_pickT rfl rfl) rfl ?_
   refine RO_nil ?_
   refine thenG_n ?_
   refine RC_ifT rfl ?_
   have hdv : dvF [] rs = [(rs, none)] := by
     have := dv_first rs [] (.inl (fun e => by rw [e] at hne; cases hne)) (fun j w hj hw => by
       rcases hidx with ⟨h1, h2⟩ | ⟨i, h1, h2, h3⟩
       · exact absurd hw.symm (h2 j w hj)
       · by_cases hji : j < i
         · exact absurd hw.symm (h3 j w hji hj)
         · omega)
     simpa using this
   refine RC_seq ?_
   refine RC_region ?_
   refine RO_q (QE_mv rfl) rfl ?_
   refine RO_q (QE_mv rfl) rfl ?_
   refine RO_yield rfl rfl rfl (hY g (rs, none) A' n' c' _ (Le.trans I1.1 h3) (mono _ _ _ hIg h3) hpg (hSr.le h3) ⟨dn, [], by rw [hdn, hdv], hch⟩) ?_
   rintro _ _ s5 h5 ⟨g1, hst, rfl, rfl, hIn⟩
   refine RO_nil ?_
   refine thenG_n ?_
   refine RC_ret ?_
   refine thenG_r ?_
   refine blockG_r ?_
   refine thenG_r ?_
   refine blockG_r ?_
   refine retG_mk [] _ (.inr rfl) (.nil) rfl (Le.trans (Le.trans I1.1 h3) h5) (.inl rfl) (fun sR hS2 => ?_)
   first
     | exact ⟨g1, hrun g1 (by rw [hdv]; exact ⟨g1, hst, by split <;> rfl⟩), rfl, mono _ _ _ hIn (Le.trans (Le.refl (D := D) _) hS2)⟩
     | exact ⟨g1, hrun g1 (by rw [dv_at hiw hib hil]; exact ⟨g1, hst, by rw [if_neg (by rw [hpn]; decide)]⟩), rfl, mono _ _ _ hIn (Le.trans (noSuchMark) hS2)⟩
     | exact ⟨g, hrun g rfl, rfl, mono _ _ _ hIg (Le.trans (Le.trans h3 h5) hS2)⟩
  ·
   refine RO_gT rfl rfl ?_
   refine RO_q (QE_mv rfl) rfl ?_
   refine RO_gT rfl rfl ?_
   refine RO_q (QE_add' rfl rfl (w64 (by omega) (by omega))) rfl ?_
   refine RO_gT rfl rfl ?_
   refine RO_q (QE_mv rfl) rfl ?_
   refine RO_gT rfl rfl ?_
   refine RO_q (QE_lenS rfl rfl rfl) rfl ?_
   refine RO_gT rfl rfl ?_
   refine RO_q (QE_gt rfl rfl) rfl ?_
   refine RO_q (QE_pickF rfl rfl) rfl ?_
   refine RO_nil ?_
   refine thenG_n ?_
   refine RC_ifD rfl (fun c6 => ?_) (fun c6 => ?_)
   ·
    have hdv : dvF [] rs = [(rs, none)] := by
      have := dv_first rs [] (.inl (fun e => by rw [e] at hne; cases hne)) (fun j w hj hw => by
        rcases hidx with ⟨h1, h2⟩ | ⟨i, h1, h2, h3⟩
        · exact absurd hw.symm (h2 j w hj)
        · by_cases hji : j < i
          · exact absurd hw.symm (h3 j w hji hj)
          · omega)
      simpa using this
    refine RC_seq ?_
    refine RC_region ?_
    refine RO_q (QE_mv rfl) rfl ?_
    refine RO_q (QE_mv rfl) rfl ?_
    refine RO_yield rfl rfl rfl (hY g (rs, none) A' n' c' _ (Le.trans I1.1 h3) (mono _ _ _ hIg h3) hpg (hSr.le h3) ⟨dn, [], by rw [hdn, hdv], hch⟩) ?_
    rintro _ _ s7 h7 ⟨g1, hst, rfl, rfl, hIn⟩
    refine RO_nil ?_
    refine thenG_n ?_
    refine RC_ret ?_
    refine thenG_r ?_
    refine blockG_r ?_
    refine thenG_r ?_
    refine blockG_r ?_
    refine retG_mk [] _ (.inr rfl) (.nil) rfl (Le.trans (Le.trans I1.1 h3) h7) (.inl rfl) (fun sR hS2 => ?_)
    first
      | exact ⟨g1, hrun g1 (by rw [hdv]; exact ⟨g1, hst, by split <;> rfl⟩), rfl, mono _ _ _ hIn (Le.trans (Le.refl (D := D) _) hS2)⟩
      | exact ⟨g1, hrun g1 (by rw [dv_at hiw hib hil]; exact ⟨g1, hst, by rw [if_neg (by rw [hpn]; decide)]⟩), rfl, mono _ _ _ hIn (Le.trans (noSuchMark) hS2)⟩
      | exact ⟨g, hrun g rfl, rfl, mono _ _ _ hIg (Le.trans (Le.trans h3 h7) hS2)⟩
   ·
    obtain ⟨i, hix, hiw, hib0⟩ := hidx.resolve_left (fun h => by have := h.1; omega)
    rw [Nat.zero_add] at hix
    have hi2 : i + 2 ≤ n' := by omega
    have hib : ∀ (j : Nat) (w : List UInt8), j < i → rs[j]? = some w → w ≠ checkB := fun j w hj hw e => hib0 j w hj hw e.symm
    obtain ⟨lw, hil⟩ : ∃ lw, rs[i + 1]? = some lw := ⟨_, List.getElem?_eq_getElem (by omega)⟩
    have hSt := Strs.take hSr hi2
    rw [take_pw hiw hil] at hSt
    obtain ⟨A1, c1, hE, hSd⟩ := Strs.drop hSr hi2
    refine RC_skip ?_
    refine thenG_n ?_
    refine RC_seq ?_
    refine RC_seq ?_
    refine RC_region ?_
    refine RO_q (QE_mv rfl) rfl ?_
    refine RO_q (QE_mv rfl) rfl ?_
    refine RO_q (QE_mv rfl) rfl ?_
    refine RO_q (QE_add' (c := ((i + 2 : Nat) : Int)) rfl rfl (by rw [hix, w64 (by omega) (by omega)]; omega)) rfl ?_
    refine RO_q (QE_slH rfl rfl rfl rfl rfl (by omega)) rfl ?_
    refine RO_yield rfl rfl rfl (hY g (rs.take i, some lw) A' (i + 2) c' _ (Le.trans I1.1 h3) (mono _ _ _ hIg h3) hpg (hSt.le h3) ⟨dn, _, by rw [hdn, dv_at hiw hib hil], hch⟩) ?_
    rintro _ _ s8 h8 ⟨g1, hst, rfl, rfl, hIn⟩
    refine RO_q (QE_not rfl) rfl ?_
    refine RO_nil ?_
    refine thenG_n ?_
    refine RC_ifM rfl (fun c9 => ?_) (fun c9 => ?_)
    ·
     have hpn := c9
     refine RC_ret ?_
     refine thenG_r ?_
     refine blockG_r ?_
     refine thenG_r ?_
     refine blockG_r ?_
     refine retG_mk [] _ (.inr rfl) (.nil) rfl (Le.trans (Le.trans I1.1 h3) h8) (.inl rfl) (fun sR hS2 => ?_)
     first
       | exact ⟨g1, hrun g1 (by rw [hdv]; exact ⟨g1, hst, by split <;> rfl⟩), rfl, mono _ _ _ hIn (Le.trans (noSuchMark) hS2)⟩
       | exact ⟨g1, hrun g1 (by rw [dv_at hiw hib hil]; exact ⟨g1, hst, by rw [if_neg (by rw [hpn]; decide)]⟩), rfl, mono _ _ _ hIn (Le.trans (Le.refl (D := D) _) hS2)⟩
       | exact ⟨g, hrun g rfl, rfl, mono _ _ _ hIg (Le.trans (Le.trans h3 h8) hS2)⟩
    ·
     have hpn : pend g1 = none := Option.isNone_iff_eq_none.1 c9
     refine RC_skip ?_
     refine thenG_n ?_
     refine RC_region ?_
     refine RO_q (QE_mv rfl) rfl ?_
     refine RO_q (QE_mv rfl) rfl ?_
     refine RO_q (QE_add' (c := ((i + 2 : Nat) : Int)) rfl rfl (by rw [hix, w64 (by omega) (by omega)]; omega)) rfl ?_
     refine RO_q (QE_slL rfl rfl rfl rfl rfl (by omega)) rfl ?_
     refine RO_q (QE_as rfl) rfl ?_
     refine RO_nil ?_
     refine blockG_n ?_
     refine thenG_n ⟨rfl, (g1, _, rs.drop (i + 2)), [], (Keeps.cons rfl (Keeps.cons rfl (Keeps.nil _))), rfl, ⟨(Le.trans (Le.trans I1.1 h3) h8), ⟨by simp only; rw [List.length_drop]; omega, mono _ _ _ hIn (Le.refl (D := D) _), hpn, ⟨A1, _, c1, hE, hSd.le (Le.trans h3 h8)⟩, fun g' h => hrun g' (by rw [dv_at hiw hib hil]; exact ⟨g1, hst, by rw [if_pos (by rw [hpn]; rfl)]; exact h⟩), dn ++ [(rs.take i, some lw)], by simp only; rw [hdn, dv_at hiw hib hil]; simp, chain_snoc hst hpn dn g0 hch⟩⟩, (by simp only; rw [List.length_drop]; omega)⟩
 ·
  have hrs : rs = [] := List.eq_nil_of_length_eq_zero (by omega)
  subst hrs
  refine RC_exit ?_
  refine thenG_x ?_
  refine thenG_x ?_
  refine blockG_x ?_
  refine retG_mk [] _ (.inl rfl) (.nil) rfl I1.1 (.inl rfl) (fun sR hS2 => ?_)
  first
    | exact ⟨g1, hrun g1 (by rw [hdv]; exact ⟨g1, hst, by split <;> rfl⟩), rfl, mono _ _ _ hIn (Le.trans (noSuchMark) hS2)⟩
    | exact ⟨g1, hrun g1 (by rw [dv_at hiw hib hil]; exact ⟨g1, hst, by rw [if_neg (by rw [hpn]; decide)]⟩), rfl, mono _ _ _ hIn (Le.trans (noSuchMark) hS2)⟩
    | exact ⟨g, hrun g rfl, rfl, mono _ _ _ hIg (Le.trans (Le.refl (D := D) _) hS2)⟩
end Go.Proofs.YtoeeblegplghmaaGreatDoor
namespace Go.Proofs.YtoeeblegplghmaaGreatDoor
open Go.FL
attribute [local irreducible] JC JO JA JB thenQ blockQ retQ AC fill CellsAt QE Ev Mid
def itv (l : List Int) : List Value := (l.map fun x => [Value.int .i64 x]).flatten
theorem itv_snoc (l : List Int) (x : Int) : itv (l ++ [x]) = itv l ++ [.int .i64 x] := by simp [itv]
def Its (s : World) (A : Option Addr) (n c : Nat) (l : List Int) : Prop := Sl 1 (fun _ x cs => cs = [.int .i64 x]) s A n c l
theorem Its.le {D : Nat} {s s' : World} {A : Option Addr} {n c : Nat} {l : List Int} (h : Its s A n c l) (hl : Le D s s') : Its s' A n c l := Sl.le (fun _ _ h => h) h hl
theorem Its.at_ {s : World} {A : Option Addr} {n c k : Nat} {l : List Int} (h : Its s A n c l) (hk : k < n) : ∃ b off x, A = some ⟨b, off, none⟩ ∧ l[k]? = some x ∧ CellsAt s b (off + k) [.int .i64 x] ∧ True := by
  have hl : k < l.length := by rw [← h.1]; exact hk
  obtain ⟨b, off, cs, h1, h2, _, rfl⟩ := h.2.2.2 k l[k] (List.getElem?_eq_getElem hl)
  exact ⟨b, off, l[k], h1, List.getElem?_eq_getElem hl, by simpa using h2, trivial⟩
theorem all2_mapI {α β : Type} {R : α → β → Prop} (f : α → β) (l : List α) (h : ∀ x ∈ l, R x (f x)) : All2 R l (l.map f) := by
  induction l with
  | nil => exact All2.nil
  | cons x l ih => exact All2.cons (h x (List.mem_cons_self ..)) (ih fun y hy => h y (List.mem_cons_of_mem _ hy))
theorem Own.its {e : Nat} {A : Hl} {Ad : Option Addr} {n c : Nat} {l : List Int} {s : World} (h : FL.Own e 1 A (.slice Ad n c) n (itv l)) (hp : Pub A s) (hn : n = l.length) : Its s Ad n c l :=
  Own.rows (R := fun _ (x : Int) cs => cs = [Value.int .i64 x]) h hp (all2_mapI (fun (x : Int) => [Value.int .i64 x]) l fun x hx => ⟨rfl, rfl⟩) hn
theorem its_nil (s : World) : Its s none 0 0 [] := ⟨rfl, Nat.le_refl _, by omega, fun i x h => by cases h⟩
theorem dv_size : ∀ (ws now : List (List UInt8)) (p : Par), p ∈ dvF now ws → sizeW (pw p) ≤ sizeW now + sizeW ws ∧ ∀ w ∈ pw p, w ∈ now ∨ w ∈ ws
  | [], now, p, h => by
    rw [dvF] at h
    split at h
    · cases h
    · simp only [List.mem_singleton] at h; subst h; exact ⟨by simp [pw], fun w hw => .inl hw⟩
  | [w], now, p, h => by
    rw [dvF] at h
    simp only [List.mem_singleton] at h; subst h
    exact ⟨by simp only [pw]; rw [sizeW_app]; omega, fun x hx => by simpa [pw] using hx⟩
  | w :: l :: r, now, p, h => by
    rw [dvF] at h
    split at h
    · rename_i hc
      rcases List.mem_cons.1 h with rfl | h
      · refine ⟨by simp only [pw, sizeW_app, sizeW_cons, sizeW_nil, hc]; omega, fun x hx => ?_⟩
        simp only [pw, List.mem_append, List.mem_cons, List.not_mem_nil, or_false] at hx
        rcases hx with hx | rfl | rfl
        · exact .inl hx
        · exact .inr (by simp [hc])
        · exact .inr (by simp)
      · have := dv_size r [] p h
        refine ⟨by have h1 := this.1; simp only [sizeW_cons, sizeW_nil] at h1 ⊢; omega, fun x hx => .inr ?_⟩
        rcases this.2 x hx with h | h
        · cases h
        · exact List.mem_cons_of_mem _ (List.mem_cons_of_mem _ h)
    · have := dv_size (l :: r) (now ++ [w]) p h
      refine ⟨by have h1 := this.1; simp only [sizeW_app, sizeW_cons, sizeW_nil] at h1 ⊢; omega, fun x hx => ?_⟩
      rcases this.2 x hx with h | h
      · rcases List.mem_append.1 h with h | h
        · exact .inl h
        · rw [List.mem_singleton.1 h]; exact .inr (List.mem_cons_self ..)
      · exact .inr (List.mem_cons_of_mem _ h)
theorem dv_len : ∀ (ws now : List (List UInt8)), (dvF now ws).length ≤ ws.length + 1
  | [], now => by rw [dvF]; split <;> simp
  | [w], now => by rw [dvF]; simp
  | w :: l :: r, now => by
    rw [dvF]
    split
    · have := dv_len r []; simp only [List.length_cons]; omega
    · have := dv_len (l :: r) (now ++ [w]); simp only [List.length_cons] at this ⊢; omega
theorem fw_size : ∀ (l cur : List UInt8), sizeW (fw cur l) ≤ cur.length + l.length + 1
  | [], cur => by
    rw [fw]; split
    · simp [sizeW_nil]
    · simp only [sizeW_cons, sizeW_nil, List.length_nil]; omega
  | c :: l, cur => by
    rw [fw]
    split
    · split
      · have := fw_size l []; simp only [List.length_nil, List.length_cons] at this ⊢; omega
      · have := fw_size l []; simp only [sizeW_cons, List.length_nil, List.length_cons] at this ⊢; omega
    · have := fw_size l (cur ++ [c]); simp only [List.length_append, List.length_cons, List.length_nil] at this ⊢; omega
theorem flds_size (l : List UInt8) : sizeW (flds l) ≤ l.length + 1 := by have := fw_size l []; rw [flds]; simpa using this
abbrev DmG := Nat × Value × Hl × List Int
def dmSt (g : DmG) (p : Par) (g1 : DmG) : Prop := g1.1 = g.1 + 1 ∧ g1.2.2.2 = if codeP p ≠ 0 then g.2.2.2 ++ [(g.1 : Int)] else g.2.2.2
theorem dm_run : ∀ (l : List Par) (g g' : DmG), runY (fun _ => none) dmSt g l g' → g'.2.2.2 = g.2.2.2 ++ damF g.1 l
  | [], g, g', h => by
    have h : g' = g := h
    subst h; simp [damF]
  | p :: r, g, g', ⟨g1, h1, h2⟩ => by
    have h2 : runY (fun _ => none) dmSt g1 r g' := h2
    rw [dm_run r g1 g' h2, h1.1, h1.2, damF]
    by_cases hc : codeP p ≠ 0
    · rw [if_pos hc, if_pos hc]; simp
    · rw [if_neg hc, if_neg hc]
theorem dm_cnt : ∀ (l : List Par) (g g' : DmG), chain (fun _ => none) dmSt g l g' → g'.1 = g.1 + l.length
  | [], g, g', h => by
    have h : g' = g := h
    subst h; rfl
  | p :: r, g, g', ⟨g1, h1, _, h2⟩ => by rw [dm_cnt r g1 g' h2, h1.1, List.length_cons]; omega
theorem pre_cnt {ps dn rt : List Par} {p : Par} (h : ps = dn ++ p :: rt) : dn.length < ps.length ∧ p ∈ ps := by subst h; simp
def damW (tx : List UInt8) : List Int := if 50000 < tx.length then [] else damR tx
def damE (tx : List UInt8) : Int × Int := if 50000 < tx.length then (3, -1) else (0, 0)
set_option maxHeartbeats 4000000 in
set_option maxRecDepth 100000 in
theorem damagedO_ac (D : Nat) (L : Hl) (s : World) (hG : GP s) (tx : List UInt8) : AC Tryz.prog D 14 [St tx] L s fun v L' s' => ∃ M', L' = M' ++ L ∧ ∀ s2, Le D s' s2 → Pub M' s2 → ∃ A n c, v = .tuple #[.slice A n c, .agg #[.int .i64 (damE tx).1, .int .i64 (damE tx).2]] ∧ Its s2 A n c (damW tx) := by
 refine AC_enterR (TT := TT) (fn := Tryz.f14) TT_ok Tryz.func14 (by kernel_rfl) rfl Tryz.ntmps14 rfl (rs := [.tmp 2, .cell 3 26]) rfl [(0, _)] rfl ?_
 refine RC_seq ?_
 refine RC_region ?_
 refine RO_q (QE_as rfl) rfl ?_
 refine RO_allocZ rfl [_, _] rfl rfl ?_
 intro β1 s1 h1
 refine RO_nil ?_
 refine thenG_n ?_
 refine RC_seq ?_
 refine RC_seq ?_
 refine RC_region ?_
 refine RO_q (QE_mv rfl) rfl ?_
 refine RO_q (QE_lenT rfl rfl rfl) rfl ?_
 refine RO_q (QE_gt rfl rfl) rfl ?_
 refine RO_nil ?_
 refine thenG_n ?_
 refine RC_ifD rfl (fun c2 => ?_) (fun c2 => ?_)
 ·
  have hlong : 50000 < tx.length := by omega
  have hE : damE tx = (3, -1) := if_pos hlong
  have hW : damW tx = [] := if_pos hlong
  refine RC_seq ?_
  refine RC_region ?_
  refine RO_call (first := []) (captured := []) rfl rfl rfl (pfault_ac D _ _ _ _) ?_
  rintro _ _ s3 h3 ⟨rfl, rfl⟩
  refine RO_q (QE_as rfl) rfl ?_
  refine RO_st 0 [_, _] rfl rfl rfl rfl rfl rfl rfl rfl rfl ?_
  refine RO_nil ?_
  refine thenG_n ?_
  refine RC_ret ?_
  refine thenG_r ?_
  refine retG_mk [_] _ (.inr rfl) (.tmp rfl (.agg (us := [_, _]) 0 rfl rfl rfl rfl rfl (.nil))) rfl (Le.trans h1 h3) (.inl rfl) (fun sR hS2 => ?_)
  first
    | (rw [hE, hW]; exact ⟨[], rfl, fun s2 hs2 hp => ⟨none, 0, 0, rfl, its_nil _⟩⟩)
    | (rw [hE, hW]; refine ⟨Mo, rfl, fun s2 hs2 hp => ⟨Ao, acc.length, co, rfl, ?_⟩⟩
       rw [← hF]; exact Own.its hO hp rfl)
 ·
  have hshort : ¬ 50000 < tx.length := by omega
  have hE : damE tx = (0, 0) := if_neg hshort
  have hW : damW tx = damR tx := if_neg hshort
  have hfs := flds_size tx
  have hfl := flds_len tx
  have hdl := dv_len (flds tx) []
  refine RC_skip ?_
  refine thenG_n ?_
  refine RC_seq ?_
  refine RC_region ?_
  refine RO_allocZ rfl [_] rfl rfl ?_
  intro β4 s4 h4
  refine RO_nil ?_
  refine thenG_n ?_
  refine RC_seq ?_
  refine RC_region ?_
  refine RO_allocZ rfl [_] rfl rfl ?_
  intro β5 s5 h5
  refine RO_st 0 [_] rfl rfl rfl rfl rfl rfl rfl rfl rfl ?_
  refine RO_nil ?_
  refine thenG_n ?_
  refine RC_seq ?_
  refine RC_seq ?_
  refine RC_region ?_
  refine RO_q (QE_mv rfl) rfl ?_
  refine RO_call (first := []) (captured := []) rfl rfl rfl (divide_ac D _ _ tx (by omega)) ?_
  rintro _ _ s6 h6 ⟨rfl, bw, Aw, nw, cw, rfl, hcb, hSw⟩
  refine RO_nil ?_
  refine thenG_n ?_
  refine RC_block ?_
  refine RC_range (σ := DmG) (α := Par × Option Addr × Nat × Nat) (fun g => (β5, cb [.int .i64 (g.1 : Int)] 3) :: (β4, cb [g.2.1] 35) :: (β1, cb [.int .i64 0, .int .i64 0] 26) :: (g.2.2.1 ++ L)) (fun g tw => FL.Own 3 1 g.2.2.1 g.2.1 g.2.2.2.length (itv g.2.2.2) ∧ g.2.2.2.length ≤ g.1) (fun g => none) (fun g x g1 => dmSt g x.1 g1) (fun x => [.slice x.2.1 x.2.2.1 x.2.2.2, .bool x.1.2.isSome]) (fun g x tw => Strs tw x.2.1 x.2.2.1 x.2.2.2 (pw x.1) ∧ x.1 ∈ dvF [] (flds tx) ∧ g.1 < 4000000) (fun g1 => g1.2.2.2 = damR tx) (cap := [_]) rfl (0, .slice none 0 0, [], []) rfl (⟨FL.Own.nil, Nat.le_refl _⟩) rfl (fun _ _ _ h _ => h) (fun _ => .inl rfl) (fun _ => rfl) rfl (fun x => [(6, .slice x.2.1 x.2.2.1 x.2.2.2), (7, .bool x.1.2.isSome), (4, .pointer (some ⟨β4, 0, none⟩)), (5, .pointer (some ⟨β5, 0, none⟩))]) ?_ ?_ ?_ ?_
  ·
   intro l7 x7 L7 s7
   refine RC_seq ?_
   refine RC_region ?_
   refine RO_q (QE_as rfl) rfl ?_
   refine RO_nil ?_
   refine thenG_n ?_
   refine RC_region ?_
   refine RO_q (QE_as rfl) rfl ?_
   refine RO_nil ?_
   exact ⟨rfl, rfl, (Keeps.cons rfl (Keeps.cons rfl (Keeps.cons rfl (Keeps.cons rfl (Keeps.nil _))))), rfl, rfl⟩
  ·
   intro l8 d8 o8 p8 g x s8 h8 I8 hp8 P8
   obtain ⟨kk, vo, Mo, acc⟩ := g
   obtain ⟨p, A, n, c⟩ := x
   obtain ⟨hO, hol⟩ := I8
   obtain ⟨hSp, hpm, hkk⟩ := P8
   simp only at hO hol hSp hpm hkk
   dsimp only
   have hpz := (dv_size (flds tx) [] p hpm).1
   rw [sizeW_nil] at hpz
   refine RC_block ?_
   refine RC_seq ?_
   refine RC_seq ?_
   refine RC_region ?_
   refine RO_q (QE_mv rfl) rfl ?_
   refine RO_q (QE_mv rfl) rfl ?_
   refine RO_call (first := []) (captured := []) rfl rfl rfl (check_ac D _ _ (hG.le (Le.trans (Le.trans (Le.trans (Le.trans h1 h4) h5) h6) h8)) p A n c (hSp.le (Le.refl (D := D) _)) (by omega)) ?_
   rintro _ _ s9 h9 ⟨rfl, rfl⟩
   refine RO_q (QE_ne rfl rfl) rfl ?_
   refine RO_nil ?_
   refine thenG_n ?_
   refine RC_ifN rfl (fun c10 => ?_) (fun c10 => ?_)
   ·
    have hc : codeP p ≠ 0 := c10
    refine RC_region ?_
    refine RO_q (QE_ld1 3 rfl rfl rfl rfl rfl) rfl ?_
    refine RO_q (QE_ld1 2 rfl rfl rfl rfl rfl) rfl ?_
    refine RO_bs [(_, _)] [_] rfl rfl rfl rfl rfl rfl rfl rfl rfl ?_
    intro βn s11 h11 hcb
    refine RO_app (sz := 1) [_, _, _, _, _] Mo L rfl rfl rfl rfl rfl rfl rfl hO (Row.of_cells (hcb.le (Le.refl (D := D) _)) rfl rfl) ⟨by simp [ti3]; omega, by omega⟩ rfl ?_
    intro vq Mq s12 h12 oq
    obtain ⟨Avq, cvq, rfl, _, _⟩ := Own.slice oq
    refine RO_st 3 [_] rfl rfl rfl rfl rfl rfl rfl rfl rfl ?_
    refine RO_nil ?_
    refine thenG_n ?_
    refine RC_region ?_
    refine RO_q (QE_ld1 2 rfl rfl rfl rfl rfl) rfl ?_
    refine RO_q (QE_add' rfl rfl (w64 (by omega) (by omega))) rfl ?_
    refine RO_st 2 [_] rfl rfl rfl rfl rfl rfl rfl rfl rfl ?_
    refine RO_nil ?_
    refine blockG_n ?_
    refine ⟨(kk + 1, .slice Avq (acc.length + 1) cvq, Mq, acc ++ [(kk : Int)]), ⟨rfl, (if_pos hc).symm⟩, rfl, [], rfl, (Le.trans (Le.trans h9 h11) h12), ⟨by simp only; rw [List.length_append, itv_snoc]; exact oq, by simp only [List.length_append, List.length_cons, List.length_nil]; omega⟩⟩
   ·
    have hc : ¬ codeP p ≠ 0 := fun h => h c10
    refine RC_skip ?_
    refine thenG_n ?_
    refine RC_region ?_
    refine RO_q (QE_ld1 2 rfl rfl rfl rfl rfl) rfl ?_
    refine RO_q (QE_add' rfl rfl (w64 (by omega) (by omega))) rfl ?_
    refine RO_st 2 [_] rfl rfl rfl rfl rfl rfl rfl rfl rfl ?_
    refine RO_nil ?_
    refine blockG_n ?_
    refine ⟨(kk + 1, vo, Mo, acc), ⟨rfl, (if_neg hc).symm⟩, rfl, [], rfl, h9, ⟨hO, by simp only; omega⟩⟩
  ·
   intro l13 HH s13 h13 hY
   refine (divide2_ac D _ HH (fun (g : DmG) _ => FL.Own 3 1 g.2.2.1 g.2.1 g.2.2.2.length (itv g.2.2.2) ∧ g.2.2.2.length ≤ g.1) (fun _ _ _ h _ => h) (fun _ => none) dmSt l13 (0, .slice none 0 0, [], []) (flds tx) ?_ ⟨FL.Own.nil, Nat.le_refl _⟩ rfl bw Aw nw cw (hcb.le h13) (hSw.le h13) (by omega)).mono ?_
   · intro g p A n c s2 hl2 hI2 hp2 hS2 hc2
     obtain ⟨dn, rt, hd, hch⟩ := hc2
     have h1 := dm_cnt dn _ _ hch
     have h2 := pre_cnt hd
     simp only at h1
     exact hY g (p, A, n, c) s2 (h13.trans hl2) hI2 rfl ⟨hS2, h2.2, by omega⟩
   · rintro v L' s3 _ ⟨g', h1, h2, h3⟩
     exact ⟨g', by have := dm_run _ _ _ h1; simpa [damR] using this, h2, h3⟩
  ·
   intro d14 g s14 h14 F14 I14
   obtain ⟨kk, vo, Mo, acc⟩ := g
   obtain ⟨hO, hol⟩ := I14
   have hF := F14
   simp only at hO hol hF
   dsimp only
   obtain ⟨Ao, co, rfl, _, _⟩ := Own.slice hO
   refine blockG_n ?_
   refine thenG_n ?_
   refine RC_seq ?_
   refine RC_region ?_
   refine RO_q (QE_ld1 2 rfl rfl rfl rfl rfl) rfl ?_
   refine RO_q (QE_build [] [_, _] rfl rfl rfl rfl rfl rfl) rfl ?_
   refine RO_q (QE_as rfl) rfl ?_
   refine RO_st 3 [_, _] rfl rfl rfl rfl rfl rfl rfl rfl rfl ?_
   refine RO_nil ?_
   refine thenG_n ?_
   refine RC_ret ?_
   refine retG_mk [_, _, _, _] _ (.inr rfl) (.tmp rfl (.agg (us := [_, _]) 3 rfl rfl rfl rfl rfl (.nil))) rfl (Le.trans (Le.trans (Le.trans (Le.trans h1 h4) h5) h6) h14) (.inr ⟨_, rfl, List.mem_cons_self ..⟩) (fun sR hS2 => ?_)
   first
     | (rw [hE, hW]; exact ⟨[], rfl, fun s2 hs2 hp => ⟨none, 0, 0, rfl, its_nil _⟩⟩)
     | (rw [hE, hW]; refine ⟨Mo, rfl, fun s2 hs2 hp => ⟨Ao, acc.length, co, rfl, ?_⟩⟩
        rw [← hF]; exact Own.its hO hp rfl)
end Go.Proofs.YtoeeblegplghmaaGreatDoor
namespace Go.Proofs.YtoeeblegplghmaaGreatDoor
open Go.FL
attribute [local irreducible] JC JO JA JB thenQ blockQ retQ AC fill CellsAt QE Ev Mid
def rdS (k : Nat) (c : Int) (acc : List Ins) (p : Par) : (Int × Int) ⊕ (Nat × Int × List Ins) := if codeP p ≠ 0 then .inl (codeP p, (k : Int)) else if k = 0 then (match rdCells p.1 with
  | none => .inl (1, 0)
  | some c' => .inr (1, c', acc)) else (match rdIns p.1 with
  | none => .inl (1, (k : Int))
  | some x => .inr (k + 1, c, acc ++ [x]))
theorem rdT_step (k : Nat) (c : Int) (acc : List Ins) (p : Par) (r : List Par) : rdT k c acc (p :: r) = match rdS k c acc p with
  | .inl f => .inl f
  | .inr (k', c', acc') => rdT k' c' acc' r := by
  rw [rdT, rdS]
  by_cases h1 : codeP p ≠ 0
  · rw [if_pos h1, if_pos h1]
  · rw [if_neg h1, if_neg h1]
    by_cases h2 : k = 0
    · rw [if_pos h2, if_pos h2]; cases rdCells p.1 <;> rfl
    · rw [if_neg h2, if_neg h2]; cases rdIns p.1 <;> rfl
abbrev RdG := Option (Int × Int) × Nat × Int × Value × Hl × List Ins
def rdPend (g : RdG) : Option Code := g.1.map fun _ => .ret
def rdSt (g : RdG) (p : Par) (g1 : RdG) : Prop := match rdS g.2.1 g.2.2.1 g.2.2.2.2.2 p with
  | .inl f => g1.1 = some f
  | .inr (k, c, acc) => g1.1 = none ∧ g1.2.1 = k ∧ g1.2.2.1 = c ∧ g1.2.2.2.2.2 = acc
theorem rd_run : ∀ (l : List Par) (g g' : RdG), g.1 = none → runY rdPend rdSt g l g' → (∃ f, g'.1 = some f ∧ rdT g.2.1 g.2.2.1 g.2.2.2.2.2 l = .inl f) ∨ (g'.1 = none ∧ rdT g.2.1 g.2.2.1 g.2.2.2.2.2 l = if g'.2.1 = 0 then .inl (1, 0) else .inr ⟨g'.2.2.1, g'.2.2.2.2.2⟩)
  | [], g, g', h0, h => by
    have h : g' = g := h
    subst h; exact .inr ⟨h0, rfl⟩
  | p :: r, g, g', h0, ⟨g1, h1, h2⟩ => by
    rw [rdT_step]
    unfold rdSt at h1
    cases e : rdS g.2.1 g.2.2.1 g.2.2.2.2.2 p with
    | inl f =>
      rw [e] at h1
      simp only at h1 ⊢
      rw [if_neg (by rw [rdPend, h1]; simp)] at h2
      subst h2
      exact .inl ⟨f, h1, rfl⟩
    | inr x =>
      obtain ⟨k, c, acc⟩ := x
      rw [e] at h1
      simp only at h1 ⊢
      obtain ⟨j1, j2, j3, j4⟩ := h1
      rw [if_pos (by rw [rdPend, j1]; rfl)] at h2
      have := rd_run r g1 g' j1 h2
      rw [j2, j3, j4] at this
      exact this
theorem rdS_cnt {k : Nat} {c : Int} {acc : List Ins} {p : Par} {k' : Nat} {c' : Int} {acc' : List Ins} (h : rdS k c acc p = .inr (k', c', acc')) : k' = k + 1 := by
  unfold rdS at h
  split at h
  · cases h
  · split at h
    · split at h
      · cases h
      · injection h with h; injection h with h; omega
    · split at h
      · cases h
      · injection h with h; injection h with h; omega
theorem rd_cnt : ∀ (l : List Par) (g g' : RdG), chain rdPend rdSt g l g' → g'.2.1 = g.2.1 + l.length
  | [], g, g', h => by
    have h : g' = g := h
    subst h; rfl
  | p :: r, g, g', ⟨g1, h1, h2, h3⟩ => by
    rw [rd_cnt r g1 g' h3]
    unfold rdSt at h1
    cases e : rdS g.2.1 g.2.2.1 g.2.2.2.2.2 p with
    | inl f => rw [e] at h1; simp only at h1; rw [rdPend, h1] at h2; cases h2
    | inr x =>
      obtain ⟨k, c, acc⟩ := x
      rw [e] at h1
      simp only at h1
      have := rdS_cnt e
      rw [List.length_cons]; omega
theorem code_parts {p : Par} (h : codeP p = 0) : ∃ ws l, p = (ws, some l) ∧ okT (joinW ws) = true := by
  obtain ⟨ws, o⟩ := p
  cases o with
  | none => cases h
  | some l =>
    refine ⟨ws, l, rfl, ?_⟩
    cases e : okT (joinW ws) with
    | true => rfl
    | false => rw [codeP] at h; simp only at h; rw [if_pos (.inr (.inr e))] at h; cases h
variable {tx : List UInt8}
theorem rr_long (h : 50000 < tx.length) : readR tx = (tab0, 3, -1) := if_pos h
theorem rr_fault {f : Int × Int} (h : ¬ 50000 < tx.length) (h2 : rdT 0 0 [] (dvF [] (flds tx)) = .inl f) : readR tx = (tab0, f) := by rw [readR, if_neg h, h2]
theorem rr_bad {t : Tab} (h : ¬ 50000 < tx.length) (h2 : rdT 0 0 [] (dvF [] (flds tx)) = .inr t) (h3 : (tabFault t).1 ≠ 0) : readR tx = (tab0, tabFault t) := by rw [readR, if_neg h, h2]; exact if_pos h3
theorem rr_good {t : Tab} (h : ¬ 50000 < tx.length) (h2 : rdT 0 0 [] (dvF [] (flds tx)) = .inr t) (h3 : (tabFault t).1 = 0) : readR tx = (t, 0, 0) := by rw [readR, if_neg h, h2]; exact if_neg (fun e => e h3)
theorem inss_nil (s : World) : Inss s none 0 0 [] := ⟨rfl, Nat.le_refl _, by omega, fun i x h => by cases h⟩
abbrev InR (s : World) (x : Ins) (cs : List Value) : Prop := cs.length = 4 ∧ InsR s x cs
def RdI (tw : World) (g : RdG) : Prop := ∃ css, FL.Own 63 4 g.2.2.2.2.1 g.2.2.2.1 g.2.2.2.2.2.length css.flatten ∧ All2 (InR tw) g.2.2.2.2.2 css ∧ (g.1 = none → g.2.2.2.2.2.length ≤ g.2.1)
theorem RdI.le {D : Nat} {s s' : World} {g : RdG} (h : RdI s g) (hl : Le D s s') : RdI s' g := by
  obtain ⟨css, h1, h2, h3⟩ := h
  exact ⟨css, h1, h2.mono fun x cs k => ⟨k.1, k.2.le hl⟩, h3⟩
theorem flat_snocI (css : List (List Value)) (cs : List Value) : (css ++ [cs]).flatten = css.flatten ++ cs := by simp
set_option maxHeartbeats 4000000 in
set_option maxRecDepth 100000 in
theorem readO_ac (D : Nat) (L : Hl) (s : World) (hG : GP s) (tx : List UInt8) : AC Tryz.prog D 13 [St tx] L s fun v L' s' => ∃ M', L' = M' ++ L ∧ ∀ s2, Le D s' s2 → Pub M' s2 → ∃ A n c, v = .tuple #[.agg #[.int .i64 (readR tx).1.cells, .slice A n c], .agg #[.int .i64 (readR tx).2.1, .int .i64 (readR tx).2.2]] ∧ Inss s2 A n c (readR tx).1.ins := by
 refine AC_enterR (TT := TT) (fn := Tryz.f13) TT_ok Tryz.func13 (by kernel_rfl) rfl Tryz.ntmps13 rfl (rs := [.cell 2 24, .cell 3 26]) rfl [(0, _)] rfl ?_
 refine RC_seq ?_
 refine RC_region ?_
 refine RO_allocZ rfl [_, _] rfl rfl ?_
 intro β1 s1 h1
 refine RO_allocZ rfl [_, _] rfl rfl ?_
 intro β2 s2 h2
 refine RO_nil ?_
 refine thenG_n ?_
 refine RC_seq ?_
 refine RC_seq ?_
 refine RC_region ?_
 refine RO_q (QE_mv rfl) rfl ?_
 refine RO_q (QE_lenT rfl rfl rfl) rfl ?_
 refine RO_q (QE_gt rfl rfl) rfl ?_
 refine RO_nil ?_
 refine thenG_n ?_
 refine RC_ifD rfl (fun c3 => ?_) (fun c3 => ?_)
 ·
  have hlong : 50000 < tx.length := by omega
  have hR := rr_long hlong
  refine RC_seq ?_
  refine RC_region ?_
  refine RO_q (QE_build [] [_, _] rfl rfl rfl rfl rfl rfl) rfl ?_
  refine RO_call (first := []) (captured := []) rfl rfl rfl (pfault_ac D _ _ _ _) ?_
  rintro _ _ s4 h4 ⟨rfl, rfl⟩
  refine RO_st 1 [_, _] rfl rfl rfl rfl rfl rfl rfl rfl rfl ?_
  refine RO_st 0 [_, _] rfl rfl rfl rfl rfl rfl rfl rfl rfl ?_
  refine RO_nil ?_
  refine thenG_n ?_
  refine RC_ret ?_
  refine thenG_r ?_
  refine retG_mk [_, _] _ (.inr rfl) (.agg (us := [_, _]) 1 rfl rfl rfl rfl rfl (.agg (us := [_, _]) 0 rfl rfl rfl rfl rfl (.nil))) rfl (Le.trans (Le.trans h1 h2) h4) (.inl rfl) (fun sR hS2 => ?_)
  rw [hR]
  first
    | exact ⟨[], rfl, fun s2 hs2 hp => ⟨none, 0, 0, rfl, inss_nil _⟩⟩
    | exact ⟨Mo, rfl, fun s2 hs2 hp => ⟨none, 0, 0, rfl, inss_nil _⟩⟩
    | exact ⟨[], rfl, fun s2 hs2 hp => ⟨Ao, acc.length, co, rfl, hIn.le (Le.trans (noSuchMark) (Le.trans hS2 hs2))⟩⟩
 ·
  have hshort : ¬ 50000 < tx.length := by omega
  have hfs := flds_size tx
  have hfl := flds_len tx
  have hdl := dv_len (flds tx) []
  refine RC_skip ?_
  refine thenG_n ?_
  refine RC_seq ?_
  refine RC_region ?_
  refine RO_allocZ rfl [_, _] rfl rfl ?_
  intro β5 s5 h5
  refine RO_nil ?_
  refine thenG_n ?_
  refine RC_seq ?_
  refine RC_region ?_
  refine RO_allocZ rfl [_] rfl rfl ?_
  intro β6 s6 h6
  refine RO_st 0 [_] rfl rfl rfl rfl rfl rfl rfl rfl rfl ?_
  refine RO_nil ?_
  refine thenG_n ?_
  refine RC_seq ?_
  refine RC_seq ?_
  refine RC_region ?_
  refine RO_q (QE_mv rfl) rfl ?_
  refine RO_call (first := []) (captured := []) rfl rfl rfl (divide_ac D _ _ tx (by omega)) ?_
  rintro _ _ s7 h7 ⟨rfl, bw, Aw, nw, cw, rfl, hcb, hSw⟩
  refine RO_nil ?_
  refine thenG_n ?_
  refine RC_block ?_
  refine RC_range (σ := RdG) (α := Par × Option Addr × Nat × Nat) (fun g => (β6, cb [.int .i64 (g.2.1 : Int)] 3) :: (β5, cb [.int .i64 g.2.2.1, g.2.2.2.1] 24) :: (β2, cb [.int .i64 (g.1.getD (0, 0)).1, .int .i64 (g.1.getD (0, 0)).2] 26) :: (β1, cb [.int .i64 0, .slice none 0 0] 24) :: (g.2.2.2.2.1 ++ L)) (fun g tw => RdI tw g) (fun g => rdPend g) (fun g x g1 => rdSt g x.1 g1) (fun x => [.slice x.2.1 x.2.2.1 x.2.2.2, .bool x.1.2.isSome]) (fun g x tw => Strs tw x.2.1 x.2.2.1 x.2.2.2 (pw x.1) ∧ x.1 ∈ dvF [] (flds tx) ∧ g.2.1 < 4000000) (fun g1 => (∃ f, g1.1 = some f ∧ rdT 0 0 [] (dvF [] (flds tx)) = .inl f) ∨ (g1.1 = none ∧ rdT 0 0 [] (dvF [] (flds tx)) = if g1.2.1 = 0 then .inl (1, 0) else .inr ⟨g1.2.2.1, g1.2.2.2.2.2⟩)) (cap := [_]) rfl (none, 0, 0, .slice none 0 0, [], []) rfl (⟨[], FL.Own.nil, .nil, fun _ => Nat.le_refl _⟩) rfl (fun _ _ _ h hl => h.le hl) (fun g => by obtain ⟨o, _⟩ := g; cases o with
    | none => exact .inl rfl
    | some f => exact .inr (.inl rfl)) (fun _ => rfl) rfl (fun x => [(6, .slice x.2.1 x.2.2.1 x.2.2.2), (7, .bool x.1.2.isSome), (2, .pointer (some ⟨β1, 0, none⟩)), (3, .pointer (some ⟨β2, 0, none⟩)), (4, .pointer (some ⟨β5, 0, none⟩)), (5, .pointer (some ⟨β6, 0, none⟩))]) ?_ ?_ ?_ ?_
  ·
   intro l8 x8 L8 s8
   refine RC_seq ?_
   refine RC_region ?_
   refine RO_q (QE_as rfl) rfl ?_
   refine RO_nil ?_
   refine thenG_n ?_
   refine RC_region ?_
   refine RO_q (QE_as rfl) rfl ?_
   refine RO_nil ?_
   exact ⟨rfl, rfl, (Keeps.cons rfl (Keeps.cons rfl (Keeps.cons rfl (Keeps.cons rfl (Keeps.cons rfl (Keeps.cons rfl (Keeps.nil _))))))), rfl, rfl⟩
  ·
   intro l9 d9 o9 p9 g x s9 h9 I9 hp9 P9
   obtain ⟨out, kk, cc, vo, Mo, acc⟩ := g
   obtain ⟨p, A, n, c⟩ := x
   obtain ⟨css, hO, hcs, hol⟩ := I9
   obtain ⟨hSp, hpm, hkk⟩ := P9
   have hout : out = none := by
     cases out with
     | none => rfl
     | some f => cases hp9
   subst hout
   simp only at hO hcs hol hSp hpm hkk
   have hol : acc.length ≤ kk := by first | exact hol rfl | exact hol trivial | exact hol
   dsimp only
   have hpz := (dv_size (flds tx) [] p hpm).1
   rw [sizeW_nil] at hpz
   refine RC_block ?_
   refine RC_seq ?_
   refine RC_seq ?_
   refine RC_region ?_
   refine RO_q (QE_mv rfl) rfl ?_
   refine RO_q (QE_mv rfl) rfl ?_
   refine RO_call (first := []) (captured := []) rfl rfl rfl (check_ac D _ _ (hG.le (Le.trans (Le.trans (Le.trans (Le.trans (Le.trans h1 h2) h5) h6) h7) h9)) p A n c (hSp.le (Le.refl (D := D) _)) (by omega)) ?_
   rintro _ _ s10 h10 ⟨rfl, rfl⟩
   refine RO_q (QE_as rfl) rfl ?_
   refine RO_nil ?_
   refine thenG_n ?_
   refine RC_seq ?_
   refine RC_region ?_
   refine RO_q (QE_mv rfl) rfl ?_
   refine RO_q (QE_ne rfl rfl) rfl ?_
   refine RO_nil ?_
   refine thenG_n ?_
   refine RC_ifN rfl (fun c11 => ?_) (fun c11 => ?_)
   ·
    have hc : codeP p ≠ 0 := c11
    refine RC_seq ?_
    refine RC_region ?_
    refine RO_q (QE_build [] [_, _] rfl rfl rfl rfl rfl rfl) rfl ?_
    refine RO_q (QE_mv rfl) rfl ?_
    refine RO_q (QE_ld1 2 rfl rfl rfl rfl rfl) rfl ?_
    refine RO_call (first := []) (captured := []) rfl rfl rfl (pfault_ac D _ _ _ _) ?_
    rintro _ _ s12 h12 ⟨rfl, rfl⟩
    refine RO_st 5 [_, _] rfl rfl rfl rfl rfl rfl rfl rfl rfl ?_
    refine RO_st 4 [_, _] rfl rfl rfl rfl rfl rfl rfl rfl rfl ?_
    refine RO_nil ?_
    refine thenG_n ?_
    refine RC_ret ?_
    refine thenG_r ?_
    refine blockG_r ?_
    refine ⟨(some (codeP p, (kk : Int)), kk, cc, vo, Mo, acc), (by simp only [rdSt, rdS]; rw [if_pos hc]), rfl, [], rfl, (Le.trans h10 h12), ⟨css, hO, hcs.mono fun y cs k => ⟨k.1, k.2.le (Le.trans h10 h12)⟩, fun h => by cases h⟩⟩
   ·
    have hc : codeP p = 0 := by first | exact c11 | simpa using c11
    obtain ⟨ws, lw, rfl, hokT⟩ := code_parts hc
    have hpwn : n = ws.length + 2 := by rw [hSp.1]; simp [pw]
    have hSw2 := Strs.take hSp (show ws.length ≤ n by omega)
    rw [show (pw (ws, some lw)).take ws.length = ws by simp [pw]] at hSw2
    have hzz : sizeW ws ≤ sizeW (pw (ws, some lw)) := by simp only [pw, sizeW_app]; omega
    have hbare : ∀ w ∈ ws, bare1 w := fun w hw => by
      rcases (dv_size (flds tx) [] (ws, some lw) hpm).2 w (by simp only [pw]; exact List.mem_append_left _ hw) with h | h
      · cases h
      · exact flds_bare tx w h
    have hn2 := hSp.2.1
    have hn3 := hSp.2.2.1
    refine RC_skip ?_
    refine thenG_n ?_
    refine RC_seq ?_
    refine RC_region ?_
    refine RO_q (QE_mv rfl) rfl ?_
    refine RO_q (QE_mv rfl) rfl ?_
    refine RO_q (QE_lenS rfl rfl rfl) rfl ?_
    refine RO_q (QE_sub' (c := ((ws.length : Nat) : Int)) rfl rfl (by rw [w64 (by omega) (by omega)]; omega)) rfl ?_
    refine RO_q (QE_slH rfl rfl rfl rfl rfl (by omega)) rfl ?_
    refine RO_q (QE_as rfl) rfl ?_
    refine RO_nil ?_
    refine thenG_n ?_
    refine RC_seq ?_
    refine RC_region ?_
    refine RO_q (QE_as rfl) rfl ?_
    refine RO_nil ?_
    refine thenG_n ?_
    refine RC_seq ?_
    refine RC_seq ?_
    refine RC_region ?_
    refine RO_q (QE_ld1 2 rfl rfl rfl rfl rfl) rfl ?_
    refine RO_q (QE_eq rfl rfl) rfl ?_
    refine RO_nil ?_
    refine thenG_n ?_
    refine RC_ifD rfl (fun c13 => ?_) (fun c13 => ?_)
    ·
     have hk0 : kk = 0 := by omega
     refine RC_region ?_
     refine RO_q (QE_mv rfl) rfl ?_
     refine RO_call (first := []) (captured := []) rfl rfl rfl (readCells_ac D _ _ (hG.le (Le.trans (Le.trans (Le.trans (Le.trans (Le.trans (Le.trans h1 h2) h5) h6) h7) h9) h10)) _ _ _ ws (hSw2.le h10) (by omega)) ?_
     rintro _ _ s14 h14 ⟨rfl, kc, rfl, hrc⟩
     refine RO_q (QE_mv rfl) rfl ?_
     refine RO_q (QE_ext rfl rfl) rfl ?_
     refine RO_q (QE_ext rfl rfl) rfl ?_
     refine RO_q (QE_fa0 rfl rfl rfl rfl) rfl ?_
     refine RO_st 3 [_, _] rfl rfl rfl rfl rfl rfl rfl rfl rfl ?_
     refine RO_q (QE_as rfl) rfl ?_
     refine RO_nil ?_
     refine thenG_n ?_
     refine RC_seq ?_
     refine RC_seq ?_
     refine RC_region ?_
     refine RO_q (QE_mv rfl) rfl ?_
     refine RO_q (QE_not rfl) rfl ?_
     refine RO_nil ?_
     refine thenG_n ?_
     refine RC_ifM rfl (fun c15 => ?_) (fun c15 => ?_)
     ·
      have hno := c15
      refine RC_seq ?_
      refine RC_region ?_
      refine RO_q (QE_build [] [_, _] rfl rfl rfl rfl rfl rfl) rfl ?_
      refine RO_q (QE_ld1 2 rfl rfl rfl rfl rfl) rfl ?_
      refine RO_call (first := []) (captured := []) rfl rfl rfl (pfault_ac D _ _ _ _) ?_
      rintro _ _ s16 h16 ⟨rfl, rfl⟩
      refine RO_st 5 [_, _] rfl rfl rfl rfl rfl rfl rfl rfl rfl ?_
      refine RO_st 4 [_, _] rfl rfl rfl rfl rfl rfl rfl rfl rfl ?_
      refine RO_nil ?_
      refine thenG_n ?_
      refine RC_ret ?_
      refine thenG_r ?_
      refine blockG_r ?_
      refine ⟨(some (1, (kk : Int)), kk, kc, vo, Mo, acc), (by simp only [rdSt, rdS]; rw [if_neg (fun h => h hc), if_pos hk0, show rdCells ws = none by simpa using hno, hk0]; rfl), rfl, [], rfl, (Le.trans (Le.trans h10 h14) h16), ⟨css, hO, hcs.mono fun y cs k => ⟨k.1, k.2.le (Le.trans (Le.trans h10 h14) h16)⟩, fun h => by cases h⟩⟩
     ·
      have hyes := c15
      refine RC_skip ?_
      refine thenG_n ?_
      refine RC_region ?_
      refine RO_q (QE_ld1 2 rfl rfl rfl rfl rfl) rfl ?_
      refine RO_q (QE_add' rfl rfl (w64 (by omega) (by omega))) rfl ?_
      refine RO_st 2 [_] rfl rfl rfl rfl rfl rfl rfl rfl rfl ?_
      refine RO_nil ?_
      refine blockG_n ?_
      refine ⟨(none, kk + 1, kc, vo, Mo, acc), (by simp only [rdSt, rdS]; obtain ⟨y, hy⟩ := Option.isSome_iff_exists.1 hyes; rw [if_neg (fun h => h hc), if_pos hk0, hy, hk0, hrc y hy]; first | exact ⟨rfl, rfl, rfl, rfl⟩ | exact ⟨trivial, rfl, rfl, rfl⟩), rfl, [], rfl, (Le.trans h10 h14), ⟨css, hO, hcs.mono fun y cs k => ⟨k.1, k.2.le (Le.trans h10 h14)⟩, fun _ => by simp only; omega⟩⟩
    ·
     have hk0 : ¬ kk = 0 := by omega
     refine RC_seq ?_
     refine RC_region ?_
     refine RO_allocZ rfl [_, _, _, _] rfl rfl ?_
     intro β17 s17 h17
     refine RO_nil ?_
     refine thenG_n ?_
     refine RC_seq ?_
     refine RC_region ?_
     refine RO_q (QE_mv rfl) rfl ?_
     refine RO_call (first := []) (captured := []) rfl rfl rfl (readIns_ac D _ _ (hG.le (Le.trans (Le.trans (Le.trans (Le.trans (Le.trans (Le.trans (Le.trans h1 h2) h5) h6) h7) h9) h10) h17)) _ _ _ ws (hSw2.le (Le.trans h10 h17)) (by omega) hokT hbare) ?_
     rintro _ _ s18 h18 ⟨rfl, x, Ai, ni, ci, rfl, hAc, hxn, hxu, hrx⟩
     refine RO_q (QE_mv rfl) rfl ?_
     refine RO_q (QE_ext rfl rfl) rfl ?_
     refine RO_q (QE_ext rfl rfl) rfl ?_
     refine RO_st 0 [_, _, _, _] rfl rfl rfl rfl rfl rfl rfl rfl rfl ?_
     refine RO_q (QE_as rfl) rfl ?_
     refine RO_nil ?_
     refine thenG_n ?_
     refine RC_region ?_
     refine RO_q (QE_faB rfl rfl rfl rfl) rfl ?_
     refine RO_q (QE_ld1 4 rfl rfl rfl rfl rfl) rfl ?_
     refine RO_q (QE_ldA 0 [_, _, _, _] rfl rfl rfl rfl rfl) rfl ?_
     refine RO_bs [(_, _)] [_, _, _, _] rfl rfl rfl rfl rfl rfl rfl rfl rfl ?_
     intro βn s19 h19 hcb2
     refine RO_app (sz := 4) [_, _, _, _, _, _, _] Mo L rfl rfl rfl rfl rfl rfl rfl hO (Row.of_cells (hcb2.le (Le.refl (D := D) _)) rfl rfl) ⟨by simp [ti63]; omega, by omega⟩ rfl ?_
     intro vq Mq s20 h20 oq
     obtain ⟨Avq, cvq, rfl, _, _⟩ := Own.slice oq
     simp only [List.cons_append, List.nil_append]
     refine RO_q (QE_faB rfl rfl rfl rfl) rfl ?_
     refine RO_st 4 [_, _] rfl rfl rfl rfl rfl rfl rfl rfl rfl ?_
     refine RO_nil ?_
     refine thenG_n ?_
     refine RC_seq ?_
     refine RC_seq ?_
     refine RC_region ?_
     refine RO_q (QE_mv rfl) rfl ?_
     refine RO_q (QE_not rfl) rfl ?_
     refine RO_nil ?_
     refine thenG_n ?_
     refine RC_ifM rfl (fun c21 => ?_) (fun c21 => ?_)
     ·
      have hno := c21
      refine RC_seq ?_
      refine RC_region ?_
      refine RO_q (QE_build [] [_, _] rfl rfl rfl rfl rfl rfl) rfl ?_
      refine RO_q (QE_ld1 3 rfl rfl rfl rfl rfl) rfl ?_
      refine RO_call (first := []) (captured := []) rfl rfl rfl (pfault_ac D _ _ _ _) ?_
      rintro _ _ s22 h22 ⟨rfl, rfl⟩
      refine RO_st 6 [_, _] rfl rfl rfl rfl rfl rfl rfl rfl rfl ?_
      refine RO_st 5 [_, _] rfl rfl rfl rfl rfl rfl rfl rfl rfl ?_
      refine RO_nil ?_
      refine thenG_n ?_
      refine RC_ret ?_
      refine thenG_r ?_
      refine blockG_r ?_
      refine ⟨(some (1, (kk : Int)), kk, cc, .slice Avq (acc.length + 1) cvq, Mq, acc ++ [x]), (by simp only [rdSt, rdS]; rw [if_neg (fun h => h hc), if_neg hk0, show rdIns ws = none by simpa using hno]), rfl, [_], rfl, (Le.trans (Le.trans (Le.trans (Le.trans (Le.trans h10 h17) h18) h19) h20) h22), ⟨css ++ [[St x.name, .int .u32 x.code, .bool x.operand, .slice Ai ni ci]], by simp only; rw [List.length_append, flat_snocI]; exact oq, All2.snoc (hcs.mono fun y cs k => ⟨k.1, k.2.le (Le.trans (Le.trans (Le.trans (Le.trans (Le.trans h10 h17) h18) h19) h20) h22)⟩) ⟨rfl, Ai, ni, ci, rfl, hAc.le (Le.trans (Le.trans h19 h20) h22), by omega, hxu⟩, fun h => by cases h⟩⟩
     ·
      have hyes := c21
      refine RC_skip ?_
      refine thenG_n ?_
      refine RC_region ?_
      refine RO_q (QE_ld1 3 rfl rfl rfl rfl rfl) rfl ?_
      refine RO_q (QE_add' rfl rfl (w64 (by omega) (by omega))) rfl ?_
      refine RO_st 3 [_] rfl rfl rfl rfl rfl rfl rfl rfl rfl ?_
      refine RO_nil ?_
      refine blockG_n ?_
      refine ⟨(none, kk + 1, cc, .slice Avq (acc.length + 1) cvq, Mq, acc ++ [x]), (by simp only [rdSt, rdS]; obtain ⟨y, hy⟩ := Option.isSome_iff_exists.1 hyes; rw [if_neg (fun h => h hc), if_neg hk0, hy, hrx y hy]; first | exact ⟨rfl, rfl, rfl, rfl⟩ | exact ⟨trivial, rfl, rfl, rfl⟩), rfl, [_], rfl, (Le.trans (Le.trans (Le.trans (Le.trans h10 h17) h18) h19) h20), ⟨css ++ [[St x.name, .int .u32 x.code, .bool x.operand, .slice Ai ni ci]], by simp only; rw [List.length_append, flat_snocI]; exact oq, All2.snoc (hcs.mono fun y cs k => ⟨k.1, k.2.le (Le.trans (Le.trans (Le.trans (Le.trans h10 h17) h18) h19) h20)⟩) ⟨rfl, Ai, ni, ci, rfl, hAc.le (Le.trans h19 h20), by omega, hxu⟩, fun _ => by simp only [List.length_append, List.length_cons, List.length_nil]; omega⟩⟩
  ·
   intro l23 HH s23 h23 hY
   refine (divide2_ac D _ HH (fun g tw => RdI tw g) (fun _ _ _ h hl => h.le hl) rdPend rdSt l23 (none, 0, 0, .slice none 0 0, [], []) (flds tx) ?_ ⟨[], FL.Own.nil, .nil, fun _ => Nat.le_refl _⟩ rfl bw Aw nw cw (hcb.le h23) (hSw.le h23) (by omega)).mono ?_
   · intro g p A n c s2 hl2 hI2 hp2 hS2 hc2
     obtain ⟨dn, rt, hd, hch⟩ := hc2
     have h1 := rd_cnt dn _ _ hch
     have h2 := pre_cnt hd
     simp only at h1
     exact hY g (p, A, n, c) s2 (h23.trans hl2) hI2 hp2 ⟨hS2, h2.2, by omega⟩
   · rintro v L' s3 _ ⟨g', h1, h2, h3⟩
     exact ⟨g', rd_run _ _ _ rfl h1, h2, h3⟩
  ·
   intro d24 g s24 h24 F24 I24
   obtain ⟨out, kk, cc, vo, Mo, acc⟩ := g
   obtain ⟨css, hO, hcs, hol⟩ := I24
   have hF := F24
   simp only at hO hcs hol hF
   dsimp only
   obtain ⟨Ao, co, hvo, _, _⟩ := Own.slice hO
   subst hvo
   cases out with
   | some f =>
    have hR : readR tx = (tab0, f) := by
      rcases hF with ⟨f2, h1, h2⟩ | ⟨h1, _⟩
      · injection h1 with h1; subst h1; exact rr_fault hshort h2
      · cases h1
    refine blockG_r ?_
    refine thenG_r ?_
    refine retG_mk [_, _, _, _, _] _ (.inr rfl) (.agg (us := [_, _]) 4 rfl rfl rfl rfl rfl (.agg (us := [_, _]) 3 rfl rfl rfl rfl rfl (.nil))) rfl (Le.trans (Le.trans (Le.trans (Le.trans (Le.trans h1 h2) h5) h6) h7) h24) (.inr ⟨_, rfl, List.mem_cons_self ..⟩) (fun sR hS2 => ?_)
    rw [hR]
    first
      | exact ⟨[], rfl, fun s2 hs2 hp => ⟨none, 0, 0, rfl, inss_nil _⟩⟩
      | exact ⟨Mo, rfl, fun s2 hs2 hp => ⟨none, 0, 0, rfl, inss_nil _⟩⟩
      | exact ⟨[], rfl, fun s2 hs2 hp => ⟨Ao, acc.length, co, rfl, hIn.le (Le.trans (noSuchMark) (Le.trans hS2 hs2))⟩⟩
   | none =>
    have hF2 : rdT 0 0 [] (dvF [] (flds tx)) = if kk = 0 then .inl (1, 0) else .inr ⟨cc, acc⟩ := by
      rcases hF with ⟨f2, h1, h2⟩ | ⟨_, h2⟩
      · cases h1
      · exact h2
    clear hF
    refine blockG_n ?_
    refine thenG_n ?_
    refine RC_seq ?_
    refine RC_seq ?_
    refine RC_region ?_
    refine RO_q (QE_ld1 1 rfl rfl rfl rfl rfl) rfl ?_
    refine RO_q (QE_eq rfl rfl) rfl ?_
    refine RO_nil ?_
    refine thenG_n ?_
    refine RC_ifD rfl (fun c25 => ?_) (fun c25 => ?_)
    ·
     have hk0 : kk = 0 := by omega
     rw [if_pos hk0] at hF2
     have hR := rr_fault hshort hF2
     refine RC_seq ?_
     refine RC_region ?_
     refine RO_q (QE_build [] [_, _] rfl rfl rfl rfl rfl rfl) rfl ?_
     refine RO_call (first := []) (captured := []) rfl rfl rfl (pfault_ac D _ _ _ _) ?_
     rintro _ _ s26 h26 ⟨rfl, rfl⟩
     refine RO_st 4 [_, _] rfl rfl rfl rfl rfl rfl rfl rfl rfl ?_
     refine RO_st 3 [_, _] rfl rfl rfl rfl rfl rfl rfl rfl rfl ?_
     refine RO_nil ?_
     refine thenG_n ?_
     refine RC_ret ?_
     refine thenG_r ?_
     refine retG_mk [_, _, _, _, _] _ (.inr rfl) (.agg (us := [_, _]) 4 rfl rfl rfl rfl rfl (.agg (us := [_, _]) 3 rfl rfl rfl rfl rfl (.nil))) rfl (Le.trans (Le.trans (Le.trans (Le.trans (Le.trans (Le.trans h1 h2) h5) h6) h7) h24) h26) (.inr ⟨_, rfl, List.mem_cons_self ..⟩) (fun sR hS2 => ?_)
     rw [hR]
     first
       | exact ⟨[], rfl, fun s2 hs2 hp => ⟨none, 0, 0, rfl, inss_nil _⟩⟩
       | exact ⟨Mo, rfl, fun s2 hs2 hp => ⟨none, 0, 0, rfl, inss_nil _⟩⟩
       | exact ⟨[], rfl, fun s2 hs2 hp => ⟨Ao, acc.length, co, rfl, hIn.le (Le.trans (noSuchMark) (Le.trans hS2 hs2))⟩⟩
    ·
     have hk0 : ¬ kk = 0 := by omega
     rw [if_neg hk0] at hF2
     refine RC_skip ?_
     refine thenG_n ?_
     refine RC_seq ?_
     refine RC_seq ?_
     refine RC_pubX [_, _, _, _, _] Mo _ ?_
     intro s27 h27 hpub27
     simp only [List.cons_append, List.nil_append]
     have hIn : Inss s27 Ao acc.length co acc := Own.rows hO hpub27 (hcs.mono fun y cs q => ⟨q.1, q.2.le h27⟩) rfl
     refine RC_region ?_
     refine RO_q (QE_ldA 2 [_, _] rfl rfl rfl rfl rfl) rfl ?_
     refine RO_call (first := []) (captured := []) rfl rfl rfl (validate_ac D _ _ ⟨cc, acc⟩ _ _ _ (hIn.le (Le.refl (D := D) _))) ?_
     rintro _ _ s28 h28 ⟨rfl, rfl⟩
     refine RO_allocZ rfl [_, _] rfl rfl ?_
     intro β29 s29 h29
     refine RO_st 0 [_, _] rfl rfl rfl rfl rfl rfl rfl rfl rfl ?_
     refine RO_nil ?_
     refine thenG_n ?_
     refine RC_seq ?_
     refine RC_region ?_
     refine RO_q (QE_ldA 0 [_, _] rfl rfl rfl rfl rfl) rfl ?_
     refine RO_q (QE_build [] [_, _] rfl rfl rfl rfl rfl rfl) rfl ?_
     refine RO_q (QE_ane rfl rfl (eqFault _ _ _ _)) rfl ?_
     refine RO_nil ?_
     refine thenG_n ?_
     refine RC_ifN rfl (fun c30 => ?_) (fun c30 => ?_)
     ·
      have hbad : (tabFault ⟨cc, acc⟩).1 ≠ 0 := fun h => c30 ⟨h, tab_zero _ h⟩
      have hR := rr_bad hshort hF2 hbad
      refine RC_seq ?_
      refine RC_draw drawsMixed 4 rfl ?_
      intro s31 h31
      refine RA_2 0 1 (by kernel_rfl) ?_ ?_
      ·
       refine RB_q rfl (QE_build [] [_, _] rfl rfl rfl rfl rfl rfl) rfl ?_
       refine RA_2 1 2 (by kernel_rfl) ?_ ?_
       ·
        refine RB_q rfl (QE_ldA 0 [_, _] rfl rfl rfl rfl rfl) rfl ?_
        refine RA_1 2 (by kernel_rfl) ?_
        refine RB_st rfl 5 [_, _] rfl rfl rfl rfl rfl rfl rfl rfl rfl ?_
        refine RA_1 3 (by kernel_rfl) ?_
        refine RB_st rfl 4 [_, _] rfl rfl rfl rfl rfl rfl rfl rfl rfl ?_
        refine RA_done (by kernel_rfl) ?_
        refine thenG_n ?_
        refine RC_ret ?_
        refine thenG_r ?_
        refine retG_mk [_, _, _, _, _, _] _ (.inr rfl) (.agg (us := [_, _]) 5 rfl rfl rfl rfl rfl (.agg (us := [_, _]) 4 rfl rfl rfl rfl rfl (.nil))) rfl (Le.trans (Le.trans (Le.trans (Le.trans (Le.trans (Le.trans (Le.trans (Le.trans (Le.trans h1 h2) h5) h6) h7) h24) h27) h28) h29) h31) (.inr ⟨_, rfl, List.mem_cons_of_mem _ (List.mem_cons_self ..)⟩) (fun sR hS2 => ?_)
        rw [hR]
        first
          | exact ⟨[], rfl, fun s2 hs2 hp => ⟨none, 0, 0, rfl, inss_nil _⟩⟩
          | exact ⟨Mo, rfl, fun s2 hs2 hp => ⟨none, 0, 0, rfl, inss_nil _⟩⟩
          | exact ⟨[], rfl, fun s2 hs2 hp => ⟨Ao, acc.length, co, rfl, hIn.le (Le.trans (Le.trans (Le.trans h28 h29) h31) (Le.trans hS2 hs2))⟩⟩
       ·
        refine RB_st rfl 5 [_, _] rfl rfl rfl rfl rfl rfl rfl rfl rfl ?_
        refine RA_1 1 (by kernel_rfl) ?_
        refine RB_q rfl (QE_ldA 0 [_, _] rfl rfl rfl rfl rfl) rfl ?_
        refine RA_1 3 (by kernel_rfl) ?_
        refine RB_st rfl 4 [_, _] rfl rfl rfl rfl rfl rfl rfl rfl rfl ?_
        refine RA_done (by kernel_rfl) ?_
        refine thenG_n ?_
        refine RC_ret ?_
        refine thenG_r ?_
        refine retG_mk [_, _, _, _, _, _] _ (.inr rfl) (.agg (us := [_, _]) 5 rfl rfl rfl rfl rfl (.agg (us := [_, _]) 4 rfl rfl rfl rfl rfl (.nil))) rfl (Le.trans (Le.trans (Le.trans (Le.trans (Le.trans (Le.trans (Le.trans (Le.trans (Le.trans h1 h2) h5) h6) h7) h24) h27) h28) h29) h31) (.inr ⟨_, rfl, List.mem_cons_of_mem _ (List.mem_cons_self ..)⟩) (fun sR hS2 => ?_)
        rw [hR]
        first
          | exact ⟨[], rfl, fun s2 hs2 hp => ⟨none, 0, 0, rfl, inss_nil _⟩⟩
          | exact ⟨Mo, rfl, fun s2 hs2 hp => ⟨none, 0, 0, rfl, inss_nil _⟩⟩
          | exact ⟨[], rfl, fun s2 hs2 hp => ⟨Ao, acc.length, co, rfl, hIn.le (Le.trans (Le.trans (Le.trans h28 h29) h31) (Le.trans hS2 hs2))⟩⟩
      ·
       refine RB_q rfl (QE_ldA 0 [_, _] rfl rfl rfl rfl rfl) rfl ?_
       refine RA_1 0 (by kernel_rfl) ?_
       refine RB_q rfl (QE_build [] [_, _] rfl rfl rfl rfl rfl rfl) rfl ?_
       refine RA_1 2 (by kernel_rfl) ?_
       refine RB_st rfl 5 [_, _] rfl rfl rfl rfl rfl rfl rfl rfl rfl ?_
       refine RA_1 3 (by kernel_rfl) ?_
       refine RB_st rfl 4 [_, _] rfl rfl rfl rfl rfl rfl rfl rfl rfl ?_
       refine RA_done (by kernel_rfl) ?_
       refine thenG_n ?_
       refine RC_ret ?_
       refine thenG_r ?_
       refine retG_mk [_, _, _, _, _, _] _ (.inr rfl) (.agg (us := [_, _]) 5 rfl rfl rfl rfl rfl (.agg (us := [_, _]) 4 rfl rfl rfl rfl rfl (.nil))) rfl (Le.trans (Le.trans (Le.trans (Le.trans (Le.trans (Le.trans (Le.trans (Le.trans (Le.trans h1 h2) h5) h6) h7) h24) h27) h28) h29) h31) (.inr ⟨_, rfl, List.mem_cons_of_mem _ (List.mem_cons_self ..)⟩) (fun sR hS2 => ?_)
       rw [hR]
       first
         | exact ⟨[], rfl, fun s2 hs2 hp => ⟨none, 0, 0, rfl, inss_nil _⟩⟩
         | exact ⟨Mo, rfl, fun s2 hs2 hp => ⟨none, 0, 0, rfl, inss_nil _⟩⟩
         | exact ⟨[], rfl, fun s2 hs2 hp => ⟨Ao, acc.length, co, rfl, hIn.le (Le.trans (Le.trans (Le.trans h28 h29) h31) (Le.trans hS2 hs2))⟩⟩
     ·
      have h0 : (tabFault ⟨cc, acc⟩).1 = 0 := c30.1
      have hR := rr_good hshort hF2 h0
      refine RC_skip ?_
      refine thenG_n ?_
      refine RC_seq ?_
      refine RC_region ?_
      refine RO_q (QE_ldA 3 [_, _] rfl rfl rfl rfl rfl) rfl ?_
      refine RO_q (QE_build [] [_, _] rfl rfl rfl rfl rfl rfl) rfl ?_
      refine RO_st 5 [_, _] rfl rfl rfl rfl rfl rfl rfl rfl rfl ?_
      refine RO_st 4 [_, _] rfl rfl rfl rfl rfl rfl rfl rfl rfl ?_
      refine RO_nil ?_
      refine thenG_n ?_
      refine RC_ret ?_
      refine retG_mk [_, _, _, _, _, _] _ (.inr rfl) (.agg (us := [_, _]) 5 rfl rfl rfl rfl rfl (.agg (us := [_, _]) 4 rfl rfl rfl rfl rfl (.nil))) rfl (Le.trans (Le.trans (Le.trans (Le.trans (Le.trans (Le.trans (Le.trans (Le.trans h1 h2) h5) h6) h7) h24) h27) h28) h29) (.inr ⟨_, rfl, List.mem_cons_of_mem _ (List.mem_cons_self ..)⟩) (fun sR hS2 => ?_)
      rw [hR]
      first
        | exact ⟨[], rfl, fun s2 hs2 hp => ⟨none, 0, 0, rfl, inss_nil _⟩⟩
        | exact ⟨Mo, rfl, fun s2 hs2 hp => ⟨none, 0, 0, rfl, inss_nil _⟩⟩
        | exact ⟨[], rfl, fun s2 hs2 hp => ⟨Ao, acc.length, co, rfl, hIn.le (Le.trans (Le.trans h28 h29) (Le.trans hS2 hs2))⟩⟩
theorem read_ac (D : Nat) (L : Hl) (s : World) (hG : GP s) (tx : List UInt8) : AC Tryz.prog D 13 [St tx] L s fun v L' s' => L = L' ∧ ∃ A n c, v = .tuple #[.agg #[.int .i64 (readR tx).1.cells, .slice A n c], .agg #[.int .i64 (readR tx).2.1, .int .i64 (readR tx).2.2]] ∧ Inss s' A n c (readR tx).1.ins := AC.pubW (readO_ac D L s hG tx)
theorem damaged_ac (D : Nat) (L : Hl) (s : World) (hG : GP s) (tx : List UInt8) : AC Tryz.prog D 14 [St tx] L s fun v L' s' => L = L' ∧ ∃ A n c, v = .tuple #[.slice A n c, .agg #[.int .i64 (damE tx).1, .int .i64 (damE tx).2]] ∧ Its s' A n c (damW tx) := AC.pubW (damagedO_ac D L s hG tx)
end Go.Proofs.YtoeeblegplghmaaGreatDoor
namespace Go.Proofs.YtoeeblegplghmaaGreatDoor
open Go.FL
attribute [local irreducible] JC JO JA JB thenQ blockQ retQ AC fill CellsAt QE Ev Mid
set_option maxHeartbeats 1000000 in
set_option maxRecDepth 100000 in
theorem ints_ac (D : Nat) (L : Hl) (s : World) (A : Option Addr) (n c : Nat) (l : List Int) (hA : Its s A n c l) (A1 : Option Addr) (n1 c1 : Nat) (l1 : List Int) (hB : Its s A1 n1 c1 l1) : AC Tryz.prog D 17 [.slice A n c, .slice A1 n1 c1] L s fun v L' _ => v = .bool (decide (l = l1)) ∧ L = L' := by
 have hn := hA.1
 have hc1 := hA.2.1
 have hc2 := hA.2.2.1
 have hn1 := hB.1
 refine AC_enter (TT := TT) (fn := Tryz.f17) TT_ok Tryz.func17 (by kernel_rfl) rfl Tryz.ntmps17 rfl (rs := [.tmp 4]) rfl [(0, _), (1, _)] rfl ?_
 refine JC_seq ?_
 refine JC_region ?_
 refine JO_q (QE_as rfl) rfl ?_
 refine JO_nil ?_
 refine thenQ_n ?_
 refine JC_seq ?_
 refine JC_seq ?_
 refine JC_region ?_
 refine JO_q (QE_mv rfl) rfl ?_
 refine JO_q (QE_lenS rfl rfl rfl) rfl ?_
 refine JO_q (QE_mv rfl) rfl ?_
 refine JO_q (QE_lenS rfl rfl rfl) rfl ?_
 refine JO_q (QE_ne rfl rfl) rfl ?_
 refine JO_nil ?_
 refine thenQ_n ?_
 refine JC_ifN rfl (fun c1 => ?_) (fun c1 => ?_)
 ·
  refine JC_seq ?_
  refine JC_region ?_
  refine JO_q (QE_as rfl) rfl ?_
  refine JO_nil ?_
  refine thenQ_n ?_
  refine JC_ret ?_
  refine thenQ_r ?_
  refine retQ_mk [] L (.inr rfl) (.tmp rfl (.nil)) rfl (Le.refl (D := D) _) (fun sR hS2 => ?_)
  refine ⟨?_, rfl⟩
  first
    | (have h0 : l ≠ l1 := diff_lists hx hy hE
       simp [resV, h0]; done)
    | (have h0 : l ≠ l1 := fun e => by subst e; omega
       simp [resV, h0]; done)
    | (have h0 : l = l1 := same_lists (by omega) (fun i x hi h => hI i x (by omega) h)
       simp [resV, h0]; done)
 ·
  refine JC_skip ?_
  refine thenQ_n ?_
  refine JC_seq ?_
  refine JC_seq ?_
  refine JC_region ?_
  refine JO_q (QE_as rfl) rfl ?_
  refine JO_nil ?_
  refine thenQ_n ?_
  refine JC_block ?_
  refine JC_loop (γ := Nat) (fun k => [(0, _), (1, _), (4, _), (5, .int .i64 (k : Int))]) (fun _ => _) (fun k tw => Le D s tw ∧ (k ≤ n ∧ ∀ i x, i < k → l[i]? = some x → l1[i]? = some x)) (fun k => n - k) (fun _ _ _ h hl => ⟨h.1.trans hl, h.2⟩) 0 (Keeps.cons rfl (Keeps.cons rfl (Keeps.cons rfl (Keeps.cons rfl (Keeps.nil _))))) rfl ⟨Le.refl _, ⟨Nat.zero_le _, fun i c hi => by omega⟩⟩ ?_
  intro k s2 I2
  have hk0 := I2.2.1
  have hI := I2.2.2
  refine JC_seq ?_
  refine JC_seq ?_
  refine JC_region ?_
  refine JO_q (QE_mv rfl) rfl ?_
  refine JO_q (QE_mv rfl) rfl ?_
  refine JO_q (QE_lenS rfl rfl rfl) rfl ?_
  refine JO_q (QE_lt rfl rfl) rfl ?_
  refine JO_nil ?_
  refine thenQ_n ?_
  refine JC_ifD rfl (fun c3 => ?_) (fun c3 => ?_)
  ·
   have hk : k < n := by omega
   obtain ⟨b, off, x, rfl, hx, hcx, _⟩ := Its.at_ (hA.le I2.1) hk
   obtain ⟨b1, off1, y, rfl, hy, hcy, _⟩ := Its.at_ (hB.le I2.1) (show k < n1 by omega)
   refine JC_skip ?_
   refine thenQ_n ?_
   refine JC_seq ?_
   refine JC_block ?_
   refine JC_seq ?_
   refine JC_draw drawsMixed 9 rfl _ (fun _ h => h) ?_
   intro s4 h4
   refine JA_q 0 rfl (by kernel_rfl) (by kernel_rfl) (by kernel_rfl) trivial (QE_mv rfl) rfl ?_
   refine JA_q 1 rfl (by kernel_rfl) (by kernel_rfl) (by kernel_rfl) trivial (QE_mv rfl) rfl ?_
   refine JA_q 2 rfl (by kernel_rfl) (by kernel_rfl) (by kernel_rfl) trivial (QE_ia1 rfl rfl rfl rfl rfl rfl hk) rfl ?_
   refine JA_q 3 rfl (by kernel_rfl) (by kernel_rfl) (by kernel_rfl) trivial (QE_ldsR0 rfl rfl rfl (hcx.le h4) rfl) rfl ?_
   refine JA_q 4 rfl (by kernel_rfl) (by kernel_rfl) (by kernel_rfl) trivial (QE_mv rfl) rfl ?_
   refine JA_q 5 rfl (by kernel_rfl) (by kernel_rfl) (by kernel_rfl) trivial (QE_mv rfl) rfl ?_
   refine JA_q 6 rfl (by kernel_rfl) (by kernel_rfl) (by kernel_rfl) trivial (QE_ia1 rfl rfl rfl rfl rfl rfl (show k < n1 by omega)) rfl ?_
   refine JA_q 7 rfl (by kernel_rfl) (by kernel_rfl) (by kernel_rfl) trivial (QE_ldsR0 rfl rfl rfl (hcy.le h4) rfl) rfl ?_
   refine JA_q 8 rfl (by kernel_rfl) (by kernel_rfl) (by kernel_rfl) trivial (QE_ne rfl rfl) rfl ?_
   refine JA_done (by kernel_rfl) ?_
   refine thenQ_n ?_
   refine JC_ifN rfl (fun c5 => ?_) (fun c5 => ?_)
   ·
    have hE : x ≠ y := by assumption
    refine JC_seq ?_
    refine JC_region ?_
    refine JO_q (QE_as rfl) rfl ?_
    refine JO_nil ?_
    refine thenQ_n ?_
    refine JC_ret ?_
    refine blockQ_r ?_
    refine thenQ_r ?_
    refine thenQ_r ?_
    refine blockQ_r ?_
    refine thenQ_r ?_
    refine retQ_mk [] L (.inr rfl) (.tmp rfl (.nil)) rfl (Le.trans I2.1 h4) (fun sR hS2 => ?_)
    refine ⟨?_, rfl⟩
    first
      | (have h0 : l ≠ l1 := diff_lists hx hy hE
         simp [resV, h0]; done)
      | (have h0 : l ≠ l1 := fun e => by subst e; omega
         simp [resV, h0]; done)
      | (have h0 : l = l1 := same_lists (by omega) (fun i x hi h => hI i x (by omega) h)
         simp [resV, h0]; done)
   ·
    have hE : x = y := by simpa using c5
    refine JC_skip ?_
    refine blockQ_n ?_
    refine thenQ_n ?_
    refine JC_region ?_
    refine JO_q (QE_mv rfl) rfl ?_
    refine JO_q (QE_add' rfl rfl (w64 (by omega) (by omega))) rfl ?_
    refine JO_q (QE_as rfl) rfl ?_
    refine JO_nil ?_
    refine thenQ_n ⟨(k + 1), [], (Keeps.cons rfl (Keeps.cons rfl (Keeps.cons rfl (Keeps.cons rfl (Keeps.nil _))))), rfl, ⟨(Le.trans I2.1 h4), ⟨by omega, below_succ hI hx (hE ▸ hy)⟩⟩, (by omega)⟩
  ·
   refine JC_exit ?_
   refine thenQ_x ?_
   refine thenQ_x ?_
   refine blockQ_x ?_
   refine thenQ_n ?_
   refine JC_seq ?_
   refine JC_region ?_
   refine JO_q (QE_as rfl) rfl ?_
   refine JO_nil ?_
   refine thenQ_n ?_
   refine JC_ret ?_
   refine retQ_mk [] L (.inr rfl) (.tmp rfl (.nil)) rfl I2.1 (fun sR hS2 => ?_)
   refine ⟨?_, rfl⟩
   first
     | (have h0 : l ≠ l1 := diff_lists hx hy hE
        simp [resV, h0]; done)
     | (have h0 : l ≠ l1 := fun e => by subst e; omega
        simp [resV, h0]; done)
     | (have h0 : l = l1 := same_lists (by omega) (fun i x hi h => hI i x (by omega) h)
        simp [resV, h0]; done)
theorem its_lit {s : World} {b : Nat} {x : Int} (h : CellsAt s b 0 [.int .i64 x]) : Its s (some ⟨b, 0, none⟩) 1 1 [x] :=
  ⟨rfl, Nat.le_refl _, by omega, fun i y hi => by
    cases i with
    | zero => simp at hi; subst hi; exact ⟨b, 0, _, rfl, h, rfl, rfl⟩
    | succ i => simp at hi⟩
def t1W : Tab := ⟨1, []⟩
theorem ex_t1 : tabFault t1W = (0, 0) := by decide +kernel
theorem ex_tu : TabU t1W := fun x h => by cases h
theorem ex_tp : TabP t1W := tabP ex_tu (by rw [ex_t1])
theorem text_good {t : Tab} (h : (tabFault t).1 = 0) : textR t = pageT t := if_neg (fun e => e h)
theorem text_bad {t : Tab} (h : (tabFault t).1 ≠ 0) : textR t = [] := if_pos h
theorem ex_rd : readR (textR t1W) = (t1W, 0, 0) := by rw [text_good (by rw [ex_t1])]; exact read_page ex_tp ex_t1
def chkT : List UInt8 := [84, 104, 101, 32, 67, 104, 101, 99, 107, 32, 49, 46]
theorem ex_dm : damW chkT = [0] ∧ damE chkT = (0, 0) := by decide +kernel
theorem ex_pg : 1000 < (pageT t1W).length ∧ (pageT t1W).take 17 = [84, 104, 101, 32, 109, 97, 99, 104, 105, 110, 101, 32, 104, 97, 115, 32, 49] := by decide +kernel
theorem ex_len : (1000 : Int) < ((textR t1W).length : Int) ∧ 17 ≤ (textR t1W).length := by rw [text_good (by rw [ex_t1])]; have := ex_pg.1; omega
theorem ex_17 : (textR t1W).take 17 = [84, 104, 101, 32, 109, 97, 99, 104, 105, 110, 101, 32, 104, 97, 115, 32, 49] := by rw [text_good (by rw [ex_t1])]; exact ex_pg.2
set_option maxHeartbeats 4000000 in
set_option maxRecDepth 100000 in
theorem worded_ac (D : Nat) (L : Hl) (s : World) (hG : GP s) : AC Tryz.prog D 11 [] L s fun v L' _ => v = .bool true ∧ L = L' := by
 refine AC_enter (TT := TT) (fn := Tryz.f11) TT_ok Tryz.func11 (by kernel_rfl) rfl Tryz.ntmps11 rfl (rs := [.tmp 0]) rfl [] rfl ?_
 refine JC_seq ?_
 refine JC_region ?_
 refine JO_q (QE_as rfl) rfl ?_
 refine JO_nil ?_
 refine thenQ_n ?_
 refine JC_seq ?_
 refine JC_region ?_
 refine JO_q (QE_build [(_, _)] [_, _] rfl rfl rfl rfl rfl rfl) rfl ?_
 refine JO_allocZ rfl [_, _] rfl rfl ?_
 intro β1 s1 h1
 refine JO_st 0 [_, _] rfl rfl rfl rfl rfl rfl rfl rfl rfl ?_
 refine JO_nil ?_
 refine thenQ_n ?_
 refine JC_seq ?_
 refine JC_region ?_
 refine JO_q (QE_ldA 0 [_, _] rfl rfl rfl rfl rfl) rfl ?_
 refine JO_call (first := []) (captured := []) rfl rfl rfl (text_ac D _ _ (hG.le h1) t1W none 0 0 (inss_nil _)) ?_
 rintro _ _ s2 h2 ⟨rfl, rfl⟩
 refine JO_q (QE_mv rfl) rfl ?_
 refine JO_q (QE_ext rfl rfl) rfl ?_
 refine JO_q (QE_ext rfl rfl) rfl ?_
 refine JO_allocZ rfl [_, _] rfl rfl ?_
 intro β3 s3 h3
 refine JO_q (QE_as rfl) rfl ?_
 refine JO_st 0 [_, _] rfl rfl rfl rfl rfl rfl rfl rfl rfl ?_
 refine JO_nil ?_
 refine thenQ_n ?_
 refine JC_seq ?_
 refine JC_region ?_
 refine JO_q (QE_mv rfl) rfl ?_
 refine JO_call (first := []) (captured := []) rfl rfl rfl (read_ac D _ _ (hG.le (Le.trans (Le.trans h1 h2) h3)) (textR t1W)) ?_
 rintro _ _ s4 h4 ⟨rfl, Ara, nra, cra, rfl, hra⟩
 refine JO_q (QE_mv rfl) rfl ?_
 refine JO_q (QE_ext rfl rfl) rfl ?_
 refine JO_q (QE_ext rfl rfl) rfl ?_
 refine JO_allocZ rfl [_, _] rfl rfl ?_
 intro β5 s5 h5
 refine JO_allocZ rfl [_, _] rfl rfl ?_
 intro β6 s6 h6
 refine JO_st 1 [_, _] rfl rfl rfl rfl rfl rfl rfl rfl rfl ?_
 refine JO_st 0 [_, _] rfl rfl rfl rfl rfl rfl rfl rfl rfl ?_
 refine JO_nil ?_
 refine thenQ_n ?_
 refine JC_seq ?_
 refine JC_region ?_
 refine JO_call (first := []) (captured := []) rfl rfl rfl (damaged_ac D _ _ (hG.le (Le.trans (Le.trans (Le.trans (Le.trans (Le.trans h1 h2) h3) h4) h5) h6)) chkT) ?_
 rintro _ _ s7 h7 ⟨rfl, Ama, nma, cma, rfl, hma⟩
 refine JO_q (QE_mv rfl) rfl ?_
 refine JO_q (QE_ext rfl rfl) rfl ?_
 refine JO_q (QE_ext rfl rfl) rfl ?_
 refine JO_allocZ rfl [_, _] rfl rfl ?_
 intro β8 s8 h8
 refine JO_q (QE_as rfl) rfl ?_
 refine JO_st 0 [_, _] rfl rfl rfl rfl rfl rfl rfl rfl rfl ?_
 refine JO_nil ?_
 refine thenQ_n ?_
 refine JC_seq ?_
 refine JC_region ?_
 refine JO_q (QE_fa0 rfl rfl rfl rfl) rfl ?_
 refine JO_q (QE_ld1 3 rfl rfl rfl rfl rfl) rfl ?_
 refine JO_q (QE_cast (v' := .bool true) (QE_eq rfl rfl) (bT (by rw [ex_t1]))) rfl ?_
 refine JO_q (QE_mv rfl) rfl ?_
 refine JO_gT rfl rfl ?_
 refine JO_q (QE_fa0 rfl rfl rfl rfl) rfl ?_
 refine JO_gT rfl rfl ?_
 refine JO_q (QE_ld1 1 rfl rfl rfl rfl rfl) rfl ?_
 refine JO_gT rfl rfl ?_
 refine JO_q (QE_cast (v' := .bool true) (QE_eq rfl rfl) (bT (by rw [ex_rd]))) rfl ?_
 refine JO_q (QE_pickT rfl rfl) rfl ?_
 refine JO_q (QE_mv rfl) rfl ?_
 refine JO_gT rfl rfl ?_
 refine JO_q (QE_fa0 rfl rfl rfl rfl) rfl ?_
 refine JO_gT rfl rfl ?_
 refine JO_q (QE_ld1 0 rfl rfl rfl rfl rfl) rfl ?_
 refine JO_gT rfl rfl ?_
 refine JO_q (QE_cast (v' := .bool true) (QE_eq rfl rfl) (bT (by rw [ex_dm.2]))) rfl ?_
 refine JO_q (QE_pickT rfl rfl) rfl ?_
 refine JO_q (QE_mv rfl) rfl ?_
 refine JO_gT rfl rfl ?_
 refine JO_q (QE_ldA 4 [_, _] rfl rfl rfl rfl rfl) rfl ?_
 refine JO_gT rfl rfl ?_
 refine JO_q (QE_ldA 2 [_, _] rfl rfl rfl rfl rfl) rfl ?_
 refine JO_gT rfl rfl ?_
 refine JO_call (first := []) (captured := []) rfl rfl rfl (AC.isT (sameTable_ac D _ _ t1W none 0 0 (inss_nil _) (readR (textR t1W)).1 _ _ _ (hra.le (Le.trans (Le.trans (Le.trans h5 h6) h7) h8))) (by rw [ex_rd])) ?_
 rintro _ _ s9 h9 ⟨rfl, rfl⟩
 refine JO_q (QE_pickT rfl rfl) rfl ?_
 refine JO_q (QE_mv rfl) rfl ?_
 refine JO_gT rfl rfl ?_
 refine JO_q (QE_mv rfl) rfl ?_
 refine JO_gT rfl rfl ?_
 refine JO_q (QE_lenT rfl rfl rfl) rfl ?_
 refine JO_gT rfl rfl ?_
 refine JO_q (QE_cast (v' := .bool true) (QE_gt rfl rfl) (bT ex_len.1)) rfl ?_
 refine JO_q (QE_pickT rfl rfl) rfl ?_
 refine JO_q (QE_mv rfl) rfl ?_
 refine JO_gT rfl rfl ?_
 refine JO_q (QE_mv rfl) rfl ?_
 refine JO_gT rfl rfl ?_
 refine JO_q (QE_stH rfl rfl rfl rfl (show (17 : Nat) ≤ (textR t1W).length from ex_len.2)) rfl ?_
 refine JO_gT rfl rfl ?_
 refine JO_q (QE_cast (v' := .bool true) (QE_seq rfl rfl) (bT ex_17)) rfl ?_
 refine JO_q (QE_pickT rfl rfl) rfl ?_
 refine JO_q (QE_mv rfl) rfl ?_
 refine JO_gT rfl rfl ?_
 refine JO_q (QE_mv rfl) rfl ?_
 refine JO_gT rfl rfl ?_
 refine JO_bs [(_, _)] [_] rfl rfl rfl rfl rfl rfl rfl rfl rfl ?_
 intro βn s10 h10 hci
 refine JO_gT rfl rfl ?_
 refine JO_call (first := []) (captured := []) rfl rfl rfl (AC.isT (ints_ac D _ _ _ _ _ (damW chkT) (hma.le (Le.trans (Le.trans h8 h9) h10)) _ _ _ [0] (its_lit (hci.le (Le.refl (D := D) _)))) ex_dm.1) ?_
 rintro _ _ s11 h11 ⟨rfl, rfl⟩
 refine JO_q (QE_pickT rfl rfl) rfl ?_
 refine JO_q (QE_as rfl) rfl ?_
 refine JO_nil ?_
 refine thenQ_n ?_
 refine JC_ret ?_
 refine retQ_mk [_, _, _, _, _] L (.inr rfl) (.tmp rfl (.nil)) rfl (Le.trans (Le.trans (Le.trans (Le.trans (Le.trans (Le.trans (Le.trans (Le.trans (Le.trans (Le.trans h1 h2) h3) h4) h5) h6) h7) h8) h9) h10) h11) (fun sR hS2 => ?_)
 exact ⟨rfl, rfl⟩
end Go.Proofs.YtoeeblegplghmaaGreatDoor
namespace Go.Proofs.YtoeeblegplghmaaGreatDoor
open Go.FL
attribute [local irreducible] JC JO JA JB thenQ blockQ retQ AC fill CellsAt QE Ev Mid
theorem fld_hit {l : List UInt8} {i f : Nat} (hf : f < i) (hc : i = l.length ∨ ∃ ch, l[i]? = some ch ∧ isBlk ch = true) : fw ((l.drop f).take (i - f)) (l.drop i) = ((l.drop f).take (i - f)) :: fw ((l.drop (i + 1)).take (i + 1 - (i + 1))) (l.drop (i + 1)) := by
  rw [Nat.sub_self, List.take_zero]
  rcases hc with rfl | ⟨ch, h1, h2⟩
  · rw [fw_end hf, show l.drop (l.length + 1) = [] from List.drop_of_length_le (by omega)]; rfl
  · exact fw_hit h1 h2 hf
theorem fld_skip {l : List UInt8} {i : Nat} (hc : i = l.length ∨ ∃ ch, l[i]? = some ch ∧ isBlk ch = true) : fw ((l.drop i).take (i - i)) (l.drop i) = fw ((l.drop (i + 1)).take (i + 1 - (i + 1))) (l.drop (i + 1)) := by
  rw [Nat.sub_self, Nat.sub_self, List.take_zero, List.take_zero]
  rcases hc with rfl | ⟨ch, h1, h2⟩
  · rw [List.drop_of_length_le (Nat.le_refl _), List.drop_of_length_le (by omega)]
  · exact fw_skip h1 h2
theorem fld_end {l : List UInt8} : fw ((l.drop (l.length + 1)).take (l.length + 1 - (l.length + 1))) (l.drop (l.length + 1)) = [] := by
  rw [Nat.sub_self, List.take_zero, List.drop_of_length_le (by omega)]; rfl
set_option maxHeartbeats 2000000 in
set_option maxRecDepth 100000 in
theorem rfieldsO_ac (D : Nat) (L : Hl) (s : World) (l : List UInt8) (hl : l.length ≤ 4000000) : AC Tryz.prog D 19 [St l] L s fun v L' s' => ∃ M', L' = M' ++ L ∧ ∀ s2, Le D s' s2 → Pub M' s2 → ∃ A n c', v = .slice A n c' ∧ Strs s2 A n c' (flds l) := by
 refine AC_enter (TT := TT) (fn := Tryz.f19) TT_ok Tryz.func19 (by kernel_rfl) rfl Tryz.ntmps19 rfl (rs := [.tmp 2]) rfl [(0, _)] rfl ?_
 refine JC_seq ?_
 refine JC_region ?_
 refine JO_q (QE_as rfl) rfl ?_
 refine JO_nil ?_
 refine thenQ_n ?_
 refine JC_seq ?_
 refine JC_region ?_
 refine JO_q (QE_as rfl) rfl ?_
 refine JO_nil ?_
 refine thenQ_n ?_
 refine JC_seq ?_
 refine JC_region ?_
 refine JO_q (QE_as rfl) rfl ?_
 refine JO_nil ?_
 refine thenQ_n ?_
 refine JC_seq ?_
 refine JC_seq ?_
 refine JC_region ?_
 refine JO_q (QE_as rfl) rfl ?_
 refine JO_nil ?_
 refine thenQ_n ?_
 refine JC_block ?_
 refine JC_loop (γ := Nat × Nat × Value × Hl × List (List UInt8)) (fun g => [(0, _), (2, _), (3, g.2.2.1), (4, .int .i64 (g.2.1 : Int)), (5, .int .i64 (g.1 : Int))]) (fun g => g.2.2.2.1 ++ L) (fun g tw => Le D s tw ∧ (g.1 ≤ l.length + 1 ∧ g.2.1 ≤ g.1 ∧ (l.length < g.1 → g.2.1 = g.1) ∧ FL.Own 9 1 g.2.2.2.1 g.2.2.1 g.2.2.2.2.length (sb g.2.2.2.2) ∧ g.2.2.2.2.length ≤ g.1 ∧ flds l = g.2.2.2.2 ++ fw ((l.drop g.2.1).take (g.1 - g.2.1)) (l.drop g.1))) (fun g => l.length + 1 - g.1) (fun _ _ _ h hl => ⟨h.1.trans hl, h.2⟩) (0, 0, .slice none 0 0, [], []) (Keeps.cons rfl (Keeps.cons rfl (Keeps.cons rfl (Keeps.cons rfl (Keeps.cons rfl (Keeps.nil _)))))) rfl ⟨Le.refl _, ⟨Nat.zero_le _, Nat.le_refl _, fun h => by simp only at h; omega, FL.Own.nil, Nat.le_refl _, by simp [flds]⟩⟩ ?_
 intro g s1 I1
 obtain ⟨i, f, vo, Mo, out⟩ := g
 obtain ⟨hi0, hf, hfe, hO, hol, hS⟩ := I1.2
 simp only at hi0 hf hfe hO hol hS
 dsimp only
 refine JC_seq ?_
 refine JC_seq ?_
 refine JC_region ?_
 refine JO_q (QE_mv rfl) rfl ?_
 refine JO_q (QE_mv rfl) rfl ?_
 refine JO_q (QE_lenT rfl rfl rfl) rfl ?_
 refine JO_q (QE_le rfl rfl) rfl ?_
 refine JO_nil ?_
 refine thenQ_n ?_
 refine JC_ifD rfl (fun c2 => ?_) (fun c2 => ?_)
 ·
  refine JC_skip ?_
  refine thenQ_n ?_
  refine JC_seq ?_
  refine JC_block ?_
  refine JC_seq ?_
  refine JC_seq ?_
  refine JC_region ?_
  refine JO_q (QE_mv rfl) rfl ?_
  refine JO_q (QE_mv rfl) rfl ?_
  refine JO_q (QE_lenT rfl rfl rfl) rfl ?_
  refine JO_q (QE_lt rfl rfl) rfl ?_
  refine JO_q (QE_mv rfl) rfl ?_
  refine JO_caseD (t := 16) rfl (fun c3 => ?_) (fun c3 => ?_)
  ·
   refine JO_gT rfl rfl ?_
   refine JO_q (QE_mv rfl) rfl ?_
   refine JO_gT rfl rfl ?_
   refine JO_q (QE_mv rfl) rfl ?_
   refine JO_gT rfl rfl ?_
   obtain ⟨ch, hch⟩ : ∃ ch, l[i]? = some ch := ⟨_, List.getElem?_eq_getElem (by omega)⟩
   refine JO_q (QE_ix rfl rfl rfl rfl hch) rfl ?_
   refine JO_gT rfl rfl ?_
   refine JO_q (QE_ne rfl rfl) rfl ?_
   refine JO_q (QE_pickT rfl rfl) rfl ?_
   refine JO_q (QE_mv rfl) rfl ?_
   refine JO_caseN (t := 22) rfl (fun c4 => ?_) (fun c4 => ?_)
   ·
    refine JO_gT rfl rfl ?_
    refine JO_q (QE_mv rfl) rfl ?_
    refine JO_gT rfl rfl ?_
    refine JO_q (QE_mv rfl) rfl ?_
    refine JO_gT rfl rfl ?_
    refine JO_q (QE_ix rfl rfl rfl rfl hch) rfl ?_
    refine JO_gT rfl rfl ?_
    refine JO_q (QE_ne rfl rfl) rfl ?_
    refine JO_q (QE_pickT rfl rfl) rfl ?_
    refine JO_nil ?_
    refine thenQ_n ?_
    refine JC_ifN rfl (fun c5 => ?_) (fun c5 => ?_)
    ·
     have hb : isBlk ch = false := Bool.eq_false_iff.2 (fun h => by have := isBlk_iff.1 h; omega)
     refine JC_exit ?_
     refine thenQ_x ?_
     refine blockQ_x ?_
     refine thenQ_n ?_
     refine JC_region ?_
     refine JO_q (QE_mv rfl) rfl ?_
     refine JO_q (QE_add' rfl rfl (w64 (by omega) (by omega))) rfl ?_
     refine JO_q (QE_as rfl) rfl ?_
     refine JO_nil ?_
     refine thenQ_n ⟨(i + 1, f, vo, Mo, out), [], (Keeps.cons rfl (Keeps.cons rfl (Keeps.cons rfl (Keeps.cons rfl (Keeps.cons rfl (Keeps.nil _)))))), rfl, ⟨I1.1, by
       first
       | exact ⟨by simp only; omega, by simp only; omega, fun h => by simp only at h; omega, hO, by simp only; omega, by simp only; rw [hS, fw_miss hch hb hf]⟩
       | exact ⟨by simp only; omega, Nat.le_refl _, fun _ => rfl, by simp only [List.length_append, List.length_cons, List.length_nil, sb_snoc]; exact oq, by simp only [List.length_append, List.length_cons, List.length_nil]; omega, by simp only; rw [hS, fld_hit h30 hcase]; simp⟩
       | exact ⟨by simp only; omega, Nat.le_refl _, fun _ => rfl, hO, by simp only; omega, by simp only; rw [hS, show f = i by omega, fld_skip hcase]⟩⟩, (by simp only; omega)⟩
    ·
     have hcase : (i = l.length) ∨ ∃ ch, l[i]? = some ch ∧ isBlk ch = true := by
       first
       | exact .inl (by omega)
       | exact .inr ⟨ch, hch, isBlk_iff.2 (by omega)⟩
     refine JC_skip ?_
     refine thenQ_n ?_
     refine JC_seq ?_
     refine JC_seq ?_
     refine JC_region ?_
     refine JO_q (QE_mv rfl) rfl ?_
     refine JO_q (QE_mv rfl) rfl ?_
     refine JO_q (QE_gt rfl rfl) rfl ?_
     refine JO_nil ?_
     refine thenQ_n ?_
     refine JC_ifD rfl (fun c6 => ?_) (fun c6 => ?_)
     ·
      have h30 : f < i := by omega
      refine JC_region ?_
      refine JO_q (QE_mv rfl) rfl ?_
      refine JO_q (QE_mv rfl) rfl ?_
      refine JO_q (QE_mv rfl) rfl ?_
      refine JO_q (QE_mv rfl) rfl ?_
      refine JO_q (QE_stLH rfl rfl rfl rfl rfl (by omega) (by omega)) rfl ?_
      refine JO_bs [(_, _)] [_] rfl rfl rfl rfl rfl rfl rfl rfl rfl ?_
      intro βn s7 h7 hcb
      refine JO_app (sz := 1) [] Mo L rfl rfl rfl rfl rfl rfl rfl hO (Row.of_cells (hcb.le (Le.refl (D := D) _)) rfl rfl) ⟨by simp [ti9]; omega, by omega⟩ rfl ?_
      intro vq Mq s8 h8 oq
      obtain ⟨Avq, cvq, rfl, _, _⟩ := Own.slice oq
      simp only [List.nil_append]
      refine JO_q (QE_as rfl) rfl ?_
      refine JO_nil ?_
      refine thenQ_n ?_
      refine JC_region ?_
      refine JO_q (QE_mv rfl) rfl ?_
      refine JO_q (QE_add' rfl rfl (w64 (by omega) (by omega))) rfl ?_
      refine JO_q (QE_as rfl) rfl ?_
      refine JO_nil ?_
      refine blockQ_n ?_
      refine thenQ_n ?_
      refine JC_region ?_
      refine JO_q (QE_mv rfl) rfl ?_
      refine JO_q (QE_add' rfl rfl (w64 (by omega) (by omega))) rfl ?_
      refine JO_q (QE_as rfl) rfl ?_
      refine JO_nil ?_
      refine thenQ_n ⟨(i + 1, i + 1, .slice Avq (out.length + 1) cvq, Mq, out ++ [(l.drop f).take (i - f)]), [], (Keeps.cons rfl (Keeps.cons rfl (Keeps.cons rfl (Keeps.cons rfl (Keeps.cons rfl (Keeps.nil _)))))), rfl, ⟨(Le.trans (Le.trans I1.1 h7) h8), by
        first
        | exact ⟨by simp only; omega, by simp only; omega, fun h => by simp only at h; omega, hO, by simp only; omega, by simp only; rw [hS, fw_miss hch hb hf]⟩
        | exact ⟨by simp only; omega, Nat.le_refl _, fun _ => rfl, by simp only [List.length_append, List.length_cons, List.length_nil, sb_snoc]; exact oq, by simp only [List.length_append, List.length_cons, List.length_nil]; omega, by simp only; rw [hS, fld_hit h30 hcase]; simp⟩
        | exact ⟨by simp only; omega, Nat.le_refl _, fun _ => rfl, hO, by simp only; omega, by simp only; rw [hS, show f = i by omega, fld_skip hcase]⟩⟩, (by simp only; omega)⟩
     ·
      have h30 : ¬ f < i := by omega
      refine JC_skip ?_
      refine thenQ_n ?_
      refine JC_region ?_
      refine JO_q (QE_mv rfl) rfl ?_
      refine JO_q (QE_add' rfl rfl (w64 (by omega) (by omega))) rfl ?_
      refine JO_q (QE_as rfl) rfl ?_
      refine JO_nil ?_
      refine blockQ_n ?_
      refine thenQ_n ?_
      refine JC_region ?_
      refine JO_q (QE_mv rfl) rfl ?_
      refine JO_q (QE_add' rfl rfl (w64 (by omega) (by omega))) rfl ?_
      refine JO_q (QE_as rfl) rfl ?_
      refine JO_nil ?_
      refine thenQ_n ⟨(i + 1, i + 1, vo, Mo, out), [], (Keeps.cons rfl (Keeps.cons rfl (Keeps.cons rfl (Keeps.cons rfl (Keeps.cons rfl (Keeps.nil _)))))), rfl, ⟨I1.1, by
        first
        | exact ⟨by simp only; omega, by simp only; omega, fun h => by simp only at h; omega, hO, by simp only; omega, by simp only; rw [hS, fw_miss hch hb hf]⟩
        | exact ⟨by simp only; omega, Nat.le_refl _, fun _ => rfl, by simp only [List.length_append, List.length_cons, List.length_nil, sb_snoc]; exact oq, by simp only [List.length_append, List.length_cons, List.length_nil]; omega, by simp only; rw [hS, fld_hit h30 hcase]; simp⟩
        | exact ⟨by simp only; omega, Nat.le_refl _, fun _ => rfl, hO, by simp only; omega, by simp only; rw [hS, show f = i by omega, fld_skip hcase]⟩⟩, (by simp only; omega)⟩
   ·
    refine JO_gF rfl rfl rfl rfl ?_
    refine JO_gF rfl rfl rfl rfl ?_
    refine JO_gF rfl rfl rfl rfl ?_
    refine JO_gF rfl rfl rfl rfl ?_
    refine JO_q (QE_pickF rfl rfl) rfl ?_
    refine JO_nil ?_
    refine thenQ_n ?_
    refine JC_ifF rfl ?_
    have hcase : (i = l.length) ∨ ∃ ch, l[i]? = some ch ∧ isBlk ch = true := by
      first
      | exact .inl (by omega)
      | exact .inr ⟨ch, hch, isBlk_iff.2 (by omega)⟩
    refine JC_skip ?_
    refine thenQ_n ?_
    refine JC_seq ?_
    refine JC_seq ?_
    refine JC_region ?_
    refine JO_q (QE_mv rfl) rfl ?_
    refine JO_q (QE_mv rfl) rfl ?_
    refine JO_q (QE_gt rfl rfl) rfl ?_
    refine JO_nil ?_
    refine thenQ_n ?_
    refine JC_ifD rfl (fun c9 => ?_) (fun c9 => ?_)
    ·
     have h30 : f < i := by omega
     refine JC_region ?_
     refine JO_q (QE_mv rfl) rfl ?_
     refine JO_q (QE_mv rfl) rfl ?_
     refine JO_q (QE_mv rfl) rfl ?_
     refine JO_q (QE_mv rfl) rfl ?_
     refine JO_q (QE_stLH rfl rfl rfl rfl rfl (by omega) (by omega)) rfl ?_
     refine JO_bs [(_, _)] [_] rfl rfl rfl rfl rfl rfl rfl rfl rfl ?_
     intro βn s10 h10 hcb
     refine JO_app (sz := 1) [] Mo L rfl rfl rfl rfl rfl rfl rfl hO (Row.of_cells (hcb.le (Le.refl (D := D) _)) rfl rfl) ⟨by simp [ti9]; omega, by omega⟩ rfl ?_
     intro vq Mq s11 h11 oq
     obtain ⟨Avq, cvq, rfl, _, _⟩ := Own.slice oq
     simp only [List.nil_append]
     refine JO_q (QE_as rfl) rfl ?_
     refine JO_nil ?_
     refine thenQ_n ?_
     refine JC_region ?_
     refine JO_q (QE_mv rfl) rfl ?_
     refine JO_q (QE_add' rfl rfl (w64 (by omega) (by omega))) rfl ?_
     refine JO_q (QE_as rfl) rfl ?_
     refine JO_nil ?_
     refine blockQ_n ?_
     refine thenQ_n ?_
     refine JC_region ?_
     refine JO_q (QE_mv rfl) rfl ?_
     refine JO_q (QE_add' rfl rfl (w64 (by omega) (by omega))) rfl ?_
     refine JO_q (QE_as rfl) rfl ?_
     refine JO_nil ?_
     refine thenQ_n ⟨(i + 1, i + 1, .slice Avq (out.length + 1) cvq, Mq, out ++ [(l.drop f).take (i - f)]), [], (Keeps.cons rfl (Keeps.cons rfl (Keeps.cons rfl (Keeps.cons rfl (Keeps.cons rfl (Keeps.nil _)))))), rfl, ⟨(Le.trans (Le.trans I1.1 h10) h11), by
       first
       | exact ⟨by simp only; omega, by simp only; omega, fun h => by simp only at h; omega, hO, by simp only; omega, by simp only; rw [hS, fw_miss hch hb hf]⟩
       | exact ⟨by simp only; omega, Nat.le_refl _, fun _ => rfl, by simp only [List.length_append, List.length_cons, List.length_nil, sb_snoc]; exact oq, by simp only [List.length_append, List.length_cons, List.length_nil]; omega, by simp only; rw [hS, fld_hit h30 hcase]; simp⟩
       | exact ⟨by simp only; omega, Nat.le_refl _, fun _ => rfl, hO, by simp only; omega, by simp only; rw [hS, show f = i by omega, fld_skip hcase]⟩⟩, (by simp only; omega)⟩
    ·
     have h30 : ¬ f < i := by omega
     refine JC_skip ?_
     refine thenQ_n ?_
     refine JC_region ?_
     refine JO_q (QE_mv rfl) rfl ?_
     refine JO_q (QE_add' rfl rfl (w64 (by omega) (by omega))) rfl ?_
     refine JO_q (QE_as rfl) rfl ?_
     refine JO_nil ?_
     refine blockQ_n ?_
     refine thenQ_n ?_
     refine JC_region ?_
     refine JO_q (QE_mv rfl) rfl ?_
     refine JO_q (QE_add' rfl rfl (w64 (by omega) (by omega))) rfl ?_
     refine JO_q (QE_as rfl) rfl ?_
     refine JO_nil ?_
     refine thenQ_n ⟨(i + 1, i + 1, vo, Mo, out), [], (Keeps.cons rfl (Keeps.cons rfl (Keeps.cons rfl (Keeps.cons rfl (Keeps.cons rfl (Keeps.nil _)))))), rfl, ⟨I1.1, by
       first
       | exact ⟨by simp only; omega, by simp only; omega, fun h => by simp only at h; omega, hO, by simp only; omega, by simp only; rw [hS, fw_miss hch hb hf]⟩
       | exact ⟨by simp only; omega, Nat.le_refl _, fun _ => rfl, by simp only [List.length_append, List.length_cons, List.length_nil, sb_snoc]; exact oq, by simp only [List.length_append, List.length_cons, List.length_nil]; omega, by simp only; rw [hS, fld_hit h30 hcase]; simp⟩
       | exact ⟨by simp only; omega, Nat.le_refl _, fun _ => rfl, hO, by simp only; omega, by simp only; rw [hS, show f = i by omega, fld_skip hcase]⟩⟩, (by simp only; omega)⟩
  ·
   refine JO_gF rfl rfl rfl rfl ?_
   refine JO_gF rfl rfl rfl rfl ?_
   refine JO_gF rfl rfl rfl rfl ?_
   refine JO_gF rfl rfl rfl rfl ?_
   refine JO_q (QE_pickF rfl rfl) rfl ?_
   refine JO_q (QE_mv rfl) rfl ?_
   refine JO_gF rfl rfl rfl rfl ?_
   refine JO_gF rfl rfl rfl rfl ?_
   refine JO_gF rfl rfl rfl rfl ?_
   refine JO_gF rfl rfl rfl rfl ?_
   refine JO_q (QE_pickF rfl rfl) rfl ?_
   refine JO_nil ?_
   refine thenQ_n ?_
   refine JC_ifF rfl ?_
   have hcase : (i = l.length) ∨ ∃ ch, l[i]? = some ch ∧ isBlk ch = true := by
     first
     | exact .inl (by omega)
     | exact .inr ⟨ch, hch, isBlk_iff.2 (by omega)⟩
   refine JC_skip ?_
   refine thenQ_n ?_
   refine JC_seq ?_
   refine JC_seq ?_
   refine JC_region ?_
   refine JO_q (QE_mv rfl) rfl ?_
   refine JO_q (QE_mv rfl) rfl ?_
   refine JO_q (QE_gt rfl rfl) rfl ?_
   refine JO_nil ?_
   refine thenQ_n ?_
   refine JC_ifD rfl (fun c12 => ?_) (fun c12 => ?_)
   ·
    have h30 : f < i := by omega
    refine JC_region ?_
    refine JO_q (QE_mv rfl) rfl ?_
    refine JO_q (QE_mv rfl) rfl ?_
    refine JO_q (QE_mv rfl) rfl ?_
    refine JO_q (QE_mv rfl) rfl ?_
    refine JO_q (QE_stLH rfl rfl rfl rfl rfl (by omega) (by omega)) rfl ?_
    refine JO_bs [(_, _)] [_] rfl rfl rfl rfl rfl rfl rfl rfl rfl ?_
    intro βn s13 h13 hcb
    refine JO_app (sz := 1) [] Mo L rfl rfl rfl rfl rfl rfl rfl hO (Row.of_cells (hcb.le (Le.refl (D := D) _)) rfl rfl) ⟨by simp [ti9]; omega, by omega⟩ rfl ?_
    intro vq Mq s14 h14 oq
    obtain ⟨Avq, cvq, rfl, _, _⟩ := Own.slice oq
    simp only [List.nil_append]
    refine JO_q (QE_as rfl) rfl ?_
    refine JO_nil ?_
    refine thenQ_n ?_
    refine JC_region ?_
    refine JO_q (QE_mv rfl) rfl ?_
    refine JO_q (QE_add' rfl rfl (w64 (by omega) (by omega))) rfl ?_
    refine JO_q (QE_as rfl) rfl ?_
    refine JO_nil ?_
    refine blockQ_n ?_
    refine thenQ_n ?_
    refine JC_region ?_
    refine JO_q (QE_mv rfl) rfl ?_
    refine JO_q (QE_add' rfl rfl (w64 (by omega) (by omega))) rfl ?_
    refine JO_q (QE_as rfl) rfl ?_
    refine JO_nil ?_
    refine thenQ_n ⟨(i + 1, i + 1, .slice Avq (out.length + 1) cvq, Mq, out ++ [(l.drop f).take (i - f)]), [], (Keeps.cons rfl (Keeps.cons rfl (Keeps.cons rfl (Keeps.cons rfl (Keeps.cons rfl (Keeps.nil _)))))), rfl, ⟨(Le.trans (Le.trans I1.1 h13) h14), by
      first
      | exact ⟨by simp only; omega, by simp only; omega, fun h => by simp only at h; omega, hO, by simp only; omega, by simp only; rw [hS, fw_miss hch hb hf]⟩
      | exact ⟨by simp only; omega, Nat.le_refl _, fun _ => rfl, by simp only [List.length_append, List.length_cons, List.length_nil, sb_snoc]; exact oq, by simp only [List.length_append, List.length_cons, List.length_nil]; omega, by simp only; rw [hS, fld_hit h30 hcase]; simp⟩
      | exact ⟨by simp only; omega, Nat.le_refl _, fun _ => rfl, hO, by simp only; omega, by simp only; rw [hS, show f = i by omega, fld_skip hcase]⟩⟩, (by simp only; omega)⟩
   ·
    have h30 : ¬ f < i := by omega
    refine JC_skip ?_
    refine thenQ_n ?_
    refine JC_region ?_
    refine JO_q (QE_mv rfl) rfl ?_
    refine JO_q (QE_add' rfl rfl (w64 (by omega) (by omega))) rfl ?_
    refine JO_q (QE_as rfl) rfl ?_
    refine JO_nil ?_
    refine blockQ_n ?_
    refine thenQ_n ?_
    refine JC_region ?_
    refine JO_q (QE_mv rfl) rfl ?_
    refine JO_q (QE_add' rfl rfl (w64 (by omega) (by omega))) rfl ?_
    refine JO_q (QE_as rfl) rfl ?_
    refine JO_nil ?_
    refine thenQ_n ⟨(i + 1, i + 1, vo, Mo, out), [], (Keeps.cons rfl (Keeps.cons rfl (Keeps.cons rfl (Keeps.cons rfl (Keeps.cons rfl (Keeps.nil _)))))), rfl, ⟨I1.1, by
      first
      | exact ⟨by simp only; omega, by simp only; omega, fun h => by simp only at h; omega, hO, by simp only; omega, by simp only; rw [hS, fw_miss hch hb hf]⟩
      | exact ⟨by simp only; omega, Nat.le_refl _, fun _ => rfl, by simp only [List.length_append, List.length_cons, List.length_nil, sb_snoc]; exact oq, by simp only [List.length_append, List.length_cons, List.length_nil]; omega, by simp only; rw [hS, fld_hit h30 hcase]; simp⟩
      | exact ⟨by simp only; omega, Nat.le_refl _, fun _ => rfl, hO, by simp only; omega, by simp only; rw [hS, show f = i by omega, fld_skip hcase]⟩⟩, (by simp only; omega)⟩
 ·
  have hiE : i = l.length + 1 := by omega
  subst hiE
  obtain rfl := hfe (by omega)
  rw [fld_end, List.append_nil] at hS
  obtain ⟨Ao, co, rfl, _, _⟩ := Own.slice hO
  refine JC_exit ?_
  refine thenQ_x ?_
  refine thenQ_x ?_
  refine blockQ_x ?_
  refine thenQ_n ?_
  refine JC_seq ?_
  refine JC_region ?_
  refine JO_q (QE_mv rfl) rfl ?_
  refine JO_q (QE_as rfl) rfl ?_
  refine JO_nil ?_
  refine thenQ_n ?_
  refine JC_ret ?_
  refine retQ_mk [] _ (.inr rfl) (.tmp rfl (.nil)) rfl I1.1 (fun sR hS2 => ?_)
  refine ⟨_, rfl, fun s2 hs2 hp => ⟨_, _, _, rfl, ?_⟩⟩
  rw [hS]
  exact Own.strs hO (fun x hx => by rw [← hS] at hx; have := flds_short l x hx; omega) hp rfl
theorem rfields_ac (D : Nat) (L : Hl) (s : World) (l : List UInt8) (hl : l.length ≤ 4000000) : AC Tryz.prog D 19 [St l] L s fun v L' s' => L = L' ∧ ∃ A n c', v = .slice A n c' ∧ Strs s' A n c' (flds l) := AC.pubW (rfieldsO_ac D L s l hl)
end Go.Proofs.YtoeeblegplghmaaGreatDoor
namespace Go.Proofs.YtoeeblegplghmaaGreatDoor
open Go.FL
attribute [local irreducible] JC JO JA JB thenQ blockQ retQ AC fill CellsAt QE Ev Mid
def gapL : List (List UInt8) := [[32], [10], [32, 32], [32, 10]]
def gapN (k : Nat) : List UInt8 := gapL.getD k []
theorem gap_at {s : World} {b k : Nat} (h : CellsAt s b 0 (gapL.map fun x => St x)) (hk : k < 4) : CellsAt s b (0 + k) [St (gapN k)] := by
  unfold CellsAt at h
  exact CellsAt.one (h k (St (gapN k)) (by rw [List.getElem?_map, gapN, List.getD_eq_getElem?_getD, List.getElem?_eq_getElem (show k < gapL.length from hk)]; rfl))
theorem gap_ok : ∀ k, k < 4 → (gapN k).length ≤ 2 ∧ (gapN k = [32] ∨ gapN k = [10] ∨ gapN k = [32, 32] ∨ gapN k = [32, 10]) := by decide
theorem gapS_snoc : ∀ (l : List (List UInt8 × List UInt8)) (w g : List UInt8), gapS (l ++ [(w, g)]) = (gapS l ++ w) ++ g
  | [], w, g => by simp [gapS]
  | (a, b) :: r, w, g => by
    show a ++ b ++ gapS (r ++ [(w, g)]) = (a ++ b ++ gapS r ++ w) ++ g
    rw [gapS_snoc r w g]; simp
abbrev GapOK (l : List (List UInt8 × List UInt8)) : Prop := ∀ x ∈ l, bare1 x.1 ∧ (x.2 = [32] ∨ x.2 = [10] ∨ x.2 = [32, 32] ∨ x.2 = [32, 10])
theorem gapOK_snoc {l : List (List UInt8 × List UInt8)} {w : List UInt8} {k : Nat} (h : GapOK l) (hw : bare1 w) (hk : k < 4) : GapOK (l ++ [(w, gapN k)]) := fun x hx => by
  rcases List.mem_append.1 hx with h1 | h1
  · exact h x h1
  · rw [List.mem_singleton.1 h1]; exact ⟨hw, (gap_ok k hk).2⟩
theorem map_next {l : List (List UInt8 × List UInt8)} {ws : List (List UInt8)} {k : Nat} {w g : List UInt8} (h : l.map (·.1) = ws.take k) (hw : ws[k]? = some w) : (l ++ [(w, g)]).map (·.1) = ws.take (k + 1) := by
  obtain ⟨hk, he⟩ := List.getElem?_eq_some_iff.1 hw
  rw [List.map_append, h, List.take_succ_eq_append_getElem hk, he]; rfl
theorem remN (i n : Nat) : Value.int .i64 ((i : Int).tmod (n : Int)) = .int .i64 ((i % n : Nat) : Int) := by rw [Int.tmod_eq_emod_of_nonneg (by omega)]; rfl
set_option maxHeartbeats 4000000 in
set_option maxRecDepth 100000 in
theorem lawLayout_ac (D : Nat) (L : Hl) (s : World) (hG : GP s) (t : Tab) (A : Option Addr) (n c : Nat) (hA : Inss s A n c t.ins) (AI : Option Addr) (nI cI : Nat) (gl : List Int) (hI : Its s AI nI cI gl) : AC Tryz.prog D 6 [.agg #[.int .i64 t.cells, .slice A n c], .slice AI nI cI] L s fun v L' _ => v = .bool true ∧ L = L' := by
 have hIc := hI.2.1
 have hIc2 := hI.2.2.1
 refine AC_enter (TT := TT) (fn := Tryz.f6) TT_ok Tryz.func6 (by kernel_rfl) rfl Tryz.ntmps6 rfl (rs := [.tmp 4]) rfl [(0, _), (1, _)] rfl ?_
 refine JC_seq ?_
 refine JC_region ?_
 refine JO_boxA rfl rfl ?_
 intro β1 s1 h1
 refine JO_q (QE_as rfl) rfl ?_
 refine JO_nil ?_
 refine thenQ_n ?_
 refine JC_seq ?_
 refine JC_seq ?_
 refine JC_region ?_
 refine JO_call (first := []) (captured := []) rfl rfl rfl (worded_ac D _ _ (hG.le h1)) ?_
 rintro _ _ s2 h2 ⟨rfl, rfl⟩
 refine JO_q (QE_notT rfl) rfl ?_
 refine JO_nil ?_
 refine thenQ_n ?_
 refine JC_ifF rfl ?_
 refine JC_skip ?_
 refine thenQ_n ?_
 refine JC_seq ?_
 refine JC_region ?_
 refine JO_q (QE_ldA 0 [_, _] rfl rfl rfl rfl rfl) rfl ?_
 refine JO_call (first := []) (captured := []) rfl rfl rfl (text_ac D _ _ (hG.le (Le.trans h1 h2)) t _ _ _ (hA.le (Le.trans h1 h2))) ?_
 rintro _ _ s3 h3 ⟨rfl, rfl⟩
 refine JO_q (QE_mv rfl) rfl ?_
 refine JO_q (QE_ext rfl rfl) rfl ?_
 refine JO_q (QE_ext rfl rfl) rfl ?_
 refine JO_allocZ rfl [_, _] rfl rfl ?_
 intro β4 s4 h4
 refine JO_q (QE_as rfl) rfl ?_
 refine JO_st 0 [_, _] rfl rfl rfl rfl rfl rfl rfl rfl rfl ?_
 refine JO_nil ?_
 refine thenQ_n ?_
 refine JC_seq ?_
 refine JC_seq ?_
 refine JC_region ?_
 refine JO_q (QE_fa0 rfl rfl rfl rfl) rfl ?_
 refine JO_q (QE_ld1 0 rfl rfl rfl rfl rfl) rfl ?_
 refine JO_q (QE_ne rfl rfl) rfl ?_
 refine JO_q (QE_mv rfl) rfl ?_
 refine JO_caseN (t := 24) rfl (fun c5 => ?_) (fun c5 => ?_)
 ·
  refine JO_gF rfl rfl rfl rfl ?_
  refine JO_gF rfl rfl rfl rfl ?_
  refine JO_gF rfl rfl rfl rfl ?_
  refine JO_q (QE_pickT rfl rfl) rfl ?_
  refine JO_nil ?_
  refine thenQ_n ?_
  refine JC_ifT rfl ?_
  refine JC_seq ?_
  refine JC_region ?_
  refine JO_q (QE_fa0 rfl rfl rfl rfl) rfl ?_
  refine JO_q (QE_ld1 0 rfl rfl rfl rfl rfl) rfl ?_
  refine JO_q (QE_eq rfl rfl) rfl ?_
  refine JO_q (QE_mv rfl) rfl ?_
  refine JO_caseD (t := 32) rfl (fun c6 => ?_) (fun c6 => ?_)
  ·
   refine JO_gF rfl rfl rfl rfl ?_
   refine JO_gF rfl rfl rfl rfl ?_
   refine JO_q (QE_pickT rfl rfl) rfl ?_
   refine JO_q (QE_as rfl) rfl ?_
   refine JO_nil ?_
   refine thenQ_n ?_
   refine JC_ret ?_
   refine thenQ_r ?_
   refine retQ_mk [_, _] L (.inr rfl) (.tmp rfl (.nil)) rfl (Le.trans (Le.trans (Le.trans h1 h2) h3) h4) (fun sR hS2 => ?_)
   exact ⟨rfl, rfl⟩
  ·
   refine JO_gT rfl rfl ?_
   refine JO_q (QE_mv rfl) rfl ?_
   refine JO_gT rfl rfl ?_
   refine JO_q (QE_cast (v' := .bool true) (QE_seq rfl rfl) (bT (text_bad (by assumption)))) rfl ?_
   refine JO_q (QE_pickF rfl rfl) rfl ?_
   refine JO_q (QE_as rfl) rfl ?_
   refine JO_nil ?_
   refine thenQ_n ?_
   refine JC_ret ?_
   refine thenQ_r ?_
   refine retQ_mk [_, _] L (.inr rfl) (.tmp rfl (.nil)) rfl (Le.trans (Le.trans (Le.trans h1 h2) h3) h4) (fun sR hS2 => ?_)
   exact ⟨rfl, rfl⟩
 ·
  refine JO_gT rfl rfl ?_
  refine JO_q (QE_mv rfl) rfl ?_
  refine JO_gT rfl rfl ?_
  refine JO_q (QE_lenS rfl rfl rfl) rfl ?_
  refine JO_gT rfl rfl ?_
  refine JO_q (QE_eq rfl rfl) rfl ?_
  refine JO_q (QE_pickF rfl rfl) rfl ?_
  refine JO_nil ?_
  refine thenQ_n ?_
  refine JC_ifD rfl (fun c7 => ?_) (fun c7 => ?_)
  ·
   refine JC_seq ?_
   refine JC_region ?_
   refine JO_q (QE_fa0 rfl rfl rfl rfl) rfl ?_
   refine JO_q (QE_ld1 0 rfl rfl rfl rfl rfl) rfl ?_
   refine JO_q (QE_eq rfl rfl) rfl ?_
   refine JO_q (QE_mv rfl) rfl ?_
   refine JO_caseD (t := 32) rfl (fun c8 => ?_) (fun c8 => ?_)
   ·
    refine JO_gF rfl rfl rfl rfl ?_
    refine JO_gF rfl rfl rfl rfl ?_
    refine JO_q (QE_pickT rfl rfl) rfl ?_
    refine JO_q (QE_as rfl) rfl ?_
    refine JO_nil ?_
    refine thenQ_n ?_
    refine JC_ret ?_
    refine thenQ_r ?_
    refine retQ_mk [_, _] L (.inr rfl) (.tmp rfl (.nil)) rfl (Le.trans (Le.trans (Le.trans h1 h2) h3) h4) (fun sR hS2 => ?_)
    exact ⟨rfl, rfl⟩
   ·
    refine JO_gT rfl rfl ?_
    refine JO_q (QE_mv rfl) rfl ?_
    refine JO_gT rfl rfl ?_
    refine JO_q (QE_cast (v' := .bool true) (QE_seq rfl rfl) (bT (text_bad (by assumption)))) rfl ?_
    refine JO_q (QE_pickF rfl rfl) rfl ?_
    refine JO_q (QE_as rfl) rfl ?_
    refine JO_nil ?_
    refine thenQ_n ?_
    refine JC_ret ?_
    refine thenQ_r ?_
    refine retQ_mk [_, _] L (.inr rfl) (.tmp rfl (.nil)) rfl (Le.trans (Le.trans (Le.trans h1 h2) h3) h4) (fun sR hS2 => ?_)
    exact ⟨rfl, rfl⟩
  ·
   have h0 : (tabFault t).1 = 0 := by assumption
   have hgl : 0 < nI := by omega
   have h00 : tabFault t = (0, 0) := Prod.ext h0 (tab_zero t h0)
   have hT := tabP (Inss.tabU hA) h0
   have hpl := page_len hT
   have hfl := flds_len (pageT t)
   refine JC_skip ?_
   refine thenQ_n ?_
   refine JC_seq ?_
   refine JC_region ?_
   refine JO_q (QE_mv rfl) rfl ?_
   refine JO_call (first := []) (captured := []) rfl rfl rfl (rfields_ac D _ _ (textR t) (by rw [text_good h0]; omega)) ?_
   rintro _ _ s9 h9 ⟨rfl, Aw, nw, cw, rfl, hW⟩
   rw [text_good h0] at hW
   have hn := hW.1
   have hcw1 := hW.2.1
   have hcw2 := hW.2.2.1
   refine JO_q (QE_as rfl) rfl ?_
   refine JO_nil ?_
   refine thenQ_n ?_
   refine JC_seq ?_
   refine JC_region ?_
   refine JO_bs [(_, _), (_, _), (_, _), (_, _)] [_, _, _, _] rfl rfl rfl rfl rfl rfl rfl rfl rfl ?_
   intro βn s10 h10 hcb
   refine JO_q (QE_as rfl) rfl ?_
   refine JO_nil ?_
   refine thenQ_n ?_
   refine JC_seq ?_
   refine JC_region ?_
   refine JO_q (QE_as rfl) rfl ?_
   refine JO_nil ?_
   refine thenQ_n ?_
   refine JC_seq ?_
   refine JC_seq ?_
   refine JC_region ?_
   refine JO_q (QE_as rfl) rfl ?_
   refine JO_nil ?_
   refine thenQ_n ?_
   refine JC_block ?_
   refine JC_loop (γ := Nat × List (List UInt8 × List UInt8)) (fun g => [(1, _), (2, _), (4, _), (7, _), (8, _), (9, St (gapS g.2)), (10, .int .i64 (g.1 : Int))]) (fun _ => _) (fun g tw => Le D s10 tw ∧ (g.1 ≤ nw ∧ GapOK g.2 ∧ g.2.map (·.1) = (flds (pageT t)).take g.1 ∧ (gapS g.2).length ≤ 60000 * g.1)) (fun g => nw - g.1) (fun _ _ _ h hl => ⟨h.1.trans hl, h.2⟩) (0, []) (Keeps.cons rfl (Keeps.cons rfl (Keeps.cons rfl (Keeps.cons rfl (Keeps.cons rfl (Keeps.cons rfl (Keeps.cons rfl (Keeps.nil _)))))))) rfl ⟨Le.refl _, ⟨Nat.zero_le _, (fun x h => by cases h), rfl, Nat.le_refl _⟩⟩ ?_
   intro g s11 I11
   obtain ⟨k, l⟩ := g
   obtain ⟨hk0, hok, hM, hll⟩ := I11.2
   simp only at hk0 hok hM hll
   dsimp only
   refine JC_seq ?_
   refine JC_seq ?_
   refine JC_region ?_
   refine JO_q (QE_mv rfl) rfl ?_
   refine JO_q (QE_mv rfl) rfl ?_
   refine JO_q (QE_lenS rfl rfl rfl) rfl ?_
   refine JO_q (QE_lt rfl rfl) rfl ?_
   refine JO_nil ?_
   refine thenQ_n ?_
   refine JC_ifD rfl (fun c12 => ?_) (fun c12 => ?_)
   ·
    have hk : k < nw := by omega
    obtain ⟨b, off, w, rfl, hw, hcw, _⟩ := Strs.at_ (hW.le (Le.trans h10 I11.1)) hk
    have hwl := flds_short _ w (List.mem_of_getElem? hw)
    have hwb := flds_bare _ w (List.mem_of_getElem? hw)
    obtain ⟨bg, offg, gk, hEg, hg, hcg, _⟩ := Its.at_ (hI.le (Le.trans (Le.trans (Le.trans (Le.trans (Le.trans (Le.trans h1 h2) h3) h4) h9) h10) I11.1)) (Nat.mod_lt k hgl)
    subst hEg
    refine JC_skip ?_
    refine thenQ_n ?_
    refine JC_seq ?_
    refine JC_block ?_
    refine JC_seq ?_
    refine JC_region ?_
    refine JO_q (QE_mv rfl) rfl ?_
    refine JO_q (QE_mv rfl) rfl ?_
    refine JO_q (QE_mv rfl) rfl ?_
    refine JO_q (QE_lenS rfl rfl rfl) rfl ?_
    refine JO_q (QE_cast (QE_rem rfl rfl (by omega)) (remN k nI)) rfl ?_
    refine JO_q (QE_ia1 rfl rfl rfl rfl rfl rfl (Nat.mod_lt k hgl)) rfl ?_
    refine JO_q (QE_ldsR0 rfl rfl rfl (hcg.le (Le.refl (D := D) _)) rfl) rfl ?_
    refine JO_q (QE_as rfl) rfl ?_
    refine JO_nil ?_
    refine thenQ_n ?_
    refine JC_seq ?_
    refine JC_seq ?_
    refine JC_region ?_
    refine JO_q (QE_mv rfl) rfl ?_
    refine JO_call (first := []) (captured := []) rfl rfl rfl (in_ac D _ _ _ _ _) ?_
    rintro _ _ s13 h13 ⟨rfl, rfl⟩
    refine JO_q (QE_not rfl) rfl ?_
    refine JO_nil ?_
    refine thenQ_n ?_
    refine JC_ifN rfl (fun c14 => ?_) (fun c14 => ?_)
    ·
     have hz := c14
     refine JC_region ?_
     refine JO_q (QE_as rfl) rfl ?_
     refine JO_nil ?_
     refine thenQ_n ?_
     refine JC_draw drawsMixed 12 rfl _ (fun _ h => h) ?_
     intro s15 h15
     refine JA_q 0 rfl (by kernel_rfl) (by kernel_rfl) (by kernel_rfl) trivial (QE_mv rfl) rfl ?_
     refine JA_q 1 rfl (by kernel_rfl) (by kernel_rfl) (by kernel_rfl) trivial (QE_mv rfl) rfl ?_
     refine JA_q 2 rfl (by kernel_rfl) (by kernel_rfl) (by kernel_rfl) trivial (QE_mv rfl) rfl ?_
     refine JA_q 3 rfl (by kernel_rfl) (by kernel_rfl) (by kernel_rfl) trivial (QE_ia1 rfl rfl rfl rfl rfl rfl hk) rfl ?_
     refine JA_q 4 rfl (by kernel_rfl) (by kernel_rfl) (by kernel_rfl) trivial (QE_ldsR0 rfl rfl rfl (hcw.le (Le.trans h13 h15)) rfl) rfl ?_
     refine JA_q 5 rfl (by kernel_rfl) (by kernel_rfl) (by kernel_rfl) trivial (QE_sadd rfl rfl (by omega)) rfl ?_
     refine JA_q 6 rfl (by kernel_rfl) (by kernel_rfl) (by kernel_rfl) trivial (QE_mv rfl) rfl ?_
     refine JA_q 7 rfl (by kernel_rfl) (by kernel_rfl) (by kernel_rfl) trivial (QE_mv rfl) rfl ?_
     refine JA_q 8 rfl (by kernel_rfl) (by kernel_rfl) (by kernel_rfl) trivial (QE_ia1 (j := 0) rfl rfl rfl rfl rfl rfl (show 0 < 4 by decide)) rfl ?_
     refine JA_q 9 rfl (by kernel_rfl) (by kernel_rfl) (by kernel_rfl) trivial (QE_ldsR0 rfl rfl rfl (gap_at (hcb.le (Le.trans (Le.trans I11.1 h13) h15)) (show 0 < 4 by decide)) rfl) rfl ?_
     refine JA_q 10 rfl (by kernel_rfl) (by kernel_rfl) (by kernel_rfl) trivial (QE_sadd rfl rfl (by have h2 := (gap_ok 0 (by decide)).1; simp only [List.length_append]; omega)) rfl ?_
     refine JA_q 11 rfl (by kernel_rfl) (by kernel_rfl) (by kernel_rfl) trivial (QE_as rfl) rfl ?_
     refine JA_done (by kernel_rfl) ?_
     refine blockQ_n ?_
     refine thenQ_n ?_
     refine JC_region ?_
     refine JO_q (QE_mv rfl) rfl ?_
     refine JO_q (QE_add' rfl rfl (w64 (by omega) (by omega))) rfl ?_
     refine JO_q (QE_as rfl) rfl ?_
     refine JO_nil ?_
     refine thenQ_n ⟨(k + 1, l ++ [(w, gapN 0)]), [], (Keeps.cons rfl (Keeps.cons rfl (Keeps.cons rfl (Keeps.cons rfl (Keeps.cons rfl (Keeps.cons (by rw [gapS_snoc]; rfl) (Keeps.cons rfl (Keeps.nil _)))))))), rfl, ⟨(Le.trans (Le.trans I11.1 h13) h15), by first | exact ⟨by simp only; omega, gapOK_snoc hok hwb hkn, map_next hM hw, by simp only; rw [gapS_snoc]; simp only [List.length_append]; omega⟩ | exact ⟨by simp only; omega, gapOK_snoc hok hwb (show 0 < 4 by decide), map_next hM hw, by have h2 := (gap_ok 0 (by decide)).1; simp only; rw [gapS_snoc]; simp only [List.length_append]; omega⟩⟩, (by simp only; omega)⟩
    ·
     obtain ⟨kn, rfl⟩ := Int.eq_ofNat_of_zero_le (show 0 ≤ gk by have := c14; omega)
     have hkn : kn < 4 := by have := c14; omega
     have hgn := gap_ok kn hkn
     refine JC_skip ?_
     refine thenQ_n ?_
     refine JC_draw drawsMixed 12 rfl _ (fun _ h => h) ?_
     intro s16 h16
     refine JA_q 0 rfl (by kernel_rfl) (by kernel_rfl) (by kernel_rfl) trivial (QE_mv rfl) rfl ?_
     refine JA_q 1 rfl (by kernel_rfl) (by kernel_rfl) (by kernel_rfl) trivial (QE_mv rfl) rfl ?_
     refine JA_q 2 rfl (by kernel_rfl) (by kernel_rfl) (by kernel_rfl) trivial (QE_mv rfl) rfl ?_
     refine JA_q 3 rfl (by kernel_rfl) (by kernel_rfl) (by kernel_rfl) trivial (QE_ia1 rfl rfl rfl rfl rfl rfl hk) rfl ?_
     refine JA_q 4 rfl (by kernel_rfl) (by kernel_rfl) (by kernel_rfl) trivial (QE_ldsR0 rfl rfl rfl (hcw.le (Le.trans h13 h16)) rfl) rfl ?_
     refine JA_q 5 rfl (by kernel_rfl) (by kernel_rfl) (by kernel_rfl) trivial (QE_sadd rfl rfl (by omega)) rfl ?_
     refine JA_q 6 rfl (by kernel_rfl) (by kernel_rfl) (by kernel_rfl) trivial (QE_mv rfl) rfl ?_
     refine JA_q 7 rfl (by kernel_rfl) (by kernel_rfl) (by kernel_rfl) trivial (QE_mv rfl) rfl ?_
     refine JA_q 8 rfl (by kernel_rfl) (by kernel_rfl) (by kernel_rfl) trivial (QE_ia1 rfl rfl rfl rfl rfl rfl hkn) rfl ?_
     refine JA_q 9 rfl (by kernel_rfl) (by kernel_rfl) (by kernel_rfl) trivial (QE_ldsR0 rfl rfl rfl (gap_at (hcb.le (Le.trans (Le.trans I11.1 h13) h16)) hkn) rfl) rfl ?_
     refine JA_q 10 rfl (by kernel_rfl) (by kernel_rfl) (by kernel_rfl) trivial (QE_sadd rfl rfl (by have h2 := (gap_ok 0 (by decide)).1; simp only [List.length_append]; omega)) rfl ?_
     refine JA_q 11 rfl (by kernel_rfl) (by kernel_rfl) (by kernel_rfl) trivial (QE_as rfl) rfl ?_
     refine JA_done (by kernel_rfl) ?_
     refine blockQ_n ?_
     refine thenQ_n ?_
     refine JC_region ?_
     refine JO_q (QE_mv rfl) rfl ?_
     refine JO_q (QE_add' rfl rfl (w64 (by omega) (by omega))) rfl ?_
     refine JO_q (QE_as rfl) rfl ?_
     refine JO_nil ?_
     refine thenQ_n ⟨(k + 1, l ++ [(w, gapN kn)]), [], (Keeps.cons rfl (Keeps.cons rfl (Keeps.cons rfl (Keeps.cons rfl (Keeps.cons rfl (Keeps.cons (by rw [gapS_snoc]; rfl) (Keeps.cons rfl (Keeps.nil _)))))))), rfl, ⟨(Le.trans (Le.trans I11.1 h13) h16), by first | exact ⟨by simp only; omega, gapOK_snoc hok hwb hkn, map_next hM hw, by simp only; rw [gapS_snoc]; simp only [List.length_append]; omega⟩ | exact ⟨by simp only; omega, gapOK_snoc hok hwb (show 0 < 4 by decide), map_next hM hw, by have h2 := (gap_ok 0 (by decide)).1; simp only; rw [gapS_snoc]; simp only [List.length_append]; omega⟩⟩, (by simp only; omega)⟩
   ·
    have hkE : k = nw := by omega
    subst hkE
    rw [hn, List.take_length] at hM
    have hff : flds (gapS l) = flds (pageT t) := by rw [flds_gap l hok, hM]
    refine JC_exit ?_
    refine thenQ_x ?_
    refine thenQ_x ?_
    refine blockQ_x ?_
    refine thenQ_n ?_
    refine JC_seq ?_
    refine JC_seq ?_
    refine JC_region ?_
    refine JO_q (QE_mv rfl) rfl ?_
    refine JO_q (QE_lenT rfl rfl rfl) rfl ?_
    refine JO_q (QE_gt rfl rfl) rfl ?_
    refine JO_nil ?_
    refine thenQ_n ?_
    refine JC_ifD rfl (fun c17 => ?_) (fun c17 => ?_)
    ·
     refine JC_seq ?_
     refine JC_region ?_
     refine JO_q (QE_as rfl) rfl ?_
     refine JO_nil ?_
     refine thenQ_n ?_
     refine JC_ret ?_
     refine thenQ_r ?_
     refine retQ_mk [_, _] L (.inr rfl) (.tmp rfl (.nil)) rfl (Le.trans (Le.trans (Le.trans (Le.trans (Le.trans (Le.trans h1 h2) h3) h4) h9) h10) I11.1) (fun sR hS2 => ?_)
     exact ⟨rfl, rfl⟩
    ·
     have hRR : readR (gapS l) = (t, 0, 0) := read_gaps hT h00 (by omega) hff
     refine JC_skip ?_
     refine thenQ_n ?_
     refine JC_seq ?_
     refine JC_region ?_
     refine JO_q (QE_mv rfl) rfl ?_
     refine JO_call (first := []) (captured := []) rfl rfl rfl (read_ac D _ _ (hG.le (Le.trans (Le.trans (Le.trans (Le.trans (Le.trans (Le.trans h1 h2) h3) h4) h9) h10) I11.1)) (gapS l)) ?_
     rintro _ _ s18 h18 ⟨rfl, Ara, nra, cra, rfl, hra⟩
     refine JO_q (QE_mv rfl) rfl ?_
     refine JO_q (QE_ext rfl rfl) rfl ?_
     refine JO_q (QE_ext rfl rfl) rfl ?_
     refine JO_allocZ rfl [_, _] rfl rfl ?_
     intro β19 s19 h19
     refine JO_allocZ rfl [_, _] rfl rfl ?_
     intro β20 s20 h20
     refine JO_st 1 [_, _] rfl rfl rfl rfl rfl rfl rfl rfl rfl ?_
     refine JO_st 0 [_, _] rfl rfl rfl rfl rfl rfl rfl rfl rfl ?_
     refine JO_nil ?_
     refine thenQ_n ?_
     refine JC_seq ?_
     refine JC_region ?_
     refine JO_q (QE_fa0 rfl rfl rfl rfl) rfl ?_
     refine JO_q (QE_ld1 0 rfl rfl rfl rfl rfl) rfl ?_
     refine JO_q (QE_cast (v' := .bool true) (QE_eq rfl rfl) (bT (by rw [hRR]))) rfl ?_
     refine JO_q (QE_mv rfl) rfl ?_
     refine JO_gT rfl rfl ?_
     refine JO_q (QE_ldA 3 [_, _] rfl rfl rfl rfl rfl) rfl ?_
     refine JO_gT rfl rfl ?_
     refine JO_q (QE_ldA 1 [_, _] rfl rfl rfl rfl rfl) rfl ?_
     refine JO_gT rfl rfl ?_
     refine JO_call (first := []) (captured := []) rfl rfl rfl (AC.isT (sameTable_ac D _ _ t _ _ _ (hA.le (Le.trans (Le.trans (Le.trans (Le.trans (Le.trans (Le.trans (Le.trans (Le.trans (Le.trans h1 h2) h3) h4) h9) h10) I11.1) h18) h19) h20)) (readR (gapS l)).1 _ _ _ (hra.le (Le.trans h19 h20))) (by rw [hRR])) ?_
     rintro _ _ s21 h21 ⟨rfl, rfl⟩
     refine JO_q (QE_pickT rfl rfl) rfl ?_
     refine JO_q (QE_as rfl) rfl ?_
     refine JO_nil ?_
     refine thenQ_n ?_
     refine JC_ret ?_
     refine retQ_mk [_, _, _, _] L (.inr rfl) (.tmp rfl (.nil)) rfl (Le.trans (Le.trans (Le.trans (Le.trans (Le.trans (Le.trans (Le.trans (Le.trans (Le.trans (Le.trans h1 h2) h3) h4) h9) h10) I11.1) h18) h19) h20) h21) (fun sR hS2 => ?_)
     exact ⟨rfl, rfl⟩
end Go.Proofs.YtoeeblegplghmaaGreatDoor
namespace Go.Proofs.YtoeeblegplghmaaGreatDoor
open Go Go.FL Go.ChangeShapes Go.WideShapes Go.ChangeAt Go.RowKit Go.Deep
theorem own_knob : ownKnob Tryz.prog.godebug = none := by kernel_rfl
theorem laid_out : laidOutB Tryz.prog = true := by kernel_rfl
theorem mark_free (l : List Obj) : ∃ D, ∀ E, D ≤ E → ∀ o ∈ l, o ≠ dum E := by
  induction l with
  | nil => exact ⟨0, fun _ _ _ h => by cases h⟩
  | cons x l ih =>
    obtain ⟨D, hD⟩ := ih
    have hx : ∃ B, ∀ E, B ≤ E → x ≠ dum E := by
      cases x with
      | mapIter a n b c => exact ⟨n + 1, fun E hE h => by simp only [dum, Obj.mapIter.injEq] at h; omega⟩
      | _ => exact ⟨0, fun E _ h => by simp [dum] at h⟩
    obtain ⟨B, hB⟩ := hx
    refine ⟨max D B, fun E hE o ho => ?_⟩
    rcases List.mem_cons.1 ho with rfl | ho
    · exact hB E (by omega)
    · exact hD E (by omega) o ho
theorem mark_world (W : World) : ∃ D, ∀ k : Nat, W.heap[k]? ≠ some (dum D) := by
  obtain ⟨D, hD⟩ := mark_free W.heap.toList
  refine ⟨D, fun k hk => hD D (Nat.le_refl _) (dum D) ?_ rfl⟩
  rw [← Array.getElem?_toList] at hk
  exact List.mem_of_getElem? hk
theorem below_of {D : Nat} {W W' : World} (hD : ∀ k : Nat, W.heap[k]? ≠ some (dum D)) (h : Le D W W') : Below W.heap.size W W' :=
  ⟨h.os, h.tape, h.output, h.size, fun k hk => (h.block k hk).resolve_left (hD k)⟩
theorem law_calls {P : Program} {f : FuncId} {args : List Value} {W : World} (h : ∀ D, AC P D f args [] W fun v L' _ => v = .bool true ∧ [] = L') :
    Calls P f args.toArray W fun e W' => e = .returned (.bool true) ∧ Below W.heap.size W W' := by
  obtain ⟨D, hD⟩ := mark_world W
  refine ((h D).2 ⟨by simp, fun x hx => by cases hx⟩).mono ?_
  rintro e w' ⟨v, L', s', h1, rfl, h3, h4, rfl, rfl⟩
  exact ⟨h1, below_of hD h4⟩
section
variable {H : Type} {enc : TypeId × Value → H} {P : Program}
theorem trodAll_stays {W W' : World} (hl : laidOutB P = true) (hb : Below W.heap.size W W') : ∀ {ts : List TypeId} {vs : List Value} {ds : List (DataW H)} {ps : List MemPlace}, (∀ t ∈ ts, P.readableRec t = true ∧ t < P.types.size) → (∀ x ∈ ps, x.block < W.heap.size) →
    DataW.TrodAll enc P W 0 (fun _ => true) true ts vs ds ps → DataW.TrodAll enc P W' 0 (fun b => decide (b < W.heap.size)) true ts vs ds ps
  | [], _, _, _, _, _, h => by
    obtain ⟨rfl, rfl, rfl⟩ := trodAll_nil h
    exact trodAll_mk0
  | t :: ts, _, _, _, hts, hp, h => by
    obtain ⟨v, vs, d, ds, a, b, rfl, rfl, rfl, h1, h2⟩ := trodAll_cons h
    have ht := hts t (List.mem_cons_self ..)
    exact trodAll_cons_mk (Below.trod hl ht.1 ht.2 h1 hb fun x hx => hp x (List.mem_append_left _ hx)) (trodAll_stays hl hb (fun t' h' => hts t' (List.mem_cons_of_mem _ h')) (fun x hx => hp x (List.mem_append_right _ hx)) h2)
theorem law_post {fn : Func} {s : ChangeSpec} {W W' : World} {args : Array Value} {ds gs : List (DataW H)} {before : List MemPlace} {tb : TypeId} (hl : laidOutB P = true) (hts : ∀ t ∈ fn.params.toList, P.readableRec t = true ∧ t < P.types.size) (hr : fn.resultTypes = #[tb]) (hb : P.underlying tb = some .bool)
    (hv : s.vars = []) (hW : DataW.Whole enc P fn.params.toList s.vars false W args.toList ds gs before) (hfn : s.fn H ds = { results := [.lit (.bool true)], args := ds }) (hB : Below W.heap.size W W') : s.post enc P fn false true false false W args (.bool true) W' := by
  have hlt : ∀ x ∈ before, x.block < W.heap.size := fun x hx => hW.lt x hx
  have hW' := hW
  obtain ⟨p, q, hA, hV, rfl, _, _⟩ := hW
  rw [hv] at hV
  obtain ⟨rfl, rfl⟩ := trodVars_none hV
  refine ⟨ds, [], p ++ [], [], p, [], hW', ?_, ?_, ?_, hB.frame _, fun h => by cases h⟩
  · rw [List.append_nil, hfn, hr]; exact trodAll_cons_mk (shut_bool hb _) trodAll_mk0
  · rw [List.append_nil, hfn]; exact trodAll_stays hl hB hts (fun x hx => hlt x (List.mem_append_left _ hx)) hA
  · rw [List.append_nil, hfn, hv]; rfl
end
def Rd (W : World) (t : TypeId) (cs : List Value) : Prop := ∃ (H : Type) (enc : TypeId × Value → H) (n : Nat) (x : DataW H × List MemPlace), DataW.trod enc Tryz.prog W 0 (fun _ => true) true n t cs = some x
section
variable {W : World} {t e : TypeId} {cs : List Value}
theorem rd_int {k : IntKind} (ht : Tryz.prog.underlying t = some (.int k)) (h : Rd W t cs) : ∃ n, cs = [.int k n] ∧ (Lit.int k n).wf = true := by
  obtain ⟨H, enc, n, x, h⟩ := h
  obtain ⟨i, h1, _, h2⟩ := DataW.trod_int ht h
  exact ⟨i, h1, h2⟩
theorem rd_bool (ht : Tryz.prog.underlying t = some .bool) (h : Rd W t cs) : ∃ b, cs = [.bool b] := by
  obtain ⟨H, enc, n, x, h⟩ := h
  obtain ⟨i, h1, _⟩ := DataW.trod_bool ht h
  exact ⟨i, h1⟩
theorem rd_str (ht : Tryz.prog.underlying t = some .string) (h : Rd W t cs) : ∃ l : List UInt8, cs = [St l] ∧ l.length ≤ 9223372036854775807 := by
  obtain ⟨H, enc, n, x, h⟩ := h
  obtain ⟨s, h1, _, h2⟩ := DataW.trod_string ht h
  refine ⟨s.data.toList, by rw [h1], ?_⟩
  have : s.data.toList.length = s.size := by rw [Array.length_toList]; rfl
  simp only [maxLen] at h2
  omega
theorem rd_field {fs : Array Field} (ht : Tryz.prog.underlying t = some (.struct fs)) (h : Rd W t cs) {sz : Nat} (hc : Tryz.prog.cellsOf t = sz) : cs.length = sz ∧ ∀ (i : Nat) (f : Field), fs[i]? = some f → ∀ (ty off n : Nat), f.type = ty → f.offset = off → Tryz.prog.cellsOf ty = n → Rd W ty ((cs.drop off).take n) := by
  obtain ⟨H, enc, n, x, h⟩ := h
  obtain ⟨xs, m, _, _, h1, h2, h3⟩ := DataW.trod_struct ht h
  refine ⟨h1.trans hc, fun i f hf ty off k e1 e2 e3 => ?_⟩
  have hi : i < xs.length := by rw [h2]; exact (Array.getElem?_eq_some_iff.1 hf).1
  have := h3 i f hf
  rw [List.getElem?_eq_getElem hi, e1, e2, e3] at this
  exact ⟨H, enc, m, _, this⟩
theorem rd_slice {sz : Nat} (ht : Tryz.prog.underlying t = some (.slice e)) (hc : Tryz.prog.cellsOf e = sz) (hp : 0 < sz) (h : Rd W t cs) : ∃ A n c, cs = [.slice A n c] ∧ n ≤ c ∧ c ≤ 9223372036854775807 ∧
    ∀ i, i < n → ∃ b off ds, A = some ⟨b, off, none⟩ ∧ CellsAt W b (off + i * sz) ds ∧ ds.length = sz ∧ Rd W e ds := by
  obtain ⟨H, enc, q, x, h⟩ := h
  rcases open_slice ht h with ⟨rfl, _⟩ | ⟨a, len, cap, m, k, D, Pl, rfl, _, h1, h2, h3, _, h4⟩
  · exact ⟨none, 0, 0, rfl, Nat.le_refl _, by omega, fun i hi => by omega⟩
  · simp only [maxLen] at h2
    refine ⟨some a, len, cap, rfl, h1, by omega, fun i hi => ?_⟩
    obtain ⟨ds, k1, k2⟩ := h4 i (by simp at h3; omega)
    rw [hc] at k1
    obtain ⟨_, k3, k4⟩ := World.cells?_some k1
    obtain ⟨b, off, spot⟩ := a
    have hs : spot = none := by
      obtain ⟨ds0, j1, _⟩ := h4 0 (by simp at h3; omega)
      rw [hc, Nat.zero_mul] at j1
      obtain ⟨_, j3, j4⟩ := World.cells?_some j1
      have := j4 0 hp
      rw [List.getElem?_eq_getElem (by omega)] at this
      simpa [Addr.add] using World.cell?_spot this
    subst hs
    refine ⟨b, off, ds, rfl, fun j v hj => ?_, k3, H, enc, k, _, k2⟩
    have hl : j < sz := by rw [← k3]; exact (List.getElem?_eq_some_iff.1 hj).1
    have := k4 j hl
    rw [hj, add_lit, add_lit] at this
    exact this
theorem sl_of {α : Type} [Inhabited α] {R : World → α → List Value → Prop} {sz : Nat} (ht : Tryz.prog.underlying t = some (.slice e)) (hc : Tryz.prog.cellsOf e = sz) (hp : 0 < sz) (h : Rd W t cs) (hel : ∀ ds, Rd W e ds → ∃ x : α, R W x ds) : ∃ A n c l, cs = [.slice A n c] ∧ Sl sz R W A n c l := by
  obtain ⟨A, n, c, h1, h2, h3, h4⟩ := rd_slice ht hc hp h
  obtain ⟨f, hf⟩ := choose_lt (α := α) (p := fun i x => ∃ b off ds, A = some ⟨b, off, none⟩ ∧ CellsAt W b (off + i * sz) ds ∧ ds.length = sz ∧ R W x ds) (n := n) (fun i hi => by
    obtain ⟨b, off, ds, k1, k2, k3, k4⟩ := h4 i hi
    obtain ⟨x, hx⟩ := hel ds k4
    exact ⟨x, b, off, ds, k1, k2, k3, hx⟩)
  refine ⟨A, n, c, (List.range n).map f, h1, by simp, h2, h3, fun i x hi => ?_⟩
  rw [List.getElem?_map] at hi
  cases hr : (List.range n)[i]? with
  | none => simp [hr] at hi
  | some j =>
    simp [hr] at hi
    obtain ⟨hi1, hi2⟩ := List.getElem?_eq_some_iff.1 hr
    simp at hi1 hi2
    subst hi2; subst hi
    exact hf i hi1
theorem len2 {l : List Value} (h : l.length = 2) : ∃ a b, l = [a, b] := by match l, h with | [a, b], _ => exact ⟨a, b, rfl⟩
theorem len4 {l : List Value} (h : l.length = 4) : ∃ a b c d, l = [a, b, c, d] := by match l, h with | [a, b, c, d], _ => exact ⟨a, b, c, d, rfl⟩
theorem len6 {l : List Value} (h : l.length = 6) : ∃ a b c d e f, l = [a, b, c, d, e, f] := by match l, h with | [a, b, c, d, e, f], _ => exact ⟨a, b, c, d, e, f, rfl⟩
theorem one_eq {a b : Value} (h : [a] = [b]) : a = b := by injection h
theorem u32_wf {n : Int} (h : (Lit.int .u32 n).wf = true) : U32 n := by have := bounds_u32 h; exact ⟨by omega, by omega⟩
end
end Go.Proofs.YtoeeblegplghmaaGreatDoor
namespace Go.Proofs.YtoeeblegplghmaaGreatDoor
open Go Go.FL Go.ChangeShapes Go.WideShapes Go.ChangeAt Go.RowKit
set_option maxRecDepth 100000
instance : Inhabited Ac := ⟨⟨0, 0, ⟨0, 0⟩, ⟨0, 0⟩⟩⟩
instance : Inhabited Ins := ⟨⟨[], 0, false, []⟩⟩
theorem c_int : Tryz.prog.cellsOf 3 = 1 := by kernel_rfl
theorem c_u32 : Tryz.prog.cellsOf 60 = 1 := by kernel_rfl
theorem c_bool : Tryz.prog.cellsOf 4 = 1 := by kernel_rfl
theorem c_str : Tryz.prog.cellsOf 9 = 1 := by kernel_rfl
theorem c_term : Tryz.prog.cellsOf 66 = 2 := by kernel_rfl
theorem c_act : Tryz.prog.cellsOf 68 = 6 := by kernel_rfl
theorem c_acts : Tryz.prog.cellsOf 61 = 1 := by kernel_rfl
theorem c_ins : Tryz.prog.cellsOf 63 = 4 := by kernel_rfl
theorem c_inss : Tryz.prog.cellsOf 22 = 1 := by kernel_rfl
theorem c_tab : Tryz.prog.cellsOf 24 = 2 := by kernel_rfl
section
variable {W : World} {cs : List Value}
theorem rd_term (h : Rd W 66 cs) : ∃ x : Tm, cs = [.int .i64 x.kind, .int .u32 x.val] ∧ U32 x.val := by
  obtain ⟨h1, h2⟩ := rd_field Tryz.underlying66 h c_term
  obtain ⟨a, b, rfl⟩ := len2 h1
  obtain ⟨k, e1, _⟩ := rd_int Tryz.underlying3 (h2 0 _ rfl _ _ _ rfl rfl c_int)
  obtain ⟨v, e2, w2⟩ := rd_int Tryz.underlying60 (h2 1 _ rfl _ _ _ rfl rfl c_u32)
  have z1 : a = .int .i64 k := one_eq e1
  have z2 : b = .int .u32 v := one_eq e2
  subst z1; subst z2
  exact ⟨⟨k, v⟩, rfl, u32_wf w2⟩
theorem rd_action (h : Rd W 68 cs) : ∃ a : Ac, cs = a.cs ∧ U32 a.x.val ∧ U32 a.y.val := by
  obtain ⟨h1, h2⟩ := rd_field Tryz.underlying68 h c_act
  obtain ⟨a, b, c, d, e, f, rfl⟩ := len6 h1
  obtain ⟨k, e1, _⟩ := rd_int Tryz.underlying3 (h2 0 _ rfl _ _ _ rfl rfl c_int)
  obtain ⟨t, e2, _⟩ := rd_int Tryz.underlying3 (h2 1 _ rfl _ _ _ rfl rfl c_int)
  obtain ⟨x, e3, wx⟩ := rd_term (h2 2 _ rfl _ _ _ rfl rfl c_term)
  obtain ⟨y, e4, wy⟩ := rd_term (h2 3 _ rfl _ _ _ rfl rfl c_term)
  have z1 : a = .int .i64 k := one_eq e1
  have z2 : b = .int .i64 t := one_eq e2
  have y3 : [c, d] = [.int .i64 x.kind, .int .u32 x.val] := e3
  have y4 : [e, f] = [.int .i64 y.kind, .int .u32 y.val] := e4
  injection y3 with z3 x3'
  injection y4 with z4 x4'
  have z3' : d = .int .u32 x.val := one_eq x3'
  have z4' : f = .int .u32 y.val := one_eq x4'
  subst z1; subst z2; subst z3; subst z3'; subst z4; subst z4'
  exact ⟨⟨k, t, x, y⟩, rfl, wx, wy⟩
theorem rd_acts (h : Rd W 61 cs) : ∃ A n c l, cs = [.slice A n c] ∧ Acs W A n c l := sl_of Tryz.underlying61 c_act (by decide) h fun _ hd => rd_action hd
theorem rd_ins (h : Rd W 63 cs) : ∃ x : Ins, InsR W x cs := by
  obtain ⟨h1, h2⟩ := rd_field Tryz.underlying63 h c_ins
  obtain ⟨a, b, c, d, rfl⟩ := len4 h1
  obtain ⟨l, e1, w1⟩ := rd_str Tryz.underlying9 (h2 0 _ rfl _ _ _ rfl rfl c_str)
  obtain ⟨v, e2, w2⟩ := rd_int Tryz.underlying60 (h2 1 _ rfl _ _ _ rfl rfl c_u32)
  obtain ⟨o, e3⟩ := rd_bool Tryz.underlying4 (h2 2 _ rfl _ _ _ rfl rfl c_bool)
  obtain ⟨A, n, q, la, e4, w4⟩ := rd_acts (h2 3 _ rfl _ _ _ rfl rfl c_acts)
  have z1 : a = St l := one_eq e1
  have z2 : b = .int .u32 v := one_eq e2
  have z3 : c = .bool o := one_eq e3
  have z4 : d = .slice A n q := one_eq e4
  subst z1; subst z2; subst z3; subst z4
  exact ⟨⟨l, v, o, la⟩, A, n, q, rfl, w4, w1, u32_wf w2⟩
theorem rd_inss (h : Rd W 22 cs) : ∃ A n c l, cs = [.slice A n c] ∧ Inss W A n c l := sl_of Tryz.underlying22 c_ins (by decide) h fun _ hd => rd_ins hd
theorem rd_table (h : Rd W 24 cs) : ∃ (t : Tab) (A : Option Addr) (n c : Nat), cs = [.int .i64 t.cells, .slice A n c] ∧ Inss W A n c t.ins := by
  obtain ⟨h1, h2⟩ := rd_field Tryz.underlying24 h c_tab
  obtain ⟨a, b, rfl⟩ := len2 h1
  obtain ⟨k, e1, _⟩ := rd_int Tryz.underlying3 (h2 0 _ rfl _ _ _ rfl rfl c_int)
  obtain ⟨A, n, c, l, e2, w2⟩ := rd_inss (h2 1 _ rfl _ _ _ rfl rfl c_inss)
  have z1 : a = .int .i64 k := one_eq e1
  have z2 : b = .slice A n c := one_eq e2
  subst z1; subst z2
  exact ⟨⟨k, l⟩, A, n, c, rfl, w2⟩
end
section
variable {H : Type} {enc : TypeId × Value → H} {W : World} {base : Nat} {v : Value} {d : DataW H} {ps : List MemPlace}
theorem rd_of {t : TypeId} (hd : DataW.Trod enc Tryz.prog W 0 (fun _ => true) true t v d ps) : Rd W t v.cells.toList := by
  obtain ⟨n, h⟩ := hd
  exact ⟨H, enc, n, _, h⟩
theorem agg_of {t : TypeId} {fs : Array Field} (ht : Tryz.prog.underlying t = some (.struct fs)) (hv : Value.okWide Tryz.prog W .any base t v) : ∃ cs, v = .agg cs := by
  unfold Value.okWide at hv
  rw [ht] at hv
  obtain ⟨cs, h, _⟩ := hv
  exact ⟨cs, h⟩
theorem arg_table (hv : Value.okWide Tryz.prog W .any base 24 v) (hd : DataW.Trod enc Tryz.prog W 0 (fun _ => true) true 24 v d ps) : ∃ (t : Tab) (A : Option Addr) (n c : Nat), v = .agg #[.int .i64 t.cells, .slice A n c] ∧ Inss W A n c t.ins := by
  obtain ⟨cs, rfl⟩ := agg_of Tryz.underlying24 hv
  obtain ⟨t, A, n, c, h1, h2⟩ := rd_table (rd_of hd)
  refine ⟨t, A, n, c, ?_, h2⟩
  simp only [Value.cells] at h1
  rw [← h1]
theorem cell_of {t e : TypeId} (ht : Tryz.prog.underlying t = some (.slice e)) (hv : Value.okWide Tryz.prog W .any base t v) : v.cells.toList = [v] := by
  unfold Value.okWide at hv
  rw [ht] at hv
  simp only [Cell.okWide] at hv
  cases v <;> simp_all [Value.cells, Cell.ok]
end
end Go.Proofs.YtoeeblegplghmaaGreatDoor
namespace Go.Proofs.YtoeeblegplghmaaGreatDoor
open Go Go.FL Go.ChangeShapes Go.WideShapes Go.ChangeAt Go.RowKit Go.Deep
theorem row_err (u : TypeId) (hu : Tryz.prog.typeName? 3 u = Tryz.prog.typeName? 3 189) : u = 189 :=
  have hn : Tryz.prog.typeName? 3 189 = some ("*" ++ "errors.errorString") := by kernel_rfl
  typeName_ptr_named (nm := "errors.errorString") (by kernel_rfl) (by kernel_rfl) (by decide) u (hu.trans hn)
theorem gw_var {W : World} {nm : String} {g : Nat} {cs : Array Value} (hg : Tryz.prog.globalNamed nm = some g) (h : W.var? Tryz.prog nm = some cs) : ∃ ty fz, W.heap[g]? = some (.cells cs ty fz) := by
  unfold World.var? at h
  rw [hg] at h
  simp only [Option.bind_some] at h
  split at h
  · rename_i c t f hb
    injection h with h
    subst h
    exact ⟨t, f, hb⟩
  · cases h
set_option maxRecDepth 100000 in
theorem gp_of {W : World} (h : laidMetH Tryz.prog Rows.primerTextMatchesSpecRow.laid W) : GP W := by
  rw [MakeChecks.laidMetH_plain _ _ _ (by kernel_rfl)] at h
  have h2 := h.tail.tail
  have hpow := Lib.tabIs_of_head (zs := Lib.pow10Tab) (k := .u64) (g := 3) (by kernel_rfl) (by kernel_rfl) Tryz.underlying176 Tryz.underlying123 (by kernel_rfl) (by kernel_rfl) h2
  have h4 := h2.tail.tail
  obtain ⟨a1, s1, hv1, _⟩ := laid_sentinel (g := 5) h4 (by kernel_rfl) (by kernel_rfl) Tryz.underlying93 (fun u hu => row_err u (hu.trans (by kernel_rfl))) Tryz.underlying189 Tryz.underlying191 rfl rfl Tryz.underlying9 (by kernel_rfl) (by kernel_rfl)
  obtain ⟨a2, s2, hv2, _⟩ := laid_sentinel (g := 4) h4.tail (by kernel_rfl) (by kernel_rfl) Tryz.underlying93 (fun u hu => row_err u (hu.trans (by kernel_rfl))) Tryz.underlying189 Tryz.underlying191 rfl rfl Tryz.underlying9 (by kernel_rfl) (by kernel_rfl)
  have hasc := Lib.tabIs_of_head (zs := Lib.asciiSpaceTab) (k := .u8) (g := 0) (by kernel_rfl) (by kernel_rfl) Tryz.underlying115 Tryz.underlying5 (by kernel_rfl) (by kernel_rfl) h4.tail.tail.tail
  refine ⟨⟨?_, ?_, ?_⟩, gw_var (g := 0) (by kernel_rfl) hasc⟩
  · exact gw_var (g := 3) (by kernel_rfl) hpow
  · exact ⟨_, _, World.var?_cell (g := 4) (by kernel_rfl) hv2 0⟩
  · exact ⟨_, _, World.var?_cell (g := 5) (by kernel_rfl) hv1 0⟩
section
variable {H : Type} {enc : TypeId × Value → H} {W : World} {base : Nat} {v : Value} {d : DataW H} {ps : List MemPlace}
set_option maxRecDepth 100000 in
theorem rd_ints {cs : List Value} (h : Rd W 35 cs) : ∃ A n c l, cs = [.slice A n c] ∧ Its W A n c l := sl_of Tryz.underlying35 c_int (by decide) h fun _ hd => by
  obtain ⟨n, h1, h2⟩ := rd_int Tryz.underlying3 hd
  exact ⟨n, h1⟩
set_option maxRecDepth 100000 in
theorem arg_ints (hv : Value.okWide Tryz.prog W .any base 35 v) (hd : DataW.Trod enc Tryz.prog W 0 (fun _ => true) true 35 v d ps) : ∃ A n c l, v = .slice A n c ∧ Its W A n c l := by
  obtain ⟨A, n, c, l, h1, h2⟩ := rd_ints (rd_of hd)
  rw [cell_of Tryz.underlying35 hv] at h1
  exact ⟨A, n, c, l, one_eq h1, h2⟩
end
end Go.Proofs.YtoeeblegplghmaaGreatDoor
namespace Go.Proofs.YtoeeblegplghmaaGreatDoor
open Go Go.FL Go.ChangeShapes Go.WideShapes Go.ChangeAt Go.RowKit
theorem primerLayoutDoesNotMatter_reads : ∀ t ∈ Tryz.f6.params.toList, Tryz.prog.readableRec t = true ∧ t < Tryz.prog.types.size := by
  rw [Tryz.params6]
  intro t ht
  simp only [List.mem_cons, List.not_mem_nil, or_false] at ht
  rcases ht with rfl | rfl <;> exact ⟨by kernel_rfl, of_decide_eq_true (by kernel_rfl)⟩
set_option maxRecDepth 100000 in
theorem primerLayoutDoesNotMatter_contract (H : Type) (enc : TypeId × Value → H) (W : World) (base : Nat) (args : Array Value) (ds gs : List (DataW H)) (before : List MemPlace)
    (hval : ∀ (j : Nat) t v, Tryz.f6.params[j]? = some t → args[j]? = some v → Value.okWide Tryz.prog W .any base t v)
    (hW : DataW.Whole enc Tryz.prog Tryz.f6.params.toList Rows.primerLayoutDoesNotMatterSpec.vars false W args.toList ds gs before) (hL : laidMetH Tryz.prog Rows.primerLayoutDoesNotMatterRow.laid W) :
    Calls Tryz.prog 6 args W fun e W' => ∃ v, e = .returned v ∧ Rows.primerLayoutDoesNotMatterSpec.post enc Tryz.prog Tryz.f6 false true false false W args v W' := by
  have hW' := hW
  obtain ⟨p, q, hA0, hV, rfl, hfz, hnd⟩ := hW'
  have hA : DataW.TrodAll enc Tryz.prog W 0 (fun _ => true) true Tryz.f6.params.toList args.toList ds p := hA0
  rw [Tryz.params6] at hA hval
  obtain ⟨v0, vs0, d0, ds0, p0, q0, hargs0, rfl, rfl, h0, r0⟩ := trodAll_cons hA
  obtain ⟨v1, vs1, d1, ds1, p1, q1, hargs1, rfl, rfl, h1, r1⟩ := trodAll_cons r0
  obtain ⟨rfl, rfl, rfl⟩ := trodAll_nil r1
  obtain rfl : args = #[v0, v1] := by cases args; simp_all
  obtain ⟨rfl, rfl⟩ := trodVars_none hV
  obtain ⟨t0, A0, n0, c0, rfl, hT0⟩ := arg_table (hval 0 24 v0 rfl rfl) h0
  obtain ⟨A1, n1, c1, l1, rfl, hI1⟩ := arg_ints (hval 1 35 v1 rfl rfl) h1
  refine (law_calls (args := [_, _]) fun D => lawLayout_ac D [] W (gp_of hL) t0 A0 n0 c0 hT0 A1 n1 c1 l1 hI1).mono fun e W' ⟨he, hg⟩ => ?_
  subst he
  exact ⟨_, rfl, law_post laid_out primerLayoutDoesNotMatter_reads (by kernel_rfl) Tryz.underlying4 rfl hW rfl hg⟩
set_option maxRecDepth 100000 in
theorem primerLayoutDoesNotMatter_lifted (os : Os) (started : os.Started) (H : Type) (enc : TypeId × Value → H) :
    ReturnsInHanded {} Tryz.checked os 6 .any (fun w args => (Rows.primerLayoutDoesNotMatterSpec.pre enc Tryz.prog Tryz.f6 [] false w args ∧ laidMetH Tryz.prog Rows.primerLayoutDoesNotMatterRow.laid w) ∧ sizedMet enc Tryz.prog Tryz.f6 (OpenSpec.ofChange Rows.primerLayoutDoesNotMatterSpec) false w args) (Rows.primerLayoutDoesNotMatterSpec.post enc Tryz.prog Tryz.f6 false true false false) := by
  refine returnsInHanded_of_change_and (C := Tryz.checked) (X := fun w _ => laidMetH Tryz.prog Rows.primerLayoutDoesNotMatterRow.laid w) (fun _ _ _ hh h => h.of_heap hh) own_knob started (by kernel_rfl) Tryz.func6
    (ChangeSpec.witness_shaped (enc := enc) (C := Tryz.checked) (os := os) (X := fun w _ => laidMetH Tryz.prog Rows.primerLayoutDoesNotMatterRow.laid w) false (World.laidAll Tryz.prog os Rows.primerLayoutDoesNotMatterRow.laid) #[.agg #[.int .i64 0, .slice none 0 0], .slice none 0 0] 8 (World.laidAll_os _ _ _)
      (World.shaped_of_ZipB (by kernel_rfl) (by kernel_rfl)) (by kernel_rfl) (by kernel_rfl) (by kernel_rfl)
      (by rw [MakeChecks.laidMetH_plain _ _ _ (by kernel_rfl)]; exact laidMet_laidAll _ (by kernel_rfl) (by kernel_rfl))) ?_
  intro W base args ds gs before hval hW _ _ hL _
  exact primerLayoutDoesNotMatter_contract H enc W base args ds gs before hval hW hL
theorem primerLayoutDoesNotMatter_said : Rows.PrimerLayoutDoesNotMatterSaid :=
  OpenClaim.holds_of_wide 6 Tryz.f6 rfl rfl rfl rfl rfl rfl rfl ⟨rfl, rfl, rfl, rfl, rfl⟩ rfl rfl rfl rfl rfl (by kernel_rfl) Tryz.func6 (by kernel_rfl)
    (of_decide_eq_true (by kernel_rfl)) (by unfold Func.isWrapper; first | (rw [if_pos (by decide +kernel)]; kernel_rfl) | (rw [if_neg (by decide +kernel)]; exact ⟨rfl, rfl⟩))
    (fun os started H enc _ => primerLayoutDoesNotMatter_lifted os started H enc)
theorem primerLayoutDoesNotMatter_plain (f : FuncId) (fn : Func) (hf : Tryz.pinned.checked.prog.funcNamed Rows.primerLayoutDoesNotMatterRow.func = some f) (hfn : Tryz.pinned.checked.prog.funcs[f]? = some fn) : true = Tryz.pinned.checked.prog.looks [] ∧ ∀ (j : Nat) t, fn.params[j]? = some t → Tryz.pinned.checked.prog.wantsStandIn t = false := by
  obtain rfl : f = 6 := Option.some.inj ((show Tryz.prog.funcNamed Rows.primerLayoutDoesNotMatterRow.func = some 6 by kernel_rfl).symm.trans hf) |>.symm
  obtain rfl : fn = Tryz.f6 := (Option.some.inj (Tryz.func6.symm.trans hfn)).symm
  exact ⟨by kernel_rfl, fun j t ht => by
    rw [Tryz.params6] at ht
    have hm : t ∈ [24, 35] := by simpa using Array.mem_of_getElem? ht
    have hall : ([24, 35].all fun u => !Tryz.prog.wantsStandIn u) = true := by kernel_rfl
    exact (show Tryz.prog.wantsStandIn t = false by simpa using List.all_eq_true.1 hall t hm)⟩
theorem primerLayoutDoesNotMatter_holds : Rows.PrimerLayoutDoesNotMatterCardSaid :=
  Claim7.holds_tied_plain_at .later [] _ _ _ _ primerLayoutDoesNotMatter_said (fun _ h => by cases h) (by kernel_rfl) (fun _ h => by cases h) primerLayoutDoesNotMatter_row_tie rfl ⟨rfl, rfl⟩ (by kernel_rfl) rfl primerLayoutDoesNotMatter_plain (by kernel_rfl)
end Go.Proofs.YtoeeblegplghmaaGreatDoor
