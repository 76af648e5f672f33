/- The law CheckTrimMatchesSpec: for every input it returns true, and its arguments read behind the call az they read before; what the package-level variables of the library hold is tied tgt the text of the program. Part 8 of the proof of checkTrimMatchesSpec_holds: texts V32, C37, Rj, Rt, Q33. -/
import Derived.Test.YtacajpepkfinoaaGreatDoorQ33x7
import Derived.ProofKit
import Derived.OpenShut
import Derived.SizedLaws
import Derived.Deep.Slices
import Derived.Test.YtacajpepkfinoaaGreatDoorRows
import Derived.Lay
import Derived.Lib.LaidTab
import Derived.Stop.LaidErr
import Derived.SevenTiedAt
import Derived.Test.YtacajpepkfinoaaGreatDoorCards
import Derived.Test.YtacajpepkfinoaaGreatDoorTie
set_option linter.unusedVariables false
set_option linter.unusedSimpArgs false
set_option linter.unnecessarySimpa false
set_option maxRecDepth 100000
set_option maxHeartbeats 8000000
namespace Go.Proofs.YtacajpepkfinoaaGreatDoor
open Go.FL
attribute [local irreducible] JC JO JA JB thenQ blockQ retQ AC fill CellsAt QE Ev Mid
theorem Rea.snoc {p : Prg} {a b c : Nat} (h : Rea p a b) (hc : cal p b c) : Rea p a c := by
  induction h with
  | refl => exact .step hc (.refl _)
  | step h _ ih => exact .step h (ih hc)
theorem getD_b {R : List Bool} {k : Nat} (hk : k < R.length) : R.getD k false = R[k] := by rw [List.getD_eq_getElem?_getD, List.getElem?_eq_getElem hk]; rfl
theorem getD_t {R : List Bool} {k : Nat} (h : R.getD k false = true) : R[k]? = some true := by
  by_cases hk : k < R.length
  · rw [getD_b hk] at h; rw [List.getElem?_eq_getElem hk, h]
  · rw [List.getD_eq_getElem?_getD, List.getElem?_eq_none O] at h; cases h
theorem getD_f {R : List Bool} {k : Nat} (h : R.getD k false = false) : R[k]? ≠ some true := fun h2 => by
  rw [List.getD_eq_getElem?_getD, h2] at h; cases h
theorem set_or {R : List Bool} {k j : Nat} {b : Bool} (hk : k < R.length) : (R.set k (R.getD k false || b))[j]? = some true ↔ R[j]? = some true ∨ (j = k ∧ b = true) := by
  rw [List.getElem?_set, getD_b hk]
  by_cases h : k = j
  · subst h
    rw [if_pos rfl, if_pos hk, List.getElem?_eq_getElem hk]
    cases R[k] <;> cases b <;> simp
  · rw [if_neg h]
    constructor
    · exact .inl
    · rintro (h1 | ⟨h1, _⟩)
      · exact h1
      · exact absurd h1.symm h
theorem set_same {R : List Bool} {k : Nat} {b : Bool} (h : b = true → R[k]? = some true) : R.set k (R.getD k false || b) = R := by
  by_cases hk : k < R.length
  · have : (R.getD k false || b) = R[k] := by
      rw [getD_b hk]
      cases b with
      | false => simp
      | true => have := h rfl; rw [List.getElem?_eq_getElem hk] at this; simp at this; simp [this]
    rw [this]; exact List.set_getElem_self hk
  · exact List.set_eq_of_length_le O
theorem falses_lt {l m : List Bool} {k : Nat} (hl : m.length = l.length) (hm : ∀ j : Nat, l[j]? = some true → m[j]? = some true) (hk : l[k]? ≠ some true) (hk2 : m[k]? = some true) : falses m < falses l := by
  have hkl : k < l.length := by rw [← hl]; exact (List.getElem?_eq_some_iff.1 hk2).1
  have h0 : l.getD k false = false := by
    rw [getD_b hkl]
    cases h : l[k] with
    | false => rfl
    | true => exact absurd (by rw [List.getElem?_eq_getElem hkl, h]) hk
  refine Nat.lt_of_le_of_lt (falses_mono (by simpa using hl) fun j hj => ?_) (falses_set hkl h0)
  rcases set_true.1 hj with ⟨rfl, _⟩ | h
  · exact hk2
  · exact hm j h
def Clo (p : Prg) (R : List Bool) : Prop := ∀ i k : Nat, R[i]? = some true → cal p i k → R[k]? = some true
structure TmR (p : Prg) (mi : Nat) (R : List Bool) : Prop where
  len : R.length = p.funcs.length
  hit : R[mi]? = some true
  snd : ∀ j : Nat, R[j]? = some true → Rea p mi j
structure TmB (p : Prg) (mi : Nat) (R0 : List Bool) (i : Nat) (R : List Bool) : Prop where
  ok : TmR p mi R
  mono : ∀ j : Nat, R0[j]? = some true → R[j]? = some true
  done : ∀ a : Nat, a < i → R0[a]? = some true → ∀ k, cal p a k → R[k]? = some true
  same : Clo p R0 → R = R0
structure TmC (p : Prg) (mi : Nat) (R0 : List Bool) (i : Nat) (U : List Bool) (k : Nat) (R : List Bool) : Prop where
  b : TmB p mi R0 i R
  hit : ∀ a : Nat, a < k → U[a]? = some true → R[a]? = some true
theorem TmR.start {p : Prg} {mi : Nat} (h : mi < p.funcs.length) : TmR p mi ((List.replicate p.funcs.length false).set mi true) := by
  refine ⟨by simp, set_true.2 (.inl ⟨Z, by simpa using h⟩), fun j hj => ?_⟩
  rcases set_true.1 hj with ⟨rfl, _⟩ | h1
  · exact .refl _
  · exact absurd h1 rep_false
theorem TmR.enter {p : Prg} {mi : Nat} {R : List Bool} (h : TmR p mi R) : TmB p mi R 0 R := ⟨h, fun _ h => h, fun a ha => by omega, fun _ => rfl⟩
theorem TmB.enter {p : Prg} {mi i : Nat} {R0 R U : List Bool} (h : TmB p mi R0 i R) : TmC p mi R0 i U 0 R := ⟨h, fun a ha => by omega⟩
theorem cal_lt {p : Prg} {i k : Nat} (h : cal p i k) : k < p.funcs.length := by
  obtain ⟨x, _, hk⟩ := h
  obtain ⟨j, h1, h2⟩ := msP_fun hk
  omega
theorem TmC.step {p : Prg} {mi i k : Nat} {R0 R : List Bool} {x : Fnc} {v : Bool} (h : TmC p mi R0 i (usB p x 4) k R) (hx : p.funcs[i]? = some x) (hk : k < p.funcs.length) (hRi : R[i]? = some true) (hv : v = (R.getD k false || (usB p x 4).getD k false)) : TmC p mi R0 i (usB p x 4) (k + 1) (R.set k v) := by
  subst hv
  have hkl : k < R.length := by rw [h.b.ok.len]; exact hk
  have hc : (usB p x 4).getD k false = true → cal p i k := fun hu => ⟨x, hx, (usB_mem (.inr rfl)).1 (getD_t hu)⟩
  refine ⟨⟨⟨by rw [List.length_set]; exact h.b.ok.len, (set_or hkl).2 (.inl h.b.ok.hit), fun j hj => ?_⟩, fun j hj => (set_or hkl).2 (.inl (h.b.mono j hj)), fun a ha h0 j hj => (set_or hkl).2 (.inl (h.b.done a ha h0 j hj)), fun hC => ?_⟩, fun a ha hu => ?_⟩
  · rcases (set_or hkl).1 hj with h1 | ⟨rfl, h1⟩
    · exact h.b.ok.snd j h1
    · exact (h.b.ok.snd i hRi).snoc (hc h1)
  · have e := h.b.same hC
    rw [set_same fun hu => ?_]
    · exact e
    · rw [e]; exact hC i k (by rw [← e]; exact hRi) (hc hu)
  · by_cases e : a = k
    · subst e
      exact (set_or hkl).2 (.inr ⟨rfl, by rw [List.getD_eq_getElem?_getD, hu]; rfl⟩)
    · exact (set_or hkl).2 (.inl (h.hit a O hu))
theorem TmC.all {p : Prg} {mi i k : Nat} {R0 R : List Bool} {x : Fnc} (h : TmC p mi R0 i (usB p x 4) k R) (hx : p.funcs[i]? = some x) (hk : p.funcs.length ≤ k) : TmB p mi R0 (i + 1) R := by
  refine ⟨h.b.ok, h.b.mono, fun a ha h0 j hj => ?_, h.b.same⟩
  by_cases e : a = i
  · subst e
    obtain ⟨y, hy, hm⟩ := id hj
    rw [hx] at hy; injection hy with hy; subst hy
    exact h.hit j (by have := cal_lt hj; omega) ((usB_mem (.inr rfl)).2 hm)
  · exact h.b.done a O h0 j hj
theorem TmC.none {p : Prg} {mi i k : Nat} {R0 R U : List Bool} (h : TmC p mi R0 i U k R) (hR : R[i]? ≠ some true) : TmB p mi R0 (i + 1) R := by
  refine ⟨h.b.ok, h.b.mono, fun a ha h0 j hj => ?_, h.b.same⟩
  by_cases e : a = i
  · subst e; exact absurd (h.b.mono a h0) hR
  · exact h.b.done a O h0 j hj
theorem TmB.round {p : Prg} {mi r nf : Nat} {R0 R : List Bool} (h : TmB p mi R0 p.funcs.length R) (hl : R0.length = p.funcs.length) (hr : Clo p R0 ∨ falses R0 + r + 1 ≤ nf) : Clo p R ∨ falses R + (r + 1) + 1 ≤ nf := by
  by_cases hC : Clo p R0
  · rw [h.same hC]; exact .inl hC
  · rcases hr with hr | hr
    · exact absurd hr hC
    · refine .inr ?_
      have : ∃ i k : Nat, R0[i]? = some true ∧ cal p i k ∧ R0[k]? ≠ some true := by
        apply Classical.byContradiction
        intro hn
        refine hC fun i k h1 h2 => ?_
        apply Classical.byContradiction
        intro h3
        exact hn ⟨i, k, h1, h2, h3⟩
      obtain ⟨i, k, h1, h2, h3⟩ := this
      have := falses_lt (by rw [h.ok.len, hl]) h.mono h3 (h.done i (by rw [← hl]; exact (List.getElem?_eq_some_iff.1 h1).1) h1 k h2)
      omega
structure TnG (p : Prg) (R : List Bool) (i : Nat) (G : List Bool) : Prop where
  len : G.length = p.globals.length
  mem : ∀ g : Nat, G[g]? = some true ↔ ∃ j : Nat, j < i ∧ R[j]? = some true ∧ glo p j g
structure TnH (p : Prg) (R : List Bool) (i : Nat) (U : List Bool) (k : Nat) (G : List Bool) : Prop where
  len : G.length = p.globals.length
  mem : ∀ g : Nat, G[g]? = some true ↔ (∃ j : Nat, j < i ∧ R[j]? = some true ∧ glo p j g) ∨ (g < k ∧ R[i]? = some true ∧ U[g]? = some true)
theorem TnG.start (p : Prg) (R : List Bool) : TnG p R 0 (List.replicate p.globals.length false) := ⟨by simp, fun g => ⟨fun h => absurd h rep_false, fun ⟨j, h, _⟩ => by omega⟩⟩
theorem TnG.enter {p : Prg} {R G U : List Bool} {i : Nat} (h : TnG p R i G) : TnH p R i U 0 G := ⟨h.len, fun g => by rw [h.mem]; exact ⟨.inl, fun h => h.elim (fun h => h) (fun h => by omega)⟩⟩
theorem TnH.step {p : Prg} {R G : List Bool} {i k : Nat} {U : List Bool} {v : Bool} (h : TnH p R i U k G) (hk : k < p.globals.length) (hRi : R[i]? = some true) (hv : v = (G.getD k false || U.getD k false)) : TnH p R i U (k + 1) (G.set k v) := by
  subst hv
  have hkl : k < G.length := by rw [h.len]; exact hk
  refine ⟨by rw [List.length_set]; exact h.len, fun g => ?_⟩
  rw [set_or hkl, h.mem]
  constructor
  · rintro ((h1 | ⟨h1, h2, h3⟩) | ⟨rfl, h1⟩)
    · exact .inl h1
    · exact .inr ⟨by omega, h2, h3⟩
    · exact .inr ⟨by omega, hRi, getD_t h1⟩
  · rintro (h1 | ⟨h1, h2, h3⟩)
    · exact .inl (.inl h1)
    · by_cases e : g = k
      · subst e; exact .inr ⟨rfl, by rw [List.getD_eq_getElem?_getD, h3]; rfl⟩
      · exact .inl (.inr ⟨by omega, h2, h3⟩)
theorem TnH.all {p : Prg} {R G : List Bool} {i k : Nat} {x : Fnc} (h : TnH p R i (usB p x 3) k G) (hx : p.funcs[i]? = some x) (hk : p.globals.length ≤ k) : TnG p R (i + 1) G := by
  refine ⟨h.len, fun g => ?_⟩
  rw [h.mem]
  constructor
  · rintro (⟨j, h1, h2, h3⟩ | ⟨h1, h2, h3⟩)
    · exact ⟨j, by omega, h2, h3⟩
    · exact ⟨i, by omega, h2, x, hx, (usB_mem (.inl rfl)).1 h3⟩
  · rintro ⟨j, h1, h2, h3⟩
    by_cases e : j = i
    · subst e
      obtain ⟨y, hy, hm⟩ := id h3
      rw [hx] at hy; injection hy with hy; subst hy
      obtain ⟨q, h4, h5⟩ := msP_glo hm
      exact .inr ⟨by omega, h2, (usB_mem (.inl rfl)).2 hm⟩
    · exact .inl ⟨j, by omega, h2, h3⟩
theorem TnH.none {p : Prg} {R G U : List Bool} {i k : Nat} (h : TnH p R i U k G) (hR : R[i]? ≠ some true) : TnG p R (i + 1) G := by
  refine ⟨h.len, fun g => ?_⟩
  rw [h.mem]
  constructor
  · rintro (⟨j, h1, h2, h3⟩ | ⟨h1, h2, h3⟩)
    · exact ⟨j, by omega, h2, h3⟩
    · exact absurd h2 hR
  · rintro ⟨j, h1, h2, h3⟩
    by_cases e : j = i
    · subst e; exact absurd h2 hR
    · exact .inl ⟨j, by omega, h2, h3⟩
theorem tm_marks {p : Prg} {mi : Nat} {R G : List Bool} (hm : mainF p.funcs = (mi : Int)) (hl : mi < p.funcs.length) (hR : TmR p mi R) (hC : Clo p R) (hG : TnG p R p.funcs.length G) : marks p R G := by
  refine ⟨hR.len, hG.len, mi, hm, hl, fun j => ⟨hR.snd j, fun hr => ?_⟩, fun g => ?_⟩
  · have : ∀ i j, Rea p i j → R[i]? = some true → R[j]? = some true := by
      intro i j hr
      induction hr with
      | refl => exact fun h => h
      | step hc _ ih => exact fun h => ih (hC _ _ h hc)
    exact this mi j hr hR.hit
  · rw [hG.mem]
    exact ⟨fun ⟨j, _, h2, h3⟩ => ⟨j, h2, h3⟩, fun ⟨j, h2, h3⟩ => ⟨j, by rw [← hR.len]; exact (List.getElem?_eq_some_iff.1 h2).1, h2, h3⟩⟩
theorem bools_eq {a b : List Bool} (hl : a.length = b.length) (h : ∀ j : Nat, a[j]? = some true ↔ b[j]? = some true) : a = b := by
  refine List.ext_getElem hl fun j h1 h2 => ?_
  have := h j
  rw [List.getElem?_eq_getElem h1, List.getElem?_eq_getElem h2] at this
  cases ha : a[j] <;> cases hb : b[j] <;> simp [ha, hb] at this <;> rfl
theorem marks_one {p : Prg} {F G F' G' : List Bool} (h : marks p F G) (h' : marks p F' G') : F = F' ∧ G = G' := by
  obtain ⟨a1, a2, mi, a3, _, a4, a5⟩ := h
  obtain ⟨b1, b2, mj, b3, _, b4, b5⟩ := h'
  obtain rfl : mi = mj := by omega
  have hF : F = F' := bools_eq O fun j => by rw [a4, b4]
  subst hF
  exact ⟨rfl, bools_eq O fun g => by rw [a5, b5]⟩
theorem tm_init {nf mi : Nat} (h : mi < nf) : falses ((List.replicate nf false).set mi true) + 0 + 1 ≤ nf := by
  have h1 := falses_set (l := List.replicate nf false) (j := mi) (by simpa using h) (by rw [List.getD_eq_getElem?_getD, List.getElem?_replicate]; split <;> rfl)
  rw [falses_rep] at h1; omega
theorem or_t {R : List Bool} {k : Nat} {u : Bool} (h : R.getD k false = true) : true = (R.getD k false || u) := by rw [h]; rfl
theorem or_f {R U : List Bool} {k : Nat} {u : Bool} (h : R.getD k false = false) (hu : U[k]? = some u) : u = (R.getD k false || U.getD k false) := by rw [h, List.getD_eq_getElem?_getD, hu]; rfl
theorem trimmedO_ac (D : Nat) (L : Hl) (s : World) (d : Nat) (p : Prg) (Ag Af : Option Addr) (ng cg nf cf : Nat) (hGl : Glos s Ag ng cg p.globals) (hFn : Fncs d s Af nf cf p.funcs) (h0 : (chkF p).1 = 0) : AC Tryz.prog D 20 [.agg #[.slice Ag ng cg, .slice Af nf cf]] L s fun v L' s' => ∃ M', L' = M' ++ L ∧ ∀ s2, Le D s' s2 → Pub M' s2 → ∃ q, TrimR p q ∧ ∃ Bg mg eg Bf mf ef, v = .agg #[.slice Bg mg eg, .slice Bf mf ef] ∧ Glos s2 Bg mg eg q.globals ∧ Fncs d s2 Bf mf ef q.funcs := by
 have hn1 := hGl.1
 have hn2 := hFn.1
 have hU : prU p := ⟨hGl.u, hFn.u⟩
 obtain ⟨hOK, hz0⟩ := OKP.of hU h0
 have hV := hOK.1
 have hV1 := hV.1
 have hV2 := hV.2.1
 obtain ⟨mi, xm, hmi, hxm, hmf⟩ := main_ok hOK.2.1
 have hml := (List.getElem?_eq_some_iff.1 hxm).1
 have hmn : mi < nf := by omega
 have hmr : mi < (List.replicate nf false).length := by simpa using hmn
 refine AC_enter (TT := TT) (fn := Tryz.f20) TT_ok Tryz.func20 V Z Tryz.ntmps20 Z (rs := [.cell 2 25]) Z [(0, _)] Z <| Sr <| JO_boxA Z Z ?_
 intro β1 s1 h1
 refine JO_allocZ Z [_, _] Z Z ?_
 intro β2 s2 h2
 refine Nt <| Sr <| Wb Y5 <| Wl 1 Y6 <| Ws Y4 <| JO_mk Z Z Z Z Z (by simp [ti4]; omega) O Z ?_
 intro βr s3 h3
 rw [rep_b]
 refine At Z Z <| Sr <| Zqm Z Z <| JO_q (QE_ldA 2 [_, _] Z Z Z Z Z) Z <| Jc Z Z Z (mainOf_ac D _ _ d p Ag _ ng cg nf cf (hGl.le (h1.t h2|>.t h3)) (hFn.le (h1.t h2|>.t h3))) ?_
 rintro _ _ s4 h4 ⟨rfl, rfl⟩
 rw [hmi]
 refine JO_q (QE_ia1 Z Z Z Z Z Z hmn) Z <| JO_st 0 (bvs ((List.replicate nf false).set mi true)) Z Z Z Z Z (ble_b hmr) Z (spl_b hmr true) Z <| Nt <| Zs <| Sr <| At Z Z <| Zp <| ?_
 refine JC_loop (γ := Nat × List Bool) (fun g => [(1, _), (2, _), (3, _), (4, .int .i64 (g.1 : Int))]) (fun g => (βr, cb (bvs g.2) 4) :: _ :: _ :: L) (fun g tw => Le D s4 tw ∧ (g.1 ≤ nf ∧ TmR p mi g.2 ∧ (Clo p g.2 ∨ falses g.2 + g.1 + 1 ≤ nf))) (fun g => nf - g.1) (fun _ _ _ h hl => ⟨h.1.trans hl, h.2⟩) (0, (List.replicate nf false).set mi true) (.cons Z (.cons Z (.cons Z (.cons Z (.nil _))))) Z ⟨Le.refl _, ⟨Nat.zero_le _, by rw [hn2]; exact TmR.start hml, .inr (tm_init hmn)⟩⟩ ?_
 intro g s6 I6
 obtain ⟨r, R0⟩ := g
 obtain ⟨hr0, hTR, hFL⟩ := I6.2
 simp only at hr0 hTR hFL
 dsimp only
 have hR0l := hTR.len
 refine Zs <| Sr <| Zqm Z Z <| Wb Y5 <| Wl 2 Y6 <| Ws Y4 <| Zqlt Z Z Z <| Nt <| ?_
 refine JC_ifD Z (fun c7 => ?_) (fun c7 => ?_)
 ·
  refine Zk <| Zt <| Zs <| Zp <| Sr <| At Z Z <| Zp <| JC_loop (γ := Nat × List Bool) (fun g => [(1, _), (2, _), (3, _), (4, _), (5, .int .i64 (g.1 : Int))]) (fun g => (βr, cb (bvs g.2) 4) :: _ :: _ :: L) (fun g tw => Le D s6 tw ∧ (g.1 ≤ nf ∧ TmB p mi R0 g.1 g.2)) (fun g => nf - g.1) (fun _ _ _ h hl => ⟨h.1.trans hl, h.2⟩) (0, R0) (.cons Z (.cons Z (.cons Z (.cons Z (.cons Z (.nil _)))))) Z ⟨Le.refl _, ⟨Nat.zero_le _, hTR.enter⟩⟩ ?_
  intro g s8 I8
  obtain ⟨i, R1⟩ := g
  obtain ⟨hi0, hB⟩ := I8.2
  simp only at hi0 hB
  dsimp only
  refine Zs <| Sr <| Zqm Z Z <| Wb Y5 <| Wl 2 Y6 <| Ws Y4 <| Zqlt Z Z Z <| Nt <| ?_
  refine JC_ifD Z (fun c9 => ?_) (fun c9 => ?_)
  ·
   have hi : i < nf := by omega
   obtain ⟨x, hx⟩ : ∃ x, p.funcs[i]? = some x := ⟨_, List.getElem?_eq_getElem O⟩
   refine Zk <| Zt <| Zs <| Zp <| Sr <| JO_q (QE_ldA 2 [_, _] Z Z Z Z Z) Z <| Zqm Z Z <| Jc Z Z Z (uses_ac D _ _ d p Ag Af ng cg nf cf (hGl.le (h1.t h2|>.t h3|>.t h4|>.t I6.1|>.t I8.1)) (hFn.le (h1.t h2|>.t h3|>.t h4|>.t I6.1|>.t I8.1)) hV i x hx 4 (.inr Z)) ?_
   rintro _ _ s10 h10 ⟨rfl, Au, nu, cu, rfl, hBu⟩
   have hnu := hBu.1
   rw [usB_len, nOf, if_pos rfl] at hnu
   refine At Z Z <| Sr <| At Z Z <| Zp <| JC_loop (γ := Nat × List Bool) (fun g => [(1, _), (2, _), (3, _), (4, _), (5, _), (6, _), (7, .int .i64 (g.1 : Int))]) (fun g => (βr, cb (bvs g.2) 4) :: _ :: _ :: L) (fun g tw => Le D s10 tw ∧ (g.1 ≤ nf ∧ TmC p mi R0 i (usB p x 4) g.1 g.2)) (fun g => nf - g.1) (fun _ _ _ h hl => ⟨h.1.trans hl, h.2⟩) (0, R1) (.cons Z (.cons Z (.cons Z (.cons Z (.cons Z (.cons Z (.cons Z (.nil _)))))))) Z ⟨Le.refl _, ⟨Nat.zero_le _, hB.enter⟩⟩ ?_
   intro g s11 I11
   obtain ⟨k, R2⟩ := g
   obtain ⟨hk0, hC⟩ := I11.2
   simp only at hk0 hC
   dsimp only
   have hRl := hC.b.ok.len
   have hiR : i < R2.length := by omega
   refine Zs <| Sr <| Zqm Z Z <| Zqm Z Z <| Ws Y4 <| Zqlt Z Z Z <| Zqm Z Z <| ?_
   refine JO_caseD (t := 44) Z (fun c12 => ?_) (fun c12 => ?_)
   ·
    refine Zg Z Z <| Zqm Z Z <| Zg Z Z <| Zqm Z Z <| Zg Z Z <| JO_q (QE_ia1 Z Z Z Z Z Z hi) Z <| Zg Z Z <| JO_q (QE_ld1 0 Z Z Z Z (nth_b hiR)) Z <| ZqT Z Z Z <| Nt <| ?_
    refine JC_if Z (fun c13 => ?_) (fun c13 => ?_)
    ·
     have hRi : R2[i]? = some true := getD_t c13
     have hk : k < nf := by omega
     have hkR : k < R2.length := by omega
     have hku : k < nu := by omega
     obtain ⟨bu, ou, u, rfl, hu, hcu⟩ := Bls.at_ (hBu.le I11.1) hku
     refine Zk <| Zt <| Zs <| Zp <| Zr <| Zqm Z Z <| Zqm Z Z <| Zqm Z Z <| Zqm Z Z <| JO_q (QE_ia1 Z Z Z Z Z Z hk) Z <| JO_q (QE_ld1 0 Z Z Z Z (nth_b hkR)) Z <| Zqm Z Z ?_
     refine JO_case (t := 58) Z (fun c14 => ?_) (fun c14 => ?_)
     ·
      refine Wf Y4 <| Wf Y4 <| Wf Y4 <| Wf Y4 <| ZqT Z Z Z <| JO_q (QE_ia1 Z Z Z Z Z Z hk) Z <| JO_st 0 (bvs (R2.set k true)) Z Z Z Z Z (ble_b hkR) Z (spl_b hkR true) Z <| Zn <| Zb <| Zt <| Zr <| Zqm Z Z <| Zqadd Z Z Z (w64 O O) <| Zqa Z Z <| Zn <| ?_
      refine thenQ_n ⟨(k + 1, R2.set k true), [], kp, Z, ⟨I11.1, ⟨by simp only; omega, hC.step hx O hRi (or_t As)⟩⟩, (by simp only; omega)⟩
     refine Zg Z Z <| Zqm Z Z <| Zg Z Z <| Zqm Z Z <| Zg Z Z <| JO_q (QE_ia1 Z Z Z Z Z Z hku) Z <| Zg Z Z <| JO_q (QE_ldsR0 Z Z Z (hcu.le (Lr D)) Z) Z <| ZqF Z Z Z <| JO_q (QE_ia1 Z Z Z Z Z Z hk) Z <| JO_st 0 (bvs (R2.set k u)) Z Z Z Z Z (ble_b hkR) Z (spl_b hkR u) Z <| Zn <| Zb <| Zt <| Zr <| Zqm Z Z <| Zqadd Z Z Z (w64 O O) <| Zqa Z Z <| Zn <| ?_
     refine thenQ_n ⟨(k + 1, R2.set k u), [], kp, Z, ⟨I11.1, ⟨by simp only; omega, hC.step hx O hRi (or_f As hu)⟩⟩, (by simp only; omega)⟩
    have hRi : R2[i]? ≠ some true := getD_f c13
    refine Zl <| Zv <| Zv <| Zd <| Zb <| Zt <| Zr <| Zqm Z Z <| Zqadd Z Z Z (w64 O O) <| Zqa Z Z <| Zn <| ?_
    refine thenQ_n ⟨(i + 1, R2), [], kp, Z, ⟨(I8.1.t h10|>.t I11.1), ⟨by simp only; omega, by first | exact hC.all hx O | exact hC.none hRi⟩⟩, (by simp only; omega)⟩
   refine Wf Y4 <| Wf Y4 <| Wf Y4 <| Wf Y4 <| ZqF Z Z Z <| Nt <| Zz Z <| Zl <| Zv <| Zv <| Zd <| Zb <| Zt <| Zr <| Zqm Z Z <| Zqadd Z Z Z (w64 O O) <| Zqa Z Z <| Zn <| ?_
   refine thenQ_n ⟨(i + 1, R2), [], kp, Z, ⟨(I8.1.t h10|>.t I11.1), ⟨by simp only; omega, by first | exact hC.all hx O | exact hC.none hRi⟩⟩, (by simp only; omega)⟩
  have hBe : TmB p mi R0 p.funcs.length R1 := (show i = p.funcs.length by omega) ▸ hB
  refine Zl <| Zv <| Zv <| Zd <| Zb <| Zt <| Zr <| Zqm Z Z <| Zqadd Z Z Z (w64 O O) <| Zqa Z Z <| Zn <| ?_
  refine thenQ_n ⟨(r + 1, R1), [], kp, Z, ⟨(I6.1.t I8.1), ⟨by simp only; omega, hBe.ok, hBe.round hTR.len hFL⟩⟩, (by simp only; omega)⟩
 have hClo : Clo p R0 := hFL.resolve_right O
 refine Zl <| Zv <| Zv <| Zd <| Zt <| Sr <| W0 Y5 <| Wl 2 Y6 <| Ws Y4 <| JO_mk Z Z Z Z Z (by simp [ti4]; omega) O Z ?_
 intro βq s17 h17
 rw [rep_b]
 refine At Z Z <| Zs <| Sr <| At Z Z <| Zp <| JC_loop (γ := Nat × List Bool) (fun g => [(1, _), (2, _), (3, _), (8, _), (9, .int .i64 (g.1 : Int))]) (fun g => (βq, cb (bvs g.2) 4) :: _ :: _ :: _ :: L) (fun g tw => Le D s17 tw ∧ (g.1 ≤ nf ∧ TnG p R0 g.1 g.2)) (fun g => nf - g.1) (fun _ _ _ h hl => ⟨h.1.trans hl, h.2⟩) (0, List.replicate ng false) (.cons Z (.cons Z (.cons Z (.cons Z (.cons Z (.nil _)))))) Z ⟨Le.refl _, ⟨Nat.zero_le _, by rw [hn1]; exact TnG.start p R0⟩⟩ ?_
 intro g s18 I18
 obtain ⟨i, G1⟩ := g
 obtain ⟨hi0, hTG⟩ := I18.2
 simp only at hi0 hTG
 dsimp only
 have hG1l := hTG.len
 refine Zs <| Sr <| Zqm Z Z <| Wb Y5 <| Wl 3 Y6 <| Ws Y4 <| Zqlt Z Z Z <| Nt <| ?_
 refine JC_ifD Z (fun c19 => ?_) (fun c19 => ?_)
 ·
  have hi : i < nf := by omega
  obtain ⟨x, hx⟩ : ∃ x, p.funcs[i]? = some x := ⟨_, List.getElem?_eq_getElem O⟩
  refine Zk <| Zt <| Zs <| Zp <| Sr <| JO_q (QE_ldA 3 [_, _] Z Z Z Z Z) Z <| Zqm Z Z <| Jc Z Z Z (uses_ac D _ _ d p Ag Af ng cg nf cf (hGl.le (h1.t h2|>.t h3|>.t h4|>.t I6.1|>.t h17|>.t I18.1)) (hFn.le (h1.t h2|>.t h3|>.t h4|>.t I6.1|>.t h17|>.t I18.1)) hV i x hx 3 (.inl Z)) ?_
  rintro _ _ s20 h20 ⟨rfl, Au, nu, cu, rfl, hBu⟩
  have hnu := hBu.1
  rw [usB_len, nOf, if_neg (by decide)] at hnu
  refine At Z Z <| Sr <| At Z Z <| Zp <| JC_loop (γ := Nat × List Bool) (fun g => [(1, _), (2, _), (3, _), (8, _), (9, _), (10, _), (11, .int .i64 (g.1 : Int))]) (fun g => (βq, cb (bvs g.2) 4) :: _ :: _ :: _ :: L) (fun g tw => Le D s20 tw ∧ (g.1 ≤ ng ∧ TnH p R0 i (usB p x 3) g.1 g.2)) (fun g => ng - g.1) (fun _ _ _ h hl => ⟨h.1.trans hl, h.2⟩) (0, G1) (.cons Z (.cons Z (.cons Z (.cons Z (.cons Z (.cons Z (.cons Z (.nil _)))))))) Z ⟨Le.refl _, ⟨Nat.zero_le _, hTG.enter⟩⟩ ?_
  intro g s21 I21
  obtain ⟨k, G2⟩ := g
  obtain ⟨hk0, hH⟩ := I21.2
  simp only at hk0 hH
  dsimp only
  have hG2l := hH.len
  have hiR : i < R0.length := by omega
  refine Zs <| Sr <| Zqm Z Z <| Zqm Z Z <| Ws Y4 <| Zqlt Z Z Z <| Zqm Z Z <| ?_
  refine JO_caseD (t := 83) Z (fun c22 => ?_) (fun c22 => ?_)
  ·
   refine Zg Z Z <| Zqm Z Z <| Zg Z Z <| Zqm Z Z <| Zg Z Z <| JO_q (QE_ia1 Z Z Z Z Z Z hi) Z <| Zg Z Z <| JO_q (QE_ld1 1 Z Z Z Z (nth_b hiR)) Z <| ZqT Z Z Z <| Nt <| ?_
   refine JC_if Z (fun c23 => ?_) (fun c23 => ?_)
   ·
    have hRi : R0[i]? = some true := getD_t c23
    have hk : k < ng := by omega
    have hkR : k < G2.length := by omega
    have hku : k < nu := by omega
    obtain ⟨bu, ou, u, rfl, hu, hcu⟩ := Bls.at_ (hBu.le I21.1) hku
    refine Zk <| Zt <| Zs <| Zp <| Zr <| Zqm Z Z <| Zqm Z Z <| Zqm Z Z <| Zqm Z Z <| JO_q (QE_ia1 Z Z Z Z Z Z hk) Z <| JO_q (QE_ld1 0 Z Z Z Z (nth_b hkR)) Z <| Zqm Z Z ?_
    refine JO_case (t := 97) Z (fun c24 => ?_) (fun c24 => ?_)
    ·
     refine Wf Y4 <| Wf Y4 <| Wf Y4 <| Wf Y4 <| ZqT Z Z Z <| JO_q (QE_ia1 Z Z Z Z Z Z hk) Z <| JO_st 0 (bvs (G2.set k true)) Z Z Z Z Z (ble_b hkR) Z (spl_b hkR true) Z <| Zn <| Zb <| Zt <| Zr <| Zqm Z Z <| Zqadd Z Z Z (w64 O O) <| Zqa Z Z <| Zn <| ?_
     refine thenQ_n ⟨(k + 1, G2.set k true), [], kp, Z, ⟨I21.1, ⟨by simp only; omega, hH.step O hRi (or_t As)⟩⟩, (by simp only; omega)⟩
    refine Zg Z Z <| Zqm Z Z <| Zg Z Z <| Zqm Z Z <| Zg Z Z <| JO_q (QE_ia1 Z Z Z Z Z Z hku) Z <| Zg Z Z <| JO_q (QE_ldsR0 Z Z Z (hcu.le (Lr D)) Z) Z <| ZqF Z Z Z <| JO_q (QE_ia1 Z Z Z Z Z Z hk) Z <| JO_st 0 (bvs (G2.set k u)) Z Z Z Z Z (ble_b hkR) Z (spl_b hkR u) Z <| Zn <| Zb <| Zt <| Zr <| Zqm Z Z <| Zqadd Z Z Z (w64 O O) <| Zqa Z Z <| Zn <| ?_
    refine thenQ_n ⟨(k + 1, G2.set k u), [], kp, Z, ⟨I21.1, ⟨by simp only; omega, hH.step O hRi (or_f As hu)⟩⟩, (by simp only; omega)⟩
   have hRi : R0[i]? ≠ some true := getD_f c23
   refine Zl <| Zv <| Zv <| Zd <| Zb <| Zt <| Zr <| Zqm Z Z <| Zqadd Z Z Z (w64 O O) <| Zqa Z Z <| Zn <| ?_
   refine thenQ_n ⟨(i + 1, G2), [], kp, Z, ⟨(I18.1.t h20|>.t I21.1), ⟨by simp only; omega, by first | exact hH.all hx O | exact hH.none hRi⟩⟩, (by simp only; omega)⟩
  refine Wf Y4 <| Wf Y4 <| Wf Y4 <| Wf Y4 <| ZqF Z Z Z <| Nt <| Zz Z <| Zl <| Zv <| Zv <| Zd <| Zb <| Zt <| Zr <| Zqm Z Z <| Zqadd Z Z Z (w64 O O) <| Zqa Z Z <| Zn <| ?_
  refine thenQ_n ⟨(i + 1, G2), [], kp, Z, ⟨(I18.1.t h20|>.t I21.1), ⟨by simp only; omega, by first | exact hH.all hx O | exact hH.none hRi⟩⟩, (by simp only; omega)⟩
 have hTe : TnG p R0 p.funcs.length G1 := (show i = p.funcs.length by omega) ▸ hTG
 have hMk := tm_marks hmi hml hTR hClo hTe
 refine Zl <| Zv <| Zv <| Zd <| Zt <| Sr <| JO_allocZ Z [_, _] Z Z ?_
 intro β27 s27 h27
 refine Nt <| Zs <| Zs <| JC_front 4 <| Zr <| At Z Z <| Zp <| ?_
 refine JC_loop (γ := Nat × Value × Hl) (fun g => [(1, _), (2, _), (3, _), (8, _), (12, _), (13, .int .i64 (g.1 : Int))]) (fun g => _ :: (β27, cb [g.2.1, .slice none 0 0] 25) :: _ :: _ :: _ :: (g.2.2 ++ L)) (fun g tw => Le D s27 tw ∧ (g.1 ≤ ng ∧ ∃ css, FL.Own 80 4 g.2.2 g.2.1 (keepB G1 (p.globals.take g.1)).length (List.flatten css) ∧ All2 (fun x cs => cs.length = 4 ∧ GlR tw x cs) (keepB G1 (p.globals.take g.1)) css)) (fun g => ng - g.1) (fun _ _ _ h hl => ⟨h.1.trans hl, ⟨h.2.1, by obtain ⟨css, q1, q2⟩ := h.2.2; exact ⟨css, q1, q2.mono fun _ _ k => ⟨k.1, k.2.le hl⟩⟩⟩⟩) (0, .slice none 0 0, []) (.cons Z (.cons Z (.cons Z (.cons Z (.cons Z (.cons Z (.nil _))))))) Z ⟨Le.refl _, ⟨Nat.zero_le _, [], by cases G1 <;> exact FL.Own.nil, by cases G1 <;> exact .nil⟩⟩ ?_
 intro g s28 I28
 obtain ⟨k, vo, Mo⟩ := g
 obtain ⟨hk0, css, hO, hA2⟩ := I28.2
 simp only at hk0 hO hA2
 dsimp only
 obtain ⟨Ao, co, rfl, _, _⟩ := Own.slice hO
 have hkl := keepB_le G1 (p.globals.take k)
 rw [List.length_take] at hkl
 refine Zs <| Sr <| Zqm Z Z <| W0 Y5 <| Wl 0 Y6 <| Ws Y4 <| Zqlt Z Z Z <| Nt <| ?_
 refine JC_ifD Z (fun c29 => ?_) (fun c29 => ?_)
 ·
  have hk : k < ng := by omega
  obtain ⟨b, off, x, Ai, ni, ci, rfl, hx, hcx, hix, hux, hnl⟩ := Glos.at_ (hGl.le (h1.t h2|>.t h3|>.t h4|>.t I6.1|>.t h17|>.t I18.1|>.t h27|>.t I28.1)) hk
  have hkG : k < G1.length := by omega
  refine Zk <| Zt <| Zs <| Zp <| Sr <| Zqm Z Z <| Zqm Z Z <| JO_q (QE_ia1 Z Z Z Z Z Z hk) Z <| JO_q (QE_ld1 2 Z Z Z Z (nth_b hkG)) Z <| Nt <| ?_
  refine JC_if Z (fun c30 => ?_) (fun c30 => ?_)
  ·
   have hgt := c30
   refine JC_drawT drawsMixed 11 Z 1 ?_
   intro s31 h31
   refine za 0 Z (QE_fa0 Z Z Z Z) Z <| za 2 Z (QE_fa0 Z Z Z Z) Z <| za 3 Z (Wd 0 Y5) Z <| za 4 Z (QE_mv Z) Z <| za 5 Z (QE_iaN Z Z Z Z Z Z hk) Z <| za 6 Z (QE_ldsA Z Z Z (hcx.le h31) Z) Z ?_
   refine JA_2 1 7 V ?_ ?_
   ·
    refine JB_q Z trivial (Wd 1 Y5) Z <| JA_1 7 V <| JB_bs Z trivial [(_, _)] [_, _, _, _] Z Z Z Z Z Z Z Z Z ?_
    intro βn s32 h32 hcb
    refine JA_1 8 V <| JB_app (sz := 4) Z (by exact trivial) [_, _, _, _, _] Mo L Z Z Z Z Z Z Z hO (Row.of_cells (hcb.le (Lr D)) Z Z) ⟨by simp [ti80]; omega, by omega⟩ Z (fun A2 x hx _ => memK1 hx) ?_
    intro vq Mq s33 h33 oq
    obtain ⟨Avq, cvq, rfl, _, _⟩ := Own.slice oq
    simp only [c9, n9]
    refine za 9 Z (QE_fa0 Z Z Z Z) Z <| JA_1 10 V <| Wu Z trivial 1 [_, _] Y9 (fun _ hx => sub_mem (sbY (sb0 _)) hx) <| JA_done V <| Zb <| Zt <| Zr <| Zqm Z Z <| Zqadd Z Z Z (w64 O O) <| Zqa Z Z <| Zn <| ?_
    refine thenQ_n ⟨(k + 1, .slice Avq ((keepB G1 (p.globals.take k)).length + 1) cvq, Mq), [], kp, Z, ⟨(I28.1.t h31|>.t h32|>.t h33), ⟨by simp only; omega, css ++ [[.int .i64 x.kind, St x.name, .int .u32 x.num, .slice Ai ni ci]], by simp only [List.flatten_append, List.flatten_cons, List.flatten_nil, List.append_nil]; rw [keepB_take hx, if_pos hgt, List.length_append]; exact oq, by simp only; rw [keepB_take hx, if_pos hgt]; exact all2_snoc' (hA2.mono fun _ _ k => ⟨k.1, k.2.le (h31.t h32|>.t h33)⟩) ⟨Z, Ai, ni, ci, Z, hix.le (h31.t h32|>.t h33), hux, hnl⟩⟩⟩, (by simp only; omega)⟩
   refine JB_bs Z trivial [(_, _)] [_, _, _, _] Z Z Z Z Z Z Z Z Z ?_
   intro βn s34 h34 hcb
   refine JA_1 1 V <| JB_q Z trivial (Wd 1 Y5) Z <| JA_1 8 V <| JB_app (sz := 4) Z (by exact trivial) [_, _, _, _, _] Mo L Z Z Z Z Z Z Z hO (Row.of_cells (hcb.le (Lr D)) Z Z) ⟨by simp [ti80]; omega, by omega⟩ Z (fun A2 x hx _ => memK1 hx) ?_
   intro vq Mq s35 h35 oq
   obtain ⟨Avq, cvq, rfl, _, _⟩ := Own.slice oq
   simp only [c9, n9]
   refine za 9 Z (QE_fa0 Z Z Z Z) Z <| JA_1 10 V <| Wu Z trivial 1 [_, _] Y9 (fun _ hx => sub_mem (sbY (sb0 _)) hx) <| JA_done V <| Zb <| Zt <| Zr <| Zqm Z Z <| Zqadd Z Z Z (w64 O O) <| Zqa Z Z <| Zn <| ?_
   refine thenQ_n ⟨(k + 1, .slice Avq ((keepB G1 (p.globals.take k)).length + 1) cvq, Mq), [], kp, Z, ⟨(I28.1.t h31|>.t h34|>.t h35), ⟨by simp only; omega, css ++ [[.int .i64 x.kind, St x.name, .int .u32 x.num, .slice Ai ni ci]], by simp only [List.flatten_append, List.flatten_cons, List.flatten_nil, List.append_nil]; rw [keepB_take hx, if_pos hgt, List.length_append]; exact oq, by simp only; rw [keepB_take hx, if_pos hgt]; exact all2_snoc' (hA2.mono fun _ _ k => ⟨k.1, k.2.le (h31.t h34|>.t h35)⟩) ⟨Z, Ai, ni, ci, Z, hix.le (h31.t h34|>.t h35), hux, hnl⟩⟩⟩, (by simp only; omega)⟩
  have hgt := c30
  refine Zk <| Zb <| Zt <| Zr <| Zqm Z Z <| Zqadd Z Z Z (w64 O O) <| Zqa Z Z <| Zn <| ?_
  refine thenQ_n ⟨(k + 1, _, Mo), [], kp, Z, ⟨I28.1, ⟨by simp only; omega, css, by simp only; rw [keepB_take hx, if_neg (by rw [hgt]; decide), List.append_nil]; exact hO, by simp only; rw [keepB_take hx, if_neg (by rw [hgt]; decide), List.append_nil]; exact hA2.mono fun _ _ k => ⟨k.1, k.2.le (Lr D)⟩⟩⟩, (by simp only; omega)⟩
 obtain rfl : ng = k := by omega
 rw [List.take_of_length_le O] at hO hA2 ⊢
 refine Zl <| Zv <| Zv <| Zd <| Zt <| Zs <| Zs <| JC_pubX [_, _, _, _, _] Mo _ ?_
 intro s36 h36 hpub36
 simp only [c9, n9]
 have hGN : Glos s36 Ao (keepB G1 p.globals).length co (keepB G1 p.globals) := Own.rows hO hpub36 (hA2.mono fun _ _ k => ⟨k.1, k.2.le h36⟩) rfl
 obtain ⟨Go, hGo⟩ : ∃ Go, Go = Ao := ⟨_, rfl⟩
 obtain ⟨mg2, hmg2⟩ : ∃ m, m = (keepB G1 p.globals).length := ⟨_, rfl⟩
 obtain ⟨eg2, heg2⟩ : ∃ eg, eg = co := ⟨_, rfl⟩
 rw [← hGo, ← hmg2, ← heg2] at hGN ⊢
 clear hGo hmg2 heg2 hO hA2
 refine Zr <| At Z Z <| Zp <| ?_
 refine JC_loop (γ := Nat × Value × Hl) (fun g => [(1, _), (2, _), (3, _), (12, _), (14, .int .i64 (g.1 : Int))]) (fun g => _ :: (β27, cb [.slice Go mg2 eg2, g.2.1] 25) :: _ :: _ :: _ :: (g.2.2 ++ L)) (fun g tw => Le D s36 tw ∧ (g.1 ≤ nf ∧ ∃ css, FL.Own 55 4 g.2.2 g.2.1 (keepB R0 (p.funcs.take g.1)).length (List.flatten css) ∧ All2 (fun x cs => cs.length = 4 ∧ FnR d tw x cs) (keepB R0 (p.funcs.take g.1)) css)) (fun g => nf - g.1) (fun _ _ _ h hl => ⟨h.1.trans hl, ⟨h.2.1, by obtain ⟨css, q1, q2⟩ := h.2.2; exact ⟨css, q1, q2.mono fun _ _ k => ⟨k.1, k.2.le hl⟩⟩⟩⟩) (0, .slice none 0 0, []) (.cons Z (.cons Z (.cons Z (.cons Z (.cons Z (.nil _)))))) Z ⟨Le.refl _, ⟨Nat.zero_le _, [], by cases R0 <;> exact FL.Own.nil, by cases R0 <;> exact .nil⟩⟩ ?_
 intro g s37 I37
 obtain ⟨k, vo, Mo⟩ := g
 obtain ⟨hk0, css, hO, hA2⟩ := I37.2
 simp only at hk0 hO hA2
 dsimp only
 obtain ⟨Ao, co, rfl, _, _⟩ := Own.slice hO
 have hkl := keepB_le R0 (p.funcs.take k)
 rw [List.length_take] at hkl
 refine Zs <| Sr <| Zqm Z Z <| Wb Y5 <| Wl 0 Y6 <| Ws Y4 <| Zqlt Z Z Z <| Nt <| ?_
 refine JC_ifD Z (fun c38 => ?_) (fun c38 => ?_)
 ·
  have hk : k < nf := by omega
  obtain ⟨b, off, x, B1, m1, d1, B2, m2, d2, B3, m3, d3, rfl, hx, hcx, hpx, hlx, hbx, hnl⟩ := Fncs.at_ (hFn.le (h1.t h2|>.t h3|>.t h4|>.t I6.1|>.t h17|>.t I18.1|>.t h27|>.t I28.1|>.t h36|>.t I37.1)) hk
  have hkF : k < R0.length := by omega
  refine Zk <| Zt <| Zs <| Zp <| Sr <| Zqm Z Z <| Zqm Z Z <| JO_q (QE_ia1 Z Z Z Z Z Z hk) Z <| JO_q (QE_ld1 3 Z Z Z Z (nth_b hkF)) Z <| Nt <| ?_
  refine JC_if Z (fun c39 => ?_) (fun c39 => ?_)
  ·
   have hgt := c39
   refine JC_drawT drawsMixed 11 Z 1 ?_
   intro s40 h40
   refine za 0 Z (We Y4) Z <| za 2 Z (We Y4) Z <| za 3 Z (Wd 0 Y5) Z <| za 4 Z (QE_mv Z) Z <| za 5 Z (QE_iaN Z Z Z Z Z Z hk) Z <| za 6 Z (QE_ldsA Z Z Z (hcx.le h40) Z) Z ?_
   refine JA_2 1 7 V ?_ ?_
   ·
    refine JB_q Z trivial (Wd 1 Y5) Z <| JA_1 7 V <| JB_bs Z trivial [(_, _)] [_, _, _, _] Z Z Z Z Z Z Z Z Z ?_
    intro βn s41 h41 hcb
    refine JA_1 8 V <| JB_app (sz := 4) Z (by exact trivial) [_, _, _, _, _] Mo L Z Z Z Z Z Z Z hO (Row.of_cells (hcb.le (Lr D)) Z Z) ⟨by simp [ti55]; omega, by omega⟩ Z (fun A2 x hx _ => memK1 hx) ?_
    intro vq Mq s42 h42 oq
    obtain ⟨Avq, cvq, rfl, _, _⟩ := Own.slice oq
    simp only [c9, n9]
    refine za 9 Z (We Y4) Z <| JA_1 10 V <| Wu Z trivial 1 [_, _] Y9 (fun _ hx => sub_mem (sbY (sb0 _)) hx) <| JA_done V <| Zb <| Zt <| Zr <| Zqm Z Z <| Zqadd Z Z Z (w64 O O) <| Zqa Z Z <| Zn <| ?_
    refine thenQ_n ⟨(k + 1, .slice Avq ((keepB R0 (p.funcs.take k)).length + 1) cvq, Mq), [], kp, Z, ⟨(I37.1.t h40|>.t h41|>.t h42), ⟨by simp only; omega, css ++ [[St x.name, .slice B1 m1 d1, .slice B2 m2 d2, .slice B3 m3 d3]], by simp only [List.flatten_append, List.flatten_cons, List.flatten_nil, List.append_nil]; rw [keepB_take hx, if_pos hgt, List.length_append]; exact oq, by simp only; rw [keepB_take hx, if_pos hgt]; exact all2_snoc' (hA2.mono fun _ _ k => ⟨k.1, k.2.le (h40.t h41|>.t h42)⟩) ⟨Z, B1, m1, d1, B2, m2, d2, B3, m3, d3, Z, hpx.le (h40.t h41|>.t h42), hlx.le (h40.t h41|>.t h42), hbx.le (h40.t h41|>.t h42), hnl⟩⟩⟩, (by simp only; omega)⟩
   refine JB_bs Z trivial [(_, _)] [_, _, _, _] Z Z Z Z Z Z Z Z Z ?_
   intro βn s43 h43 hcb
   refine JA_1 1 V <| JB_q Z trivial (Wd 1 Y5) Z <| JA_1 8 V <| JB_app (sz := 4) Z (by exact trivial) [_, _, _, _, _] Mo L Z Z Z Z Z Z Z hO (Row.of_cells (hcb.le (Lr D)) Z Z) ⟨by simp [ti55]; omega, by omega⟩ Z (fun A2 x hx _ => memK1 hx) ?_
   intro vq Mq s44 h44 oq
   obtain ⟨Avq, cvq, rfl, _, _⟩ := Own.slice oq
   simp only [c9, n9]
   refine za 9 Z (We Y4) Z <| JA_1 10 V <| Wu Z trivial 1 [_, _] Y9 (fun _ hx => sub_mem (sbY (sb0 _)) hx) <| JA_done V <| Zb <| Zt <| Zr <| Zqm Z Z <| Zqadd Z Z Z (w64 O O) <| Zqa Z Z <| Zn <| ?_
   refine thenQ_n ⟨(k + 1, .slice Avq ((keepB R0 (p.funcs.take k)).length + 1) cvq, Mq), [], kp, Z, ⟨(I37.1.t h40|>.t h43|>.t h44), ⟨by simp only; omega, css ++ [[St x.name, .slice B1 m1 d1, .slice B2 m2 d2, .slice B3 m3 d3]], by simp only [List.flatten_append, List.flatten_cons, List.flatten_nil, List.append_nil]; rw [keepB_take hx, if_pos hgt, List.length_append]; exact oq, by simp only; rw [keepB_take hx, if_pos hgt]; exact all2_snoc' (hA2.mono fun _ _ k => ⟨k.1, k.2.le (h40.t h43|>.t h44)⟩) ⟨Z, B1, m1, d1, B2, m2, d2, B3, m3, d3, Z, hpx.le (h40.t h43|>.t h44), hlx.le (h40.t h43|>.t h44), hbx.le (h40.t h43|>.t h44), hnl⟩⟩⟩, (by simp only; omega)⟩
  have hgt := c39
  refine Zk <| Zb <| Zt <| Zr <| Zqm Z Z <| Zqadd Z Z Z (w64 O O) <| Zqa Z Z <| Zn <| ?_
  refine thenQ_n ⟨(k + 1, _, Mo), [], kp, Z, ⟨I37.1, ⟨by simp only; omega, css, by simp only; rw [keepB_take hx, if_neg (by rw [hgt]; decide), List.append_nil]; exact hO, by simp only; rw [keepB_take hx, if_neg (by rw [hgt]; decide), List.append_nil]; exact hA2.mono fun _ _ k => ⟨k.1, k.2.le (Lr D)⟩⟩⟩, (by simp only; omega)⟩
 obtain rfl : nf = k := by omega
 rw [List.take_of_length_le O] at hO hA2 ⊢
 refine Zl <| Zv <| Zv <| Zd <| Zt <| Sr <| JO_q (QE_ldA 1 [_, _] Z Z Z Z Z) Z <| Wt 4 [_, _] Y9 <| Nt <| Zo <| ?_
 refine retQ_mk [_, _, _, _, _] _ (.inr Z) (.agg (us := [_, _]) 4 Z Z Z Z Z (.nil)) Z (h1.t h2|>.t h3|>.t h4|>.t I6.1|>.t h17|>.t I18.1|>.t h27|>.t I28.1|>.t h36|>.t I37.1) (fun sR hS2 => ?_)
 exact ⟨Mo, rfl, fun s2 hs2 hp => ⟨⟨keepB G1 p.globals, keepB R0 p.funcs⟩, .inr ⟨h0, R0, G1, hMk, rfl⟩, _, _, _, _, _, _, rfl, hGN.le (I37.1.t (hS2.t hs2)), Own.rows hO hp (hA2.mono fun _ _ k => ⟨k.1, k.2.le ((Lr D).t (hS2.t hs2))⟩) rfl⟩⟩
theorem trimR_one {p q r : Prg} (h : TrimR p q) (h' : TrimR p r) : q = r := by
  rcases h with ⟨h1, rfl⟩ | ⟨h1, F, G, hM, rfl⟩ <;> rcases h' with ⟨h2, rfl⟩ | ⟨h2, F2, G2, hM2, rfl⟩
  · rfl
  · exact absurd h2 h1
  · exact absurd h1 h2
  · obtain ⟨rfl, rfl⟩ := marks_one hM hM2; rfl
theorem trimmed_ac (D : Nat) (L : Hl) (s : World) (d : Nat) (p : Prg) (Ag Af : Option Addr) (ng cg nf cf : Nat) (hGl : Glos s Ag ng cg p.globals) (hFn : Fncs d s Af nf cf p.funcs) (h0 : (chkF p).1 = 0) : AC Tryz.prog D 20 [.agg #[.slice Ag ng cg, .slice Af nf cf]] L s fun v L' s' => L = L' ∧ ∃ q, TrimR p q ∧ ∃ Bg mg eg Bf mf ef, v = .agg #[.slice Bg mg eg, .slice Bf mf ef] ∧ Glos s' Bg mg eg q.globals ∧ Fncs d s' Bf mf ef q.funcs := AC.pubW (trimmedO_ac D L s d p Ag Af ng cg nf cf hGl hFn h0)
theorem lawTrim_ac (D : Nat) (L : Hl) (s : World) (hG : GP s) (d : Nat) (p : Prg) (Ag Af : Option Addr) (ng cg nf cf : Nat) (hGl : Glos s Ag ng cg p.globals) (hFn : Fncs d s Af nf cf p.funcs) : AC Tryz.prog D 5 [.agg #[.slice Ag ng cg, .slice Af nf cf]] L s fun v L' _ => v = .bool true ∧ L = L' := by
 have hn1 := hGl.1
 have hn2 := hFn.1
 have hU : prU p := ⟨hGl.u, hFn.u⟩
 refine AC_enter (TT := TT) (fn := Tryz.f5) TT_ok Tryz.func5 V Z Tryz.ntmps5 Z (rs := [.tmp 2]) Z [(0, _)] Z <| Sr <| JO_boxA Z Z ?_
 intro β1 s1 h1
 refine At Z Z <| Sr <| JO_q (QE_ldA 0 [_, _] Z Z Z Z Z) Z <| Jc Z Z Z (trim_ac D _ _ (hG.le h1) d p Ag Af ng cg nf cf (hGl.le h1) (hFn.le h1)) ?_
 rintro _ _ s2 h2 ⟨rfl, qt, hTq, Xg, kXg, jXg, Xf, kXf, jXf, rfl, hXg, hXf⟩
 refine Zqm Z Z <| Zqx Z Z Z <| Zqx Z Z Z <| JO_allocZ Z [_, _] Z Z ?_
 intro β3 s3 h3
 refine JO_allocZ Z [_, _] Z Z ?_
 intro β4 s4 h4
 refine Wt 1 [_, _] Y9 <| Wt 0 [_, _] Y9 <| Nt <| Sr <| JO_q (QE_ldA 2 [_, _] Z Z Z Z Z) Z <| Jc Z Z Z (rchk_ac D _ _ d p Ag Af ng cg nf cf (hGl.le (h1.t h2|>.t h3|>.t h4)) (hFn.le (h1.t h2|>.t h3|>.t h4))) ?_
 rintro _ _ s5 h5 ⟨rfl, rfl⟩
 refine JO_allocZ Z [_, _] Z Z ?_
 intro β6 s6 h6
 refine Wt 0 [_, _] Y9 <| Nt <| Zs <| Sr <| Jc Z Z Z (checked_ac D _ _ (hG.le (h1.t h2|>.t h3|>.t h4|>.t h5|>.t h6))) ?_
 rintro _ _ s7 h7 ⟨rfl, rfl⟩
 refine ZqnT Z Z <| Zqm Z Z <| Zg Z Z <| JO_q (QE_ldA 1 [_, _] Z Z Z Z Z) Z <| Zg Z Z <| JO_q (QE_ldA 0 [_, _] Z Z Z Z Z) Z <| Zg Z Z <| JO_q (QE_cast (v' := .bool false) (QE_ane Z Z (eqFault _ _ _ _)) (bF ⟨Z, Z⟩)) Z <| ZqF Z Z Z <| Nt <| Zz Z <| Zk <| Zt <| Sr <| JO_q (QE_build [] [_, _] Z Z Z Z Z Z) Z <| JO_allocZ Z [_, _] Z Z ?_
 intro β8 s8 h8
 refine Wt 0 [_, _] Y9 <| Nt <| Zs <| Sr <| W0 Y5 <| Wl 1 Y6 <| Zqeq Z Z Z <| Nt <| ?_
 refine JC_ifD Z (fun c9 => ?_) (fun c9 => ?_)
 ·
  have g24 : (chkF p).1 = 0 := c9
  refine Zr <| JO_q (QE_ldA 4 [_, _] Z Z Z Z Z) Z <| Jc Z Z Z (trimmed_ac D _ _ d p Ag Af ng cg nf cf (hGl.le (h1.t h2|>.t h3|>.t h4|>.t h5|>.t h6|>.t h7|>.t h8)) (hFn.le (h1.t h2|>.t h3|>.t h4|>.t h5|>.t h6|>.t h7|>.t h8)) g24) ?_
  rintro _ _ s10 h10 ⟨rfl, rt, hTr, Eg, kEg, jEg, Ef, kEf, jEf, rfl, hEg, hEf⟩
  rw [trimR_one hTr hTq] at hEg hEf
  refine Wt 0 [_, _] Y9 <| Nt <| Sr <| JO_q (QE_ldA 3 [_, _] Z Z Z Z Z) Z <| JO_q (QE_ldA 0 [_, _] Z Z Z Z Z) Z <| Jc Z Z Z (sameP_ac D _ _ d qt _ _ _ _ _ _ (hXg.le (h3.t h4|>.t h5|>.t h6|>.t h7|>.t h8|>.t h10)) (hXf.le (h3.t h4|>.t h5|>.t h6|>.t h7|>.t h8|>.t h10)) d _ _ _ _ _ _ (hEg.le (Lr D)) (hEf.le (Lr D))) ?_
  rintro _ _ s11 h11 ⟨rfl, rfl⟩
  refine At Z Z <| Zo <| ?_
  refine retQ_mk [_, _, _, _, _] L (.inr Z) (.tmp Z (.nil)) Z (h1.t h2|>.t h3|>.t h4|>.t h5|>.t h6|>.t h7|>.t h8|>.t h10|>.t h11) (fun sR hS2 => ?_)
  exact ⟨rfl, rfl⟩
 have hq : qt = ⟨[], []⟩ := by
   rcases hTq with ⟨_, hq⟩ | ⟨h0, _⟩
   · exact hq
   · exact absurd h0 c9
 rw [hq] at hXg hXf
 refine Zk <| Zt <| Sr <| JO_q (QE_ldA 3 [_, _] Z Z Z Z Z) Z <| JO_q (QE_ldA 0 [_, _] Z Z Z Z Z) Z <| Jc Z Z Z (sameP_ac D _ _ d ⟨[], []⟩ _ _ _ _ _ _ (hXg.le (h3.t h4|>.t h5|>.t h6|>.t h7|>.t h8)) (hXf.le (h3.t h4|>.t h5|>.t h6|>.t h7|>.t h8)) d none none 0 0 0 0 (glos_nil _) (fncs_nil d _)) ?_
 rintro _ _ s12 h12 ⟨rfl, rfl⟩
 refine At Z Z <| Zo <| ?_
 refine retQ_mk [_, _, _, _, _] L (.inr Z) (.tmp Z (.nil)) Z (h1.t h2|>.t h3|>.t h4|>.t h5|>.t h6|>.t h7|>.t h8|>.t h12) (fun sR hS2 => ?_)
 exact ⟨rfl, rfl⟩
end Go.Proofs.YtacajpepkfinoaaGreatDoor
namespace Go.Proofs.YtacajpepkfinoaaGreatDoor
open Go Go.FL Go.ChangeShapes Go.WideShapes Go.ChangeAt Go.RowKit Go.Deep
theorem own_knob : ownKnob Tryz.prog.godebug = none := by kernel_rfl
theorem laid_out : laidOutB Tryz.prog = true := by kernel_rfl
theorem mark_free (l : List Obj) : ∃ D, ∀ E, D ≤ E → ∀ o ∈ l, o ≠ dum E := by
  induction l with
  | nil => exact ⟨0, fun _ _ _ h => by cases h⟩
  | cons x l ih =>
    obtain ⟨D, hD⟩ := ih
    have hx : ∃ B, ∀ E, B ≤ E → x ≠ dum E := by
      cases x with
      | mapIter a n b c => exact ⟨n + 1, fun E hE h => by simp only [dum, Obj.mapIter.injEq] at h; omega⟩
      | _ => exact ⟨0, fun E _ h => by simp [dum] at h⟩
    obtain ⟨B, hB⟩ := hx
    refine ⟨max D B, fun E hE o ho => ?_⟩
    rcases List.mem_cons.1 ho with rfl | ho
    · exact hB E O
    · exact hD E O o ho
theorem mark_world (W : World) : ∃ D, ∀ k : Nat, W.heap[k]? ≠ some (dum D) := by
  obtain ⟨D, hD⟩ := mark_free W.heap.toList
  refine ⟨D, fun k hk => hD D (Nat.le_refl _) (dum D) ?_ Z⟩
  rw [← Array.getElem?_toList] at hk
  exact List.mem_of_getElem? hk
theorem below_of {D : Nat} {W W' : World} (hD : ∀ k : Nat, W.heap[k]? ≠ some (dum D)) (h : Le D W W') : Below W.heap.size W W' :=
  ⟨h.os, h.tape, h.output, h.size, fun k hk => (h.block k hk).resolve_left (hD k)⟩
theorem law_calls {P : Program} {f : FuncId} {args : List Value} {W : World} (h : ∀ D, AC P D f args [] W fun v L' _ => v = .bool true ∧ [] = L') :
    Calls P f args.toArray W fun e W' => e = .returned (.bool true) ∧ Below W.heap.size W W' := by
  obtain ⟨D, hD⟩ := mark_world W
  refine ((h D).2 ⟨by simp, fun x hx => by cases hx⟩).mono ?_
  rintro e w' ⟨v, L', s', h1, rfl, h3, h4, rfl, rfl⟩
  exact ⟨h1, below_of hD h4⟩
section
variable {H : Type} {enc : TypeId × Value → H} {P : Program}
theorem trodAll_stays {W W' : World} (hl : laidOutB P = true) (hb : Below W.heap.size W W') : ∀ {ts : List TypeId} {vs : List Value} {ds : List (DataW H)} {ps : List MemPlace}, (∀ t ∈ ts, P.readableRec t = true ∧ t < P.types.size) → (∀ x ∈ ps, x.block < W.heap.size) →
    DataW.TrodAll enc P W 0 (fun _ => true) true ts vs ds ps → DataW.TrodAll enc P W' 0 (fun b => decide (b < W.heap.size)) true ts vs ds ps
  | [], _, _, _, _, _, h => by
    obtain ⟨rfl, rfl, rfl⟩ := trodAll_nil h
    exact trodAll_mk0
  | t :: ts, _, _, _, hts, hp, h => by
    obtain ⟨v, vs, d, ds, a, b, rfl, rfl, rfl, h1, h2⟩ := trodAll_cons h
    have ht := hts t (List.mem_cons_self ..)
    exact trodAll_cons_mk (Below.trod hl ht.1 ht.2 h1 hb fun x hx => hp x (List.mem_append_left _ hx)) (trodAll_stays hl hb (fun t' h' => hts t' (List.mem_cons_of_mem _ h')) (fun x hx => hp x (List.mem_append_right _ hx)) h2)
theorem law_post {fn : Func} {s : ChangeSpec} {W W' : World} {args : Array Value} {ds gs : List (DataW H)} {before : List MemPlace} {tb : TypeId} (hl : laidOutB P = true) (hts : ∀ t ∈ fn.params.toList, P.readableRec t = true ∧ t < P.types.size) (hr : fn.resultTypes = #[tb]) (hb : P.underlying tb = some .bool)
    (hv : s.vars = []) (hW : DataW.Whole enc P fn.params.toList s.vars false W args.toList ds gs before) (hfn : s.fn H ds = { results := [.lit (.bool true)], args := ds }) (hB : Below W.heap.size W W') : s.post enc P fn false true false false W args (.bool true) W' := by
  have hlt : ∀ x ∈ before, x.block < W.heap.size := fun x hx => hW.lt x hx
  have hW' := hW
  obtain ⟨p, q, hA, hV, rfl, _, _⟩ := hW
  rw [hv] at hV
  obtain ⟨rfl, rfl⟩ := trodVars_none hV
  refine ⟨ds, [], p ++ [], [], p, [], hW', ?_, ?_, ?_, hB.frame _, fun h => by cases h⟩
  · rw [List.append_nil, hfn, hr]; exact trodAll_cons_mk (shut_bool hb _) trodAll_mk0
  · rw [List.append_nil, hfn]; exact trodAll_stays hl hB hts (fun x hx => hlt x (List.mem_append_left _ hx)) hA
  · rw [List.append_nil, hfn, hv]; rfl
end
def Rd (W : World) (t : TypeId) (cs : List Value) : Prop := ∃ (H : Type) (enc : TypeId × Value → H) (n : Nat) (x : DataW H × List MemPlace), DataW.trod enc Tryz.prog W 0 (fun _ => true) true n t cs = some x
section
variable {W : World} {t e : TypeId} {cs : List Value}
theorem rd_int {k : IntKind} (ht : Tryz.prog.underlying t = some (.int k)) (h : Rd W t cs) : ∃ n, cs = [.int k n] ∧ (Lit.int k n).wf = true := by
  obtain ⟨H, enc, n, x, h⟩ := h
  obtain ⟨i, h1, _, h2⟩ := DataW.trod_int ht h
  exact ⟨i, h1, h2⟩
theorem rd_str (ht : Tryz.prog.underlying t = some .string) (h : Rd W t cs) : ∃ l : List UInt8, cs = [St l] ∧ l.length ≤ 9223372036854775807 := by
  obtain ⟨H, enc, n, x, h⟩ := h
  obtain ⟨s, h1, _, h2⟩ := DataW.trod_string ht h
  refine ⟨s.data.toList, by rw [h1], ?_⟩
  have : s.data.toList.length = s.size := by rw [Array.length_toList]; rfl
  simp only [maxLen] at h2
  omega
theorem rd_field {fs : Array Field} (ht : Tryz.prog.underlying t = some (.struct fs)) (h : Rd W t cs) {sz : Nat} (hc : Tryz.prog.cellsOf t = sz) : cs.length = sz ∧ ∀ (i : Nat) (f : Field), fs[i]? = some f → ∀ (ty off n : Nat), f.type = ty → f.offset = off → Tryz.prog.cellsOf ty = n → Rd W ty ((cs.drop off).take n) := by
  obtain ⟨H, enc, n, x, h⟩ := h
  obtain ⟨xs, m, _, _, h1, h2, h3⟩ := DataW.trod_struct ht h
  refine ⟨h1.trans hc, fun i f hf ty off k e1 e2 e3 => ?_⟩
  have hi : i < xs.length := by rw [h2]; exact (Array.getElem?_eq_some_iff.1 hf).1
  have := h3 i f hf
  rw [List.getElem?_eq_getElem hi, e1, e2, e3] at this
  exact ⟨H, enc, m, _, this⟩
theorem rd_slice {sz : Nat} (ht : Tryz.prog.underlying t = some (.slice e)) (hc : Tryz.prog.cellsOf e = sz) (hp : 0 < sz) (h : Rd W t cs) : ∃ A n c, cs = [.slice A n c] ∧ n ≤ c ∧ c ≤ 9223372036854775807 ∧
    ∀ i, i < n → ∃ b off ds, A = some ⟨b, off, none⟩ ∧ CellsAt W b (off + i * sz) ds ∧ ds.length = sz ∧ Rd W e ds := by
  obtain ⟨H, enc, q, x, h⟩ := h
  rcases open_slice ht h with ⟨rfl, _⟩ | ⟨a, len, cap, m, k, D, Pl, rfl, _, h1, h2, h3, _, h4⟩
  · exact ⟨none, 0, 0, rfl, Nat.le_refl _, by omega, fun i hi => by omega⟩
  · simp only [maxLen] at h2
    refine ⟨some a, len, cap, Z, h1, by omega, fun i hi => ?_⟩
    obtain ⟨ds, k1, k2⟩ := h4 i (by simp at h3; omega)
    rw [hc] at k1
    obtain ⟨_, k3, k4⟩ := World.cells?_some k1
    obtain ⟨b, off, spot⟩ := a
    have hs : spot = none := by
      obtain ⟨ds0, j1, _⟩ := h4 0 (by simp at h3; omega)
      rw [hc, Nat.zero_mul] at j1
      obtain ⟨_, j3, j4⟩ := World.cells?_some j1
      have := j4 0 hp
      rw [List.getElem?_eq_getElem O] at this
      simpa [Addr.add] using World.cell?_spot this
    subst hs
    refine ⟨b, off, ds, Z, fun j v hj => ?_, k3, H, enc, k, _, k2⟩
    have hl : j < sz := by rw [← k3]; exact (List.getElem?_eq_some_iff.1 hj).1
    have := k4 j hl
    rw [hj, add_lit, add_lit] at this
    exact this
theorem sl_of {α : Type} [Inhabited α] {R : World → α → List Value → Prop} {sz : Nat} (ht : Tryz.prog.underlying t = some (.slice e)) (hc : Tryz.prog.cellsOf e = sz) (hp : 0 < sz) (h : Rd W t cs) (hel : ∀ ds, Rd W e ds → ∃ x : α, R W x ds) : ∃ A n c l, cs = [.slice A n c] ∧ Sl sz R W A n c l := by
  obtain ⟨A, n, c, h1, h2, h3, h4⟩ := rd_slice ht hc hp h
  obtain ⟨f, hf⟩ := choose_lt (α := α) (p := fun i x => ∃ b off ds, A = some ⟨b, off, none⟩ ∧ CellsAt W b (off + i * sz) ds ∧ ds.length = sz ∧ R W x ds) (n := n) (fun i hi => by
    obtain ⟨b, off, ds, k1, k2, k3, k4⟩ := h4 i hi
    obtain ⟨x, hx⟩ := hel ds k4
    exact ⟨x, b, off, ds, k1, k2, k3, hx⟩)
  refine ⟨A, n, c, (List.range n).map f, h1, by simp, h2, h3, fun i x hi => ?_⟩
  rw [List.getElem?_map] at hi
  cases hr : (List.range n)[i]? with
  | none => simp [hr] at hi
  | some j =>
    simp [hr] at hi
    obtain ⟨hi1, hi2⟩ := List.getElem?_eq_some_iff.1 hr
    simp at hi1 hi2
    subst hi2; subst hi
    exact hf i hi1
theorem len2 {l : List Value} (h : l.length = 2) : ∃ a b, l = [a, b] := by match l, h with | [a, b], _ => exact ⟨a, b, rfl⟩
theorem len4 {l : List Value} (h : l.length = 4) : ∃ a b c d, l = [a, b, c, d] := by match l, h with | [a, b, c, d], _ => exact ⟨a, b, c, d, rfl⟩
theorem one_eq {a b : Value} (h : [a] = [b]) : a = b := by injection h
theorem u32_wf {n : Int} (h : (Lit.int .u32 n).wf = true) : U32 n := by have := bounds_u32 h; exact ⟨by omega, by omega⟩
end
set_option maxRecDepth 100000
instance : Inhabited Ex := ⟨.mk 0 0 0 [] []⟩
instance : Inhabited Stm := ⟨.mk 0 [] [] [] []⟩
instance : Inhabited Fnc := ⟨⟨[], [], [], []⟩⟩
instance : Inhabited Glo := ⟨⟨0, [], 0, []⟩⟩
theorem c_int : Tryz.prog.cellsOf 3 = 1 := by kernel_rfl
theorem c_u32 : Tryz.prog.cellsOf 56 = 1 := by kernel_rfl
theorem c_str : Tryz.prog.cellsOf 9 = 1 := by kernel_rfl
theorem c_strs : Tryz.prog.cellsOf 52 = 1 := by kernel_rfl
theorem c_words : Tryz.prog.cellsOf 78 = 1 := by kernel_rfl
theorem c_ex : Tryz.prog.cellsOf 61 = 5 := by kernel_rfl
theorem c_exs : Tryz.prog.cellsOf 59 = 1 := by kernel_rfl
theorem c_st : Tryz.prog.cellsOf 65 = 5 := by kernel_rfl
theorem c_sts : Tryz.prog.cellsOf 53 = 1 := by kernel_rfl
theorem c_fn : Tryz.prog.cellsOf 55 = 4 := by kernel_rfl
theorem c_fns : Tryz.prog.cellsOf 23 = 1 := by kernel_rfl
theorem c_gl : Tryz.prog.cellsOf 80 = 4 := by kernel_rfl
theorem c_gls : Tryz.prog.cellsOf 22 = 1 := by kernel_rfl
theorem c_prg : Tryz.prog.cellsOf 25 = 2 := by kernel_rfl
theorem len5 {l : List Value} (h : l.length = 5) : ∃ a b c d e, l = [a, b, c, d, e] := by match l, h with | [a, b, c, d, e], _ => exact ⟨a, b, c, d, e, rfl⟩
def RdN (n : Nat) (W : World) (t : TypeId) (cs : List Value) : Prop := ∃ (H : Type) (enc : TypeId × Value → H) (x : DataW H × List MemPlace), DataW.trod enc Tryz.prog W 0 (fun _ => true) true n t cs = some x
section
variable {W : World} {t e : TypeId} {cs : List Value}
theorem RdN.rd {n : Nat} (h : RdN n W t cs) : Rd W t cs := by
  obtain ⟨H, enc, x, h⟩ := h
  exact ⟨H, enc, n, x, h⟩
theorem rdn_field {n : Nat} {fs : Array Field} (ht : Tryz.prog.underlying t = some (.struct fs)) (h : RdN n W t cs) {sz : Nat} (hc : Tryz.prog.cellsOf t = sz) : cs.length = sz ∧ ∃ m, n = m + 1 ∧ ∀ (i : Nat) (f : Field), fs[i]? = some f → ∀ (ty off k : Nat), f.type = ty → f.offset = off → Tryz.prog.cellsOf ty = k → RdN m W ty ((cs.drop off).take k) := by
  obtain ⟨H, enc, x, h⟩ := h
  obtain ⟨xs, m, hm, _, h1, h2, h3⟩ := DataW.trod_struct ht h
  refine ⟨h1.trans hc, m, hm, fun i f hf ty off k e1 e2 e3 => ?_⟩
  have hi : i < xs.length := by rw [h2]; exact (Array.getElem?_eq_some_iff.1 hf).1
  have := h3 i f hf
  rw [List.getElem?_eq_getElem hi, e1, e2, e3] at this
  exact ⟨H, enc, _, this⟩
theorem rdn_slice {n sz : Nat} (ht : Tryz.prog.underlying t = some (.slice e)) (hc : Tryz.prog.cellsOf e = sz) (hp : 0 < sz) (h : RdN n W t cs) : ∃ A m c, cs = [.slice A m c] ∧ m ≤ c ∧ c ≤ 9223372036854775807 ∧
    ∀ i, i < m → ∃ b off ds q, A = some ⟨b, off, none⟩ ∧ CellsAt W b (off + i * sz) ds ∧ ds.length = sz ∧ n = q + 1 ∧ RdN q W e ds := by
  obtain ⟨H, enc, x, h⟩ := h
  rcases DataW.trod_slice ht h with ⟨rfl, _⟩ | ⟨a, len, cap, elems, rest, q, hq, rfl, _, _, h1, h2, hlen, hel, _, _⟩
  · exact ⟨none, 0, 0, rfl, Nat.le_refl _, by omega, fun i hi => by omega⟩
  · simp only [maxLen] at h2
    have h4 : ∀ i, i < len → ∃ ds x, W.cells? 0 (a.add (i * sz)) sz = some ds ∧ DataW.trod enc Tryz.prog W 0 (fun _ => true) true q e ds = some x := by
      intro i hi
      have := hel i hi
      rw [List.getElem?_eq_getElem O, hc] at this
      obtain ⟨ds, k1, k2⟩ := Option.bind_eq_some_iff.1 this
      exact ⟨ds, _, k1, k2⟩
    refine ⟨some a, len, cap, Z, h1, by omega, fun i hi => ?_⟩
    obtain ⟨ds, y, k1, k2⟩ := h4 i hi
    obtain ⟨_, k3, k4⟩ := World.cells?_some k1
    obtain ⟨b, off, spot⟩ := a
    have hs : spot = none := by
      obtain ⟨ds0, _, j1, _⟩ := h4 0 O
      rw [Nat.zero_mul] at j1
      obtain ⟨_, j3, j4⟩ := World.cells?_some j1
      have := j4 0 hp
      rw [List.getElem?_eq_getElem O] at this
      simpa [Addr.add] using World.cell?_spot this
    subst hs
    refine ⟨b, off, ds, q, Z, fun j v hj => ?_, k3, hq, H, enc, _, k2⟩
    have hl : j < sz := by rw [← k3]; exact (List.getElem?_eq_some_iff.1 hj).1
    have := k4 j hl
    rw [hj, add_lit, add_lit] at this
    exact this
theorem sln_of {α : Type} [Inhabited α] {R : World → α → List Value → Prop} {n sz : Nat} (ht : Tryz.prog.underlying t = some (.slice e)) (hc : Tryz.prog.cellsOf e = sz) (hp : 0 < sz) (h : RdN n W t cs) (hel : ∀ q, n = q + 1 → ∀ ds, RdN q W e ds → ∃ x : α, R W x ds) : ∃ A m c l, cs = [.slice A m c] ∧ Sl sz R W A m c l := by
  obtain ⟨A, m, c, h1, h2, h3, h4⟩ := rdn_slice ht hc hp h
  obtain ⟨f, hf⟩ := choose_lt (α := α) (p := fun i x => ∃ b off ds, A = some ⟨b, off, none⟩ ∧ CellsAt W b (off + i * sz) ds ∧ ds.length = sz ∧ R W x ds) (n := m) (fun i hi => by
    obtain ⟨b, off, ds, q, k1, k2, k3, k5, k4⟩ := h4 i hi
    obtain ⟨x, hx⟩ := hel q k5 ds k4
    exact ⟨x, b, off, ds, k1, k2, k3, hx⟩)
  refine ⟨A, m, c, (List.range m).map f, h1, by simp, h2, h3, fun i x hi => ?_⟩
  rw [List.getElem?_map] at hi
  cases hr : (List.range m)[i]? with
  | none => simp [hr] at hi
  | some j =>
    simp [hr] at hi
    obtain ⟨hi1, hi2⟩ := List.getElem?_eq_some_iff.1 hr
    simp at hi1 hi2
    subst hi2; subst hi
    exact hf i hi1
theorem rd_words (h : Rd W 78 cs) : ∃ A n c l, cs = [.slice A n c] ∧ Wds W A n c l := sl_of Tryz.underlying78 c_u32 (by decide) h fun _ hd => by
  obtain ⟨n, h1, h2⟩ := rd_int Tryz.underlying56 hd
  exact ⟨n, h1, u32_wf h2⟩
theorem rd_strs (h : Rd W 52 cs) : ∃ A n c l, cs = [.slice A n c] ∧ Strs W A n c l :=
  sl_of (α := List UInt8) (R := fun _ x cs => cs = [St x] ∧ x.length ≤ 9223372036854775807) Tryz.underlying52 c_str (by decide) h (fun _ hd => rd_str Tryz.underlying9 hd)
theorem rd_ex (n : Nat) : ∀ cs, RdN n W 61 cs → ∃ x : Ex, ExR n W x cs := by
  refine Nat.strongRecOn n ?_
  intro n ih cs h
  obtain ⟨h1, m, rfl, h2⟩ := rdn_field Tryz.underlying61 h c_ex
  obtain ⟨a, b, c, d, e, rfl⟩ := len5 h1
  obtain ⟨k, e1, _⟩ := rd_int Tryz.underlying3 (h2 0 _ rfl _ _ _ rfl rfl c_int).rd
  obtain ⟨o, e2, _⟩ := rd_int Tryz.underlying3 (h2 1 _ rfl _ _ _ rfl rfl c_int).rd
  obtain ⟨u, e3, w3⟩ := rd_int Tryz.underlying56 (h2 2 _ rfl _ _ _ rfl rfl c_u32).rd
  obtain ⟨w, e4, w4⟩ := rd_str Tryz.underlying9 (h2 3 _ rfl _ _ _ rfl rfl c_str).rd
  obtain ⟨A, p, q, l, e5, w5⟩ := sln_of (R := ExR m) Tryz.underlying59 c_ex (by decide) (h2 4 _ rfl _ _ _ rfl rfl c_exs) fun q hq ds hd => by
    obtain ⟨x, hx⟩ := ih q O ds hd
    exact ⟨x, hx.up O⟩
  have z1 : a = .int .i64 k := one_eq e1
  have z2 : b = .int .i64 o := one_eq e2
  have z3 : c = .int .u32 u := one_eq e3
  have z4 : d = St w := one_eq e4
  have z5 : e = .slice A p q := one_eq e5
  subst z1; subst z2; subst z3; subst z4; subst z5
  exact ⟨.mk k o u w l, A, p, q, rfl, w5, u32_wf w3, w4⟩
theorem rd_exs {n : Nat} (h : RdN n W 59 cs) : ∃ A m c l, cs = [.slice A m c] ∧ Exs n W A m c l :=
  sln_of (R := ExR n) Tryz.underlying59 c_ex (by decide) h fun q hq ds hd => by
    obtain ⟨x, hx⟩ := rd_ex q ds hd
    exact ⟨x, hx.up O⟩
theorem rd_st (n : Nat) : ∀ cs, RdN n W 65 cs → ∃ x : Stm, StR n W x cs := by
  refine Nat.strongRecOn n ?_
  intro n ih cs h
  obtain ⟨h1, m, rfl, h2⟩ := rdn_field Tryz.underlying65 h c_st
  obtain ⟨a, b, c, d, e, rfl⟩ := len5 h1
  have hB : ∀ {cs}, RdN m W 53 cs → ∃ A p q l, cs = [.slice A p q] ∧ Sl 5 (StR m) W A p q l := fun h => sln_of (R := StR m) Tryz.underlying53 c_st (by decide) h fun q hq ds hd => by
    obtain ⟨x, hx⟩ := ih q O ds hd
    exact ⟨x, hx.up O⟩
  obtain ⟨k, e1, _⟩ := rd_int Tryz.underlying3 (h2 0 _ rfl _ _ _ rfl rfl c_int).rd
  obtain ⟨w, e2, w2⟩ := rd_str Tryz.underlying9 (h2 1 _ rfl _ _ _ rfl rfl c_str).rd
  obtain ⟨A1, p1, q1, l1, e3, w3⟩ := rd_exs (h2 2 _ rfl _ _ _ rfl rfl c_exs)
  obtain ⟨A2, p2, q2, l2, e4, w4⟩ := hB (h2 3 _ rfl _ _ _ rfl rfl c_sts)
  obtain ⟨A3, p3, q3, l3, e5, w5⟩ := hB (h2 4 _ rfl _ _ _ rfl rfl c_sts)
  have z1 : a = .int .i64 k := one_eq e1
  have z2 : b = St w := one_eq e2
  have z3 : c = .slice A1 p1 q1 := one_eq e3
  have z4 : d = .slice A2 p2 q2 := one_eq e4
  have z5 : e = .slice A3 p3 q3 := one_eq e5
  subst z1; subst z2; subst z3; subst z4; subst z5
  exact ⟨.mk k w l1 l2 l3, A1, p1, q1, A2, p2, q2, A3, p3, q3, rfl, w3, w4, w5, w2⟩
theorem rd_sts {n : Nat} (h : RdN n W 53 cs) : ∃ A m c l, cs = [.slice A m c] ∧ Stms n W A m c l :=
  sln_of (R := StR n) Tryz.underlying53 c_st (by decide) h fun q hq ds hd => by
    obtain ⟨x, hx⟩ := rd_st q ds hd
    exact ⟨x, hx.up O⟩
theorem FnR.up {d e : Nat} {s : World} {x : Fnc} {cs : List Value} (h : FnR d s x cs) (he : d ≤ e) : FnR e s x cs := by
  obtain ⟨A1, n1, c1, A2, n2, c2, A3, n3, c3, h1, h2, h3, h4, h5⟩ := h
  exact ⟨A1, n1, c1, A2, n2, c2, A3, n3, c3, h1, h2, h3, Stms.up h4 he, h5⟩
theorem rd_fn {n : Nat} {cs : List Value} (h : RdN n W 55 cs) : ∃ x : Fnc, FnR n W x cs := by
  obtain ⟨h1, m, rfl, h2⟩ := rdn_field Tryz.underlying55 h c_fn
  obtain ⟨a, b, c, d, rfl⟩ := len4 h1
  obtain ⟨w, e1, w1⟩ := rd_str Tryz.underlying9 (h2 0 _ rfl _ _ _ rfl rfl c_str).rd
  obtain ⟨A1, p1, q1, l1, e2, w2⟩ := rd_strs (h2 1 _ rfl _ _ _ rfl rfl c_strs).rd
  obtain ⟨A2, p2, q2, l2, e3, w3⟩ := rd_strs (h2 2 _ rfl _ _ _ rfl rfl c_strs).rd
  obtain ⟨A3, p3, q3, l3, e4, w4⟩ := rd_sts (h2 3 _ rfl _ _ _ rfl rfl c_sts)
  have z1 : a = St w := one_eq e1
  have z2 : b = .slice A1 p1 q1 := one_eq e2
  have z3 : c = .slice A2 p2 q2 := one_eq e3
  have z4 : d = .slice A3 p3 q3 := one_eq e4
  subst z1; subst z2; subst z3; subst z4
  exact ⟨⟨w, l1, l2, l3⟩, A1, p1, q1, A2, p2, q2, A3, p3, q3, rfl, w2, w3, Stms.up w4 O, w1⟩
theorem rd_gl {cs : List Value} (h : Rd W 80 cs) : ∃ x : Glo, GlR W x cs := by
  obtain ⟨h1, h2⟩ := rd_field Tryz.underlying80 h c_gl
  obtain ⟨a, b, c, d, rfl⟩ := len4 h1
  obtain ⟨k, e1, _⟩ := rd_int Tryz.underlying3 (h2 0 _ rfl _ _ _ rfl rfl c_int)
  obtain ⟨w, e2, w2⟩ := rd_str Tryz.underlying9 (h2 1 _ rfl _ _ _ rfl rfl c_str)
  obtain ⟨u, e3, w3⟩ := rd_int Tryz.underlying56 (h2 2 _ rfl _ _ _ rfl rfl c_u32)
  obtain ⟨A, p, q, l, e4, w4⟩ := rd_words (h2 3 _ rfl _ _ _ rfl rfl c_words)
  have z1 : a = .int .i64 k := one_eq e1
  have z2 : b = St w := one_eq e2
  have z3 : c = .int .u32 u := one_eq e3
  have z4 : d = .slice A p q := one_eq e4
  subst z1; subst z2; subst z3; subst z4
  exact ⟨⟨k, w, u, l⟩, A, p, q, rfl, w4, u32_wf w3, w2⟩
theorem rd_prg {n : Nat} {cs : List Value} (h : RdN n W 25 cs) : ∃ (p : Prg) (Ag Af : Option Addr) (ng cg nf cf : Nat), cs = [.slice Ag ng cg, .slice Af nf cf] ∧ Glos W Ag ng cg p.globals ∧ Fncs n W Af nf cf p.funcs := by
  obtain ⟨h1, m, rfl, h2⟩ := rdn_field Tryz.underlying25 h c_prg
  obtain ⟨a, b, rfl⟩ := len2 h1
  obtain ⟨Ag, ng, cg, lg, e1, w1⟩ := sl_of (R := GlR) Tryz.underlying22 c_gl (by decide) (h2 0 _ rfl _ _ _ rfl rfl c_gls).rd fun _ hd => rd_gl hd
  obtain ⟨Af, nf, cf, lf, e2, w2⟩ := sln_of (R := FnR (m + 1)) Tryz.underlying23 c_fn (by decide) (h2 1 _ rfl _ _ _ rfl rfl c_fns) fun q hq ds hd => by
    obtain ⟨x, hx⟩ := rd_fn hd
    exact ⟨x, hx.up O⟩
  have z1 : a = .slice Ag ng cg := one_eq e1
  have z2 : b = .slice Af nf cf := one_eq e2
  subst z1; subst z2
  exact ⟨⟨lg, lf⟩, Ag, Af, ng, cg, nf, cf, rfl, w1, w2⟩
end
section
variable {H : Type} {enc : TypeId × Value → H} {W : World} {base : Nat} {v : Value} {d : DataW H} {ps : List MemPlace}
theorem agg_of {t : TypeId} {fs : Array Field} (ht : Tryz.prog.underlying t = some (.struct fs)) (hv : Value.okWide Tryz.prog W .any base t v) : ∃ cs, v = .agg cs := by
  unfold Value.okWide at hv
  rw [ht] at hv
  obtain ⟨cs, h, _⟩ := hv
  exact ⟨cs, h⟩
theorem arg_prg (hv : Value.okWide Tryz.prog W .any base 25 v) (hd : DataW.Trod enc Tryz.prog W 0 (fun _ => true) true 25 v d ps) : ∃ (m : Nat) (p : Prg) (Ag Af : Option Addr) (ng cg nf cf : Nat), v = .agg #[.slice Ag ng cg, .slice Af nf cf] ∧ Glos W Ag ng cg p.globals ∧ Fncs m W Af nf cf p.funcs := by
  obtain ⟨cs, rfl⟩ := agg_of Tryz.underlying25 hv
  obtain ⟨n, h⟩ := hd
  obtain ⟨p, Ag, Af, ng, cg, nf, cf, h1, h2, h3⟩ := rd_prg (n := n) ⟨H, enc, _, h⟩
  refine ⟨n, p, Ag, Af, ng, cg, nf, cf, ?_, h2, h3⟩
  simp only [Value.cells] at h1
  rw [← h1]
end
theorem gw_var {W : World} {nm : String} {g : Nat} {cs : Array Value} (hg : Tryz.prog.globalNamed nm = some g) (h : W.var? Tryz.prog nm = some cs) : ∃ ty fz, W.heap[g]? = some (.cells cs ty fz) := by
  unfold World.var? at h
  rw [hg] at h
  simp only [Option.bind_some] at h
  split at h
  · rename_i c t f hb
    injection h with h
    subst h
    exact ⟨t, f, hb⟩
  · cases h
theorem gp_of {W : World} (h : laidMetH Tryz.prog Rows.checkProgramMatchesSpecRow.laid W) : GP W := by
  rw [MakeChecks.laidMetH_plain _ _ _ V] at h
  have h2 := h.tail.tail
  have hpow := Lib.tabIs_of_head (zs := Lib.pow10Tab) (k := .u64) (g := 2) V V Tryz.underlying231 Tryz.underlying168 V V h2
  have hasc := Lib.tabIs_of_head (zs := Lib.asciiSpaceTab) (k := .u8) (g := 0) V V Tryz.underlying203 Tryz.underlying5 V V h2.tail.tail
  exact ⟨⟨gw_var (g := 2) V hpow⟩, gw_var (g := 0) V hasc⟩
open Go Go.FL Go.ChangeShapes Go.WideShapes Go.ChangeAt Go.RowKit
theorem checkTrimMatchesSpec_reads : ∀ t ∈ Tryz.f5.params.toList, Tryz.prog.readableRec t = true ∧ t < Tryz.prog.types.size := by
  rw [Tryz.params5]
  intro t ht
  simp only [List.mem_cons, List.not_mem_nil, or_false] at ht
  rcases ht with rfl <;> exact ⟨by kernel_rfl, of_decide_eq_true V⟩
theorem checkTrimMatchesSpec_contract (H : Type) (enc : TypeId × Value → H) (W : World) (base : Nat) (args : Array Value) (ds gs : List (DataW H)) (before : List MemPlace)
    (hval : ∀ (j : Nat) t v, Tryz.f5.params[j]? = some t → args[j]? = some v → Value.okWide Tryz.prog W .any base t v)
    (hW : DataW.Whole enc Tryz.prog Tryz.f5.params.toList Rows.checkTrimMatchesSpecSpec.vars false W args.toList ds gs before) (hL : laidMetH Tryz.prog Rows.checkTrimMatchesSpecRow.laid W) :
    Calls Tryz.prog 5 args W fun e W' => ∃ v, e = .returned v ∧ Rows.checkTrimMatchesSpecSpec.post enc Tryz.prog Tryz.f5 false true false false W args v W' := by
  have hW' := hW
  obtain ⟨p, q, hA0, hV, rfl, hfz, hnd⟩ := hW'
  have hA : DataW.TrodAll enc Tryz.prog W 0 (fun _ => true) true Tryz.f5.params.toList args.toList ds p := hA0
  rw [Tryz.params5] at hA hval
  obtain ⟨v0, vs0, d0, ds0, p0, q0, hargs0, rfl, rfl, h0, r0⟩ := trodAll_cons hA
  obtain ⟨rfl, rfl, rfl⟩ := trodAll_nil r0
  obtain rfl : args = #[v0] := by cases args; simp_all
  obtain ⟨rfl, rfl⟩ := trodVars_none hV
  obtain ⟨m0, p0, Ag0, Af0, ng0, cg0, nf0, cf0, rfl, hGl0, hFn0⟩ := arg_prg (hval 0 25 v0 rfl rfl) h0
  refine (law_calls (args := [_]) fun D => lawTrim_ac D [] W (gp_of hL) m0 p0 Ag0 Af0 ng0 cg0 nf0 cf0 hGl0 hFn0).mono fun e W' ⟨he, hg⟩ => ?_
  subst he
  exact ⟨_, rfl, law_post laid_out checkTrimMatchesSpec_reads V Tryz.underlying4 rfl hW rfl hg⟩
theorem checkTrimMatchesSpec_lifted (os : Os) (started : os.Started) (H : Type) (enc : TypeId × Value → H) :
    ReturnsInHanded {} Tryz.checked os 5 .any (fun w args => (Rows.checkTrimMatchesSpecSpec.pre enc Tryz.prog Tryz.f5 [] false w args ∧ laidMetH Tryz.prog Rows.checkTrimMatchesSpecRow.laid w) ∧ sizedMet enc Tryz.prog Tryz.f5 (OpenSpec.ofChange Rows.checkTrimMatchesSpecSpec) false w args) (Rows.checkTrimMatchesSpecSpec.post enc Tryz.prog Tryz.f5 false true false false) := by
  refine returnsInHanded_of_change_and (C := Tryz.checked) (X := fun w _ => laidMetH Tryz.prog Rows.checkTrimMatchesSpecRow.laid w) (fun _ _ _ hh h => h.of_heap hh) own_knob started V Tryz.func5
    (ChangeSpec.witness_shaped (enc := enc) (C := Tryz.checked) (os := os) (X := fun w _ => laidMetH Tryz.prog Rows.checkTrimMatchesSpecRow.laid w) false (World.laidAll Tryz.prog os Rows.checkTrimMatchesSpecRow.laid) #[.agg #[.slice none 0 0, .slice none 0 0]] 8 (World.laidAll_os _ _ _)
      (World.shaped_of_ZipB V V) V V V
      (by rw [MakeChecks.laidMetH_plain _ _ _ V]; exact laidMet_laidAll _ V V)) ?_
  intro W base args ds gs before hval hW _ _ hL _
  exact checkTrimMatchesSpec_contract H enc W base args ds gs before hval hW hL
theorem checkTrimMatchesSpec_said : Rows.CheckTrimMatchesSpecSaid :=
  OpenClaim.holds_of_wide 5 Tryz.f5 rfl rfl rfl rfl rfl rfl rfl ⟨rfl, rfl, rfl, rfl, rfl⟩ rfl rfl rfl rfl rfl V Tryz.func5 V
    (of_decide_eq_true V) (by unfold Func.isWrapper; first | (rw [if_pos (by decide +kernel)]; kernel_rfl) | (rw [if_neg (by decide +kernel)]; exact ⟨rfl, rfl⟩))
    (fun os started H enc _ => checkTrimMatchesSpec_lifted os started H enc)
theorem checkTrimMatchesSpec_plain (f : FuncId) (fn : Func) (hf : Tryz.pinned.checked.prog.funcNamed Rows.checkTrimMatchesSpecRow.func = some f) (hfn : Tryz.pinned.checked.prog.funcs[f]? = some fn) : false = Tryz.pinned.checked.prog.looks [] ∧ ∀ (j : Nat) t, fn.params[j]? = some t → Tryz.pinned.checked.prog.wantsStandIn t = false := by
  obtain rfl : f = 5 := Option.some.inj ((show Tryz.prog.funcNamed Rows.checkTrimMatchesSpecRow.func = some 5 by kernel_rfl).symm.trans hf) |>.symm
  obtain rfl : fn = Tryz.f5 := (Option.some.inj (Tryz.func5.symm.trans hfn)).symm
  exact ⟨by kernel_rfl, fun j t ht => by
    rw [Tryz.params5] at ht
    have hm : t ∈ [25] := by simpa using Array.mem_of_getElem? ht
    have hall : ([25].all fun u => !Tryz.prog.wantsStandIn u) = true := by kernel_rfl
    exact (show Tryz.prog.wantsStandIn t = false by simpa using List.all_eq_true.1 hall t hm)⟩
theorem checkTrimMatchesSpec_holds : Rows.CheckTrimMatchesSpecCardSaid :=
  Claim7.holds_tied_plain_at .later [] _ _ _ _ checkTrimMatchesSpec_said (fun _ h => by cases h) V (fun _ h => by cases h) checkTrimMatchesSpec_row_tie rfl ⟨rfl, rfl⟩ V rfl checkTrimMatchesSpec_plain V
end Go.Proofs.YtacajpepkfinoaaGreatDoor
