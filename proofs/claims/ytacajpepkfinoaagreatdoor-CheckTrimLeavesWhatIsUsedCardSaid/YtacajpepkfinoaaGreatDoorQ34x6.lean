/- Part 6 of the proof of checkTrimLeavesWhatIsUsed_holds: texts C26, C27, C28, C29, C30, Rn, V27, FlO, Tm, C31, C32, C34, Rj. -/
import Derived.Test.YtacajpepkfinoaaGreatDoorQ34x5
import Derived.ArgAppend
import Derived.ProofKit
import Derived.OpenShut
import Derived.SizedLaws
import Derived.Deep.Slices
import Derived.Test.YtacajpepkfinoaaGreatDoorRows
set_option linter.unusedVariables false
set_option linter.unusedSimpArgs false
set_option linter.unnecessarySimpa false
set_option maxRecDepth 100000
set_option maxHeartbeats 8000000
namespace Go.Proofs.YtacajpepkfinoaaGreatDoor
open Go.FL
attribute [local irreducible] JC JO JA JB thenQ blockQ retQ AC fill CellsAt QE Ev Mid
theorem falses_rep (n : Nat) : falses (List.replicate n false) = n := by
  induction n with
  | zero => rfl
  | succ n ih => rw [List.replicate_succ, falses, ih]; simp; omega
theorem rep_b (n : Nat) : List.replicate n (Value.bool false) = bvs (List.replicate n false) := by simp [bvs]
theorem SO.pub {s : World} : ∀ {d : Nat} {M : Hl} {x : Stm} {cs : List Value}, SO d s M x cs → Pub M s → cs.length = 5 ∧ StR d s x cs := by
  intro d
  induction d with
  | zero => exact fun h => h.elim
  | succ d ih =>
    intro M x cs h hp
    obtain ⟨e, A1, n1, c1, A2, n2, c2, A3, n3, c3, M1, M2, M3, he, rfl, rfl, h1, ⟨k2, m2, rfl, r2, q2⟩, ⟨k3, m3, rfl, r3, q3⟩, h4⟩ := h.eq
    obtain rfl : d = e := by omega
    have row : ∀ {A : Option Addr} {n c : Nat} {l : List Stm} {css : List (List Value)} {Ms : List Hl}, Rws 5 s A n c css → All3 (SO d s) Ms l css → Pub Ms.flatten s → Sl 5 (StR d) s A n c l := by
      intro A n c l css Ms hr ha hpm
      have hl := ha.len
      refine ⟨by rw [hr.1]; exact hl.2, hr.2.1, hr.2.2.1, fun i y hy => ?_⟩
      have hil : i < l.length := (List.getElem?_eq_some_iff.1 hy).1
      obtain ⟨us1, u, us2, vs1, v, vs2, ws1, w, ws2, rfl, rfl, rfl, e1, e2, e3, _⟩ := ha.at_ hil
      have hy2 : v = y := by
        rw [List.getElem?_append_right O, show i - vs1.length = 0 by omega] at hy
        simpa using hy
      subst hy2
      have hw : (ws1 ++ w :: ws2)[i]? = some w := by
        have := e3.len
        rw [List.getElem?_append_right O, show i - ws1.length = 0 by omega]; rfl
      obtain ⟨b, off, hb1, hb2⟩ := hr.at_ hw
      obtain ⟨h5, h6⟩ := ih e2 (pub_flat hpm u (List.mem_append_right _ (List.mem_cons_self ..)))
      exact ⟨b, off, w, hb1, hb2, h5, h6⟩
    exact ⟨rfl, A1, n1, c1, A2, n2, c2, A3, n3, c3, rfl, h1.pub hp.left, row r2 q2 hp.right.left, row r3 q3 hp.right.right, h4⟩
theorem SOs.pub {s : World} {d : Nat} {M : Hl} {A : Option Addr} {n c : Nat} {l : List Stm} (h : SOs d s M A n c l) (hp : Pub M s) : Stms d s A n c l := by
  obtain ⟨css, Ms, rfl, hr, ha⟩ := h
  have hl := ha.len
  refine ⟨by rw [hr.1]; exact hl.2, hr.2.1, hr.2.2.1, fun i y hy => ?_⟩
  have hil : i < l.length := (List.getElem?_eq_some_iff.1 hy).1
  obtain ⟨us1, u, us2, vs1, v, vs2, ws1, w, ws2, rfl, rfl, rfl, e1, e2, e3, _⟩ := ha.at_ hil
  have hy2 : v = y := by
    rw [List.getElem?_append_right O, show i - vs1.length = 0 by omega] at hy
    simpa using hy
  subst hy2
  have hw : (ws1 ++ w :: ws2)[i]? = some w := by
    have := e3.len
    rw [List.getElem?_append_right O, show i - ws1.length = 0 by omega]; rfl
  obtain ⟨b, off, hb1, hb2⟩ := hr.at_ hw
  obtain ⟨h5, h6⟩ := e2.pub (pub_flat hp u (List.mem_append_right _ (List.mem_cons_self ..)))
  exact ⟨b, off, w, hb1, hb2, h5, h6⟩
theorem FOs.pub {s : World} {d : Nat} {M : Hl} {A : Option Addr} {n c : Nat} {l : List Fnc} (h : FOs d s M A n c l) (hp : Pub M s) : Fncs d s A n c l := by
  obtain ⟨css, Ms, rfl, hr, ha⟩ := h
  have hl := ha.len
  refine ⟨by rw [hr.1]; exact hl.2, hr.2.1, hr.2.2.1, fun i y hy => ?_⟩
  have hil : i < l.length := (List.getElem?_eq_some_iff.1 hy).1
  obtain ⟨us1, u, us2, vs1, v, vs2, ws1, w, ws2, rfl, rfl, rfl, e1, e2, e3, _⟩ := ha.at_ hil
  have hy2 : v = y := by
    rw [List.getElem?_append_right O, show i - vs1.length = 0 by omega] at hy
    simpa using hy
  subst hy2
  have hw : (ws1 ++ w :: ws2)[i]? = some w := by
    have := e3.len
    rw [List.getElem?_append_right O, show i - ws1.length = 0 by omega]; rfl
  obtain ⟨b, off, hb1, hb2⟩ := hr.at_ hw
  obtain ⟨A1, n1, c1, A2, n2, c2, A3, n3, c3, q1, q2, q3, q4, q5⟩ := e2
  exact ⟨b, off, w, hb1, hb2, by rw [q1]; rfl, A1, n1, c1, A2, n2, c2, A3, n3, c3, q1, q2, q3, q4.pub (pub_flat hp u (List.mem_append_right _ (List.mem_cons_self ..))), q5⟩
theorem clonePub_ac (D : Nat) (L : Hl) (s : World) (d : Nat) (p : Prg) (Ag Af : Option Addr) (ng cg nf cf : Nat) (hGl : Glos s Ag ng cg p.globals) (hFn : Fncs d s Af nf cf p.funcs) (hV : PV p) : AC Tryz.prog D 42 [.agg #[.slice Ag ng cg, .slice Af nf cf]] L s fun v L' s' => L = L' ∧ ∃ Bg mg eg Bf mf ef, v = .agg #[.slice Bg mg eg, .slice Bf mf ef] ∧ Glos s' Bg mg eg p.globals ∧ Fncs d s' Bf mf ef p.funcs := by
  refine (AC.pub (cloneP_ac D L s d p Ag Af ng cg nf cf hGl hFn hV)).mono ?_
  rintro v L1 s1 _ ⟨h1, M1, s2, ⟨Bg, mg, eg, Bf, mf, ef, h2, h3, h4⟩, hl, h5⟩
  exact ⟨h1, Bg, mg, eg, Bf, mf, ef, h2, h3.le hl, (h4.le hl).pub h5⟩
def keepB {α : Type} : List Bool → List α → List α
  | b :: B, x :: l => if b = true then x :: keepB B l else keepB B l
  | [], _ => []
  | _ :: _, [] => []
theorem keepB_take {α : Type} : ∀ {B : List Bool} {l : List α} {k : Nat} {x : α}, l[k]? = some x → keepB B (l.take (k + 1)) = keepB B (l.take k) ++ (if B.getD k false = true then [x] else [])
  | [], l, k, x, _ => by simp [keepB]
  | b :: B, [], k, x, h => by cases h
  | b :: B, y :: l, 0, x, h => by
    simp at h; subst h
    simp only [List.take_succ_cons, List.take_zero, keepB, List.getD_cons_zero, List.nil_append]
    cases B <;> simp [keepB]
  | b :: B, y :: l, k + 1, x, h => by
    have := keepB_take (B := B) (l := l) (k := k) (x := x) (by simpa using h)
    simp only [List.take_succ_cons, keepB, List.getD_cons_succ]
    by_cases hb : b = true
    · rw [if_pos hb, if_pos hb, this]; rfl
    · rw [if_neg hb, if_neg hb, this]
theorem keepB_le {α : Type} : ∀ (B : List Bool) (l : List α), (keepB B l).length ≤ l.length
  | [], l => by simp [keepB]
  | b :: B, [] => by simp [keepB]
  | b :: B, x :: l => by
    have := keepB_le B l
    rw [keepB]; split
    · simp only [List.length_cons]; omega
    · simp only [List.length_cons]; omega
theorem idxOf_get {α : Type} {q : α → Bool} : ∀ {l : List α} {k j : Nat}, idxOf q l k = (j : Int) → k ≤ j ∧ ∃ y, l[j - k]? = some y ∧ q y = true
  | [], k, j, h => by rw [idxOf] at h; omega
  | y :: r, k, j, h => by
    rw [idxOf] at h
    split at h
    · rename_i h1
      have : j = k := by omega
      subst this
      exact ⟨Nat.le_refl _, y, by simp, h1⟩
    · obtain ⟨h2, z, h3, h4⟩ := idxOf_get h
      exact ⟨by omega, z, by rw [show j - k = (j - (k + 1)) + 1 by omega]; simpa using h3, h4⟩
theorem find_nd {β : Type} : ∀ {l : List (Str × β)} {i : Nat} {e : Str × β}, (l.map (·.1)).Nodup → l[i]? = some e → l.find? (fun y => decide (y.1 = e.1)) = some e
  | [], i, e, _, h => by cases h
  | y :: l, 0, e, _, h => by simp at h; subst h; simp
  | y :: l, i + 1, e, hn, h => by
    rw [List.map_cons, List.nodup_cons] at hn
    have h1 : l[i]? = some e := by simpa using h
    have hne : ¬ y.1 = e.1 := fun e2 => hn.1 (e2 ▸ List.mem_map.2 ⟨e, List.mem_of_getElem? h1, rfl⟩)
    rw [List.find?_cons_of_neg (by simpa using hne)]
    exact find_nd hn.2 h1
theorem main_ok {p : Prg} (h : nameF p = (0, 0)) : ∃ (mi : Nat) (x : Fnc), mainF p.funcs = (mi : Int) ∧ p.funcs[mi]? = some x ∧ ((ents p).find? fun e => decide (e.1 = mainW)) = some (mainW, ((4 : Int), (mi : Int))) := by
  have hnd := (name_nd (p := p) (by rw [h])).1
  have h0 : ¬ mainF p.funcs < 0 := by
    intro hlt
    rw [nameF] at h
    split at h
    · rename_i h1; exact h1 (by rw [h])
    split at h
    · rename_i h1; exact h1 (by rw [h])
    first
      | (rw [if_pos hlt] at h; cases h)
      | cases h
  obtain ⟨mi, hmi⟩ := Int.eq_ofNat_of_zero_le (show 0 ≤ mainF p.funcs by omega)
  obtain ⟨_, x, hx, hq⟩ := idxOf_get (show idxOf (fun x : Fnc => decide (x.name = mainW)) p.funcs 0 = (mi : Int) from hmi)
  have hnm : x.name = mainW := by simpa using hq
  have hf := find_nd hnd (ents_f (p := p) (k := mi) (x := x) (by simpa using hx))
  rw [hnm] at hf
  exact ⟨mi, x, hmi, by simpa using hx, hf⟩
def marks (p : Prg) (F G : List Bool) : Prop := F.length = p.funcs.length ∧ G.length = p.globals.length ∧ ∃ mi : Nat, mainF p.funcs = (mi : Int) ∧ mi < p.funcs.length ∧ (∀ j : Nat, F[j]? = some true ↔ Rea p mi j) ∧ ∀ g : Nat, G[g]? = some true ↔ ∃ j : Nat, F[j]? = some true ∧ glo p j g
theorem rep_false {n j : Nat} : ¬ (List.replicate n false)[j]? = some true := by
  rw [List.getElem?_replicate]; split <;> simp
theorem marks_of {p : Prg} {mi : Nat} {F G : List Bool} (hm : mainF p.funcs = (mi : Int)) (hl : mi < p.funcs.length) (h : Rch p mi (List.replicate p.funcs.length false) (List.replicate p.globals.length false) F G) : marks p F G := by
  refine ⟨by rw [h.lenF]; simp, by rw [h.lenG]; simp, mi, hm, hl, fun j => ⟨fun hj => ?_, fun hr => ?_⟩, fun g => ⟨fun hg => ?_, fun ⟨j, h1, h2⟩ => ?_⟩⟩
  · rcases h.new j hj with h1 | h1
    · exact absurd h1 rep_false
    · exact h1.1
  · have : ∀ i j, Rea p i j → F[i]? = some true → F[j]? = some true := by
      intro i j hr
      induction hr with
      | refl => exact fun h => h
      | step hc _ ih =>
        intro hi
        rcases h.new _ hi with h1 | h1
        · exact absurd h1 rep_false
        · exact ih (h1.2.1 _ hc)
    exact this mi j hr h.hit
  · rcases h.newG g hg with h1 | ⟨j, h1, _, h2⟩
    · exact absurd h1 rep_false
    · exact ⟨j, h1, h2⟩
  · rcases h.new j h1 with h3 | h3
    · exact absurd h3 rep_false
    · exact h3.2.2 g h2
def TrimR (p q : Prg) : Prop := ((chkF p).1 ≠ 0 ∧ q = ⟨[], []⟩) ∨ ((chkF p).1 = 0 ∧ ∃ F G, marks p F G ∧ q = ⟨keepB G p.globals, keepB F p.funcs⟩)
theorem glos_nil (s : World) : Glos s none 0 0 [] := ⟨rfl, Nat.le_refl _, by omega, fun i x h => by cases h⟩
theorem fncs_nil (d : Nat) (s : World) : Fncs d s none 0 0 [] := ⟨rfl, Nat.le_refl _, by omega, fun i x h => by cases h⟩
theorem trimO_ac (D : Nat) (L : Hl) (s : World) (hG : GP s) (d : Nat) (p : Prg) (Ag Af : Option Addr) (ng cg nf cf : Nat) (hGl : Glos s Ag ng cg p.globals) (hFn : Fncs d s Af nf cf p.funcs) : AC Tryz.prog D 19 [.agg #[.slice Ag ng cg, .slice Af nf cf]] L s fun v L' s' => ∃ M', L' = M' ++ L ∧ ∀ s2, Le D s' s2 → Pub M' s2 → ∃ q, TrimR p q ∧ ∃ Bg mg eg Bf mf ef, v = .tuple #[.agg #[.slice Bg mg eg, .slice Bf mf ef], .agg #[.int .i64 (chkF p).1, .int .i64 (chkF p).2]] ∧ Glos s2 Bg mg eg q.globals ∧ Fncs d s2 Bf mf ef q.funcs := by
 have hn1 := hGl.1
 have hn2 := hFn.1
 have hU : prU p := ⟨hGl.u, hFn.u⟩
 refine AC_enter (TT := TT) (fn := Tryz.f19) TT_ok Tryz.func19 V Z Tryz.ntmps19 Z (rs := [.cell 2 25, .cell 3 28]) Z [(0, _)] Z <| Zs <| Zr <| JO_boxA Z Z ?_
 intro β1 s1 h1
 refine JO_allocZ Z [_, _] Z Z ?_
 intro β2 s2 h2
 refine JO_allocZ Z [_, _] Z Z ?_
 intro β3 s3 h3
 refine Zn <| Zt <| Zs <| Zr <| JO_q (QE_ldA 2 [_, _] Z Z Z Z Z) Z <| Jc Z Z Z (calls_ac D _ _ (hG.le (h1.t h2|>.t h3)) d p Ag _ ng cg nf cf (hGl.le (h1.t h2|>.t h3)) (hFn.le (h1.t h2|>.t h3))) ?_
 rintro _ _ s4 h4 ⟨rfl, Ac, nc, cc, rfl, hCl⟩
 refine Zqm Z Z <| Zqx Z Z Z <| Zqx Z Z Z <| JO_allocZ Z [_] Z Z ?_
 intro β5 s5 h5
 refine JO_allocZ Z [_, _] Z Z ?_
 intro β6 s6 h6
 refine JO_st 1 [_] Z Z Z Z Z Z Z Z Z <| JO_st 0 [_, _] Z Z Z Z Z Z Z Z Z <| Zn <| Zt <| Zs <| Zs <| Zr <| JO_q (QE_ldA 0 [_, _] Z Z Z Z Z) Z <| JO_q (QE_build [] [_, _] Z Z Z Z Z Z) Z <| JO_q (QE_ane Z Z (eqFault _ _ _ _)) Z <| Zn <| Zt <| ?_
 refine JC_ifN Z (fun c7 => ?_) (fun c7 => ?_)
 ·
  have hb0 : (chkF p).1 ≠ 0 := fun h => c7 (by rw [chk_00 hU h]; exact ⟨rfl, rfl⟩)
  refine Zs <| JC_drawE drawsMixed 4 Z [3, 2] (by intro x hx; exact eraseAll_mem hx) ?_
  intro s8 h8
  refine za 0 Z (QE_build [] [_, _] Z Z Z Z Z Z) Z <| za 1 Z (QE_ldA 0 [_, _] Z Z Z Z Z) Z <| JA_1 2 V <| JB_st Z trivial 3 [_, _] Z Z Z Z Z Z Z Z Z (fun _ hx => sub_mem (sbY (sbY (sbN (sbY (sbE _))))) hx) <| JA_1 3 V <| JB_st Z trivial 2 [_, _] Z Z Z Z Z Z Z Z Z (fun _ hx => sub_mem (sbY (sbY (sbN (sbY (sbE _))))) hx) <| JA_done V <| Zt <| Zo <| Zu <| ?_
  refine retQ_mk [_, _, _, _, _] _ (.inr Z) (.agg (us := [_, _]) 3 Z Z Z Z Z (.agg (us := [_, _]) 2 Z Z Z Z Z (.nil))) Z (h1.t h2|>.t h3|>.t h4|>.t h5|>.t h6|>.t h8) (fun sR hS2 => ?_)
  exact ⟨[], rfl, fun s2 hs2 hp => ⟨⟨[], []⟩, .inl ⟨hb0, rfl⟩, none, 0, 0, none, 0, 0, rfl, glos_nil _, fncs_nil _ _⟩⟩
 have g4 := c7
 have g14 : ¬ (chkF p).1 ≠ 0 := fun h => h g4.1
 obtain ⟨hOK, hz0⟩ := OKP.of hU g4.1
 have hV := hOK.1
 have hV1 := hV.1
 have hV2 := hV.2.1
 have hVf := hV.2.2.2.1
 have hND := (name_nd (p := p) (by rw [hOK.2.1])).1
 rw [show callsP p = p.funcs from if_neg g14] at hCl
 obtain rfl : nf = nc := by have := hCl.1; omega
 obtain ⟨mi, xm, hmi, hxm, hmf⟩ := main_ok hOK.2.1
 have hml := (List.getElem?_eq_some_iff.1 hxm).1
 refine Zk <| Zt <| Zs <| Zr <| JO_q (QE_ldA 4 [_, _] Z Z Z Z Z) Z <| Jc Z Z Z (open_ac D _ _ d p Ag _ ng cg nf cf (hGl.le (h1.t h2|>.t h3|>.t h4|>.t h5|>.t h6)) (hFn.le (h1.t h2|>.t h3|>.t h4|>.t h5|>.t h6)) hND) ?_
 rintro _ _ s9 h9 ⟨rfl, bm, rfl, hM⟩
 have hM0 := hM
 obtain ⟨es, hMs, hes⟩ := hM0
 refine JO_allocZ Z [_, _, _] Z Z ?_
 intro β10 s10 h10
 refine JO_st 0 [_, _, _] Z Z Z Z Z Z Z Z Z <| Zn <| Zt <| ?_
 refine JC_cutN (γ := Nat × Nat × Nat × Nat) (fun g => [(7, .pointer (some ⟨g.1, 0, none⟩)), (8, .pointer (some ⟨g.2.1, 0, none⟩))]) (fun g => [(g.1, cb [.slice (some ⟨g.2.2.1, 0, none⟩) nf nf] 41), (g.2.1, cb [.slice (some ⟨g.2.2.2, 0, none⟩) ng ng] 41), (g.2.2.1, cb (bvs (List.replicate nf false)) 4), (g.2.2.2, cb (bvs (List.replicate ng false)) 4)]) (fun g tw => True) (fun _ _ _ h hl => h) ?_ ?_
 ·
  refine JC_draw drawsMixed 12 Z _ (fun _ h => h) ?_
  intro s12 h12
  refine za 0 Z (QE_faB Z Z Z Z) Z <| za 1 Z (QE_ld1 5 Z Z Z Z Z) Z <| za 2 Z (QE_lenS Z Z Z) Z <| za 4 Z (QE_fa0 Z Z Z Z) Z <| za 5 Z (QE_ld1 5 Z Z Z Z Z) Z <| za 6 Z (QE_lenS Z Z Z) Z ?_
  refine JA_4 3 7 8 9 V ?_ ?_ ?_ ?_
  ·
   refine JB_mk Z trivial Z Z Z Z Z (by simp [ti4]; omega) O Z ?_
   intro βf s13 h13
   rw [rep_b]
   refine JA_3 7 8 9 V ?_ ?_ ?_
   ·
    refine JB_mk Z trivial Z Z Z Z Z (by simp [ti4]; omega) O Z ?_
    intro βg s14 h14
    rw [rep_b]
    refine JA_2 8 9 V ?_ ?_
    ·
     refine JB_alloc Z trivial Z [_] Z Z ?_
     intro β15 s15 h15
     refine JA_1 9 V <| JB_alloc Z trivial Z [_] Z Z ?_
     intro β16 s16 h16
     refine JA_1 10 V <| JB_st Z trivial 1 [_] Z Z Z Z Z Z Z Z Z (fun _ hx => sub_mem (sbN (sbN (sbN (sbY (sbY (sbY (sbY (sbY (sbY (sbE _)))))))))) hx) <| JA_1 11 V <| JB_st Z trivial 0 [_] Z Z Z Z Z Z Z Z Z (fun _ hx => sub_mem (sbN (sbN (sbN (sbY (sbY (sbY (sbY (sbY (sbY (sbE _)))))))))) hx) <| JA_done V ?_
     refine thenQ_n (MidN.mk (β15, β16, βf, βg) [] (h12.t h13|>.t h14|>.t h15|>.t h16) (.cons Z (.cons Z sk)) (List.Perm.trans (front_perm _ 2) (List.Perm.trans (front_perm _ 3) (List.Perm.trans (front_perm _ 2) (front_perm _ 3)))) trivial)
    refine JB_alloc Z trivial Z [_] Z Z ?_
    intro β17 s17 h17
    refine JA_1 8 V <| JB_alloc Z trivial Z [_] Z Z ?_
    intro β18 s18 h18
    refine JA_1 10 V <| JB_st Z trivial 0 [_] Z Z Z Z Z Z Z Z Z (fun _ hx => sub_mem (sbN (sbN (sbN (sbY (sbY (sbY (sbY (sbY (sbY (sbE _)))))))))) hx) <| JA_1 11 V <| JB_st Z trivial 1 [_] Z Z Z Z Z Z Z Z Z (fun _ hx => sub_mem (sbN (sbN (sbN (sbY (sbY (sbY (sbY (sbY (sbY (sbE _)))))))))) hx) <| JA_done V ?_
    refine thenQ_n (MidN.mk (β18, β17, βf, βg) [] (h12.t h13|>.t h14|>.t h17|>.t h18) (.cons Z (.cons Z sk)) (List.Perm.trans (front_perm _ 2) (List.Perm.trans (front_perm _ 3) (List.Perm.trans (front_perm _ 3) (front_perm _ 3)))) trivial)
   ·
    refine JB_alloc Z trivial Z [_] Z Z ?_
    intro β19 s19 h19
    refine JA_2 7 9 V ?_ ?_
    ·
     refine JB_mk Z trivial Z Z Z Z Z (by simp [ti4]; omega) O Z ?_
     intro βg s20 h20
     rw [rep_b]
     refine JA_1 9 V <| JB_alloc Z trivial Z [_] Z Z ?_
     intro β21 s21 h21
     refine JA_1 10 V <| JB_st Z trivial 2 [_] Z Z Z Z Z Z Z Z Z (fun _ hx => sub_mem (sbN (sbN (sbN (sbY (sbY (sbY (sbY (sbY (sbY (sbE _)))))))))) hx) <| JA_1 11 V <| JB_st Z trivial 0 [_] Z Z Z Z Z Z Z Z Z (fun _ hx => sub_mem (sbN (sbN (sbN (sbY (sbY (sbY (sbY (sbY (sbY (sbE _)))))))))) hx) <| JA_done V ?_
     refine thenQ_n (MidN.mk (β19, β21, βf, βg) [] (h12.t h13|>.t h19|>.t h20|>.t h21) (.cons Z (.cons Z sk)) (List.Perm.trans (front_perm _ 1) (List.Perm.trans (front_perm _ 3) (List.Perm.trans (front_perm _ 2) (front_perm _ 3)))) trivial)
    refine JB_alloc Z trivial Z [_] Z Z ?_
    intro β22 s22 h22
    refine JA_2 7 10 V ?_ ?_
    ·
     refine JB_mk Z trivial Z Z Z Z Z (by simp [ti4]; omega) O Z ?_
     intro βg s23 h23
     rw [rep_b]
     refine JA_1 10 V <| JB_st Z trivial 2 [_] Z Z Z Z Z Z Z Z Z (fun _ hx => sub_mem (sbN (sbN (sbN (sbY (sbY (sbY (sbY (sbY (sbY (sbE _)))))))))) hx) <| JA_1 11 V <| JB_st Z trivial 1 [_] Z Z Z Z Z Z Z Z Z (fun _ hx => sub_mem (sbN (sbN (sbN (sbY (sbY (sbY (sbY (sbY (sbY (sbE _)))))))))) hx) <| JA_done V ?_
     refine thenQ_n (MidN.mk (β19, β22, βf, βg) [] (h12.t h13|>.t h19|>.t h22|>.t h23) (.cons Z (.cons Z sk)) (List.Perm.trans (front_perm _ 0) (List.Perm.trans (front_perm _ 3) (List.Perm.trans (front_perm _ 2) (front_perm _ 3)))) trivial)
    refine JB_st Z trivial 1 [_] Z Z Z Z Z Z Z Z Z (fun _ hx => sub_mem (sbN (sbN (sbY (sbY (sbY (sbY (sbY (sbY (sbE _))))))))) hx) <| JA_1 7 V <| JB_mk Z trivial Z Z Z Z Z (by simp [ti4]; omega) O Z ?_
    intro βg s24 h24
    rw [rep_b]
    refine JA_1 11 V <| JB_st Z trivial 1 [_] Z Z Z Z Z Z Z Z Z (fun _ hx => sub_mem (sbN (sbN (sbN (sbY (sbY (sbY (sbY (sbY (sbY (sbE _)))))))))) hx) <| JA_done V ?_
    refine thenQ_n (MidN.mk (β19, β22, βf, βg) [] (h12.t h13|>.t h19|>.t h22|>.t h24) (.cons Z (.cons Z sk)) (List.Perm.trans (front_perm _ 0) (List.Perm.trans (front_perm _ 3) (List.Perm.trans (front_perm _ 2) (front_perm _ 3)))) trivial)
   refine JB_alloc Z trivial Z [_] Z Z ?_
   intro β25 s25 h25
   refine JA_2 7 8 V ?_ ?_
   ·
    refine JB_mk Z trivial Z Z Z Z Z (by simp [ti4]; omega) O Z ?_
    intro βg s26 h26
    rw [rep_b]
    refine JA_1 8 V <| JB_alloc Z trivial Z [_] Z Z ?_
    intro β27 s27 h27
    refine JA_1 10 V <| JB_st Z trivial 0 [_] Z Z Z Z Z Z Z Z Z (fun _ hx => sub_mem (sbN (sbN (sbN (sbY (sbY (sbY (sbY (sbY (sbY (sbE _)))))))))) hx) <| JA_1 11 V <| JB_st Z trivial 2 [_] Z Z Z Z Z Z Z Z Z (fun _ hx => sub_mem (sbN (sbN (sbN (sbY (sbY (sbY (sbY (sbY (sbY (sbE _)))))))))) hx) <| JA_done V ?_
    refine thenQ_n (MidN.mk (β27, β25, βf, βg) [] (h12.t h13|>.t h25|>.t h26|>.t h27) (.cons Z (.cons Z sk)) (List.Perm.trans (front_perm _ 1) (List.Perm.trans (front_perm _ 3) (List.Perm.trans (front_perm _ 3) (front_perm _ 3)))) trivial)
   refine JB_alloc Z trivial Z [_] Z Z ?_
   intro β28 s28 h28
   refine JA_2 7 10 V ?_ ?_
   ·
    refine JB_mk Z trivial Z Z Z Z Z (by simp [ti4]; omega) O Z ?_
    intro βg s29 h29
    rw [rep_b]
    refine JA_1 10 V <| JB_st Z trivial 1 [_] Z Z Z Z Z Z Z Z Z (fun _ hx => sub_mem (sbN (sbN (sbN (sbY (sbY (sbY (sbY (sbY (sbY (sbE _)))))))))) hx) <| JA_1 11 V <| JB_st Z trivial 2 [_] Z Z Z Z Z Z Z Z Z (fun _ hx => sub_mem (sbN (sbN (sbN (sbY (sbY (sbY (sbY (sbY (sbY (sbE _)))))))))) hx) <| JA_done V ?_
    refine thenQ_n (MidN.mk (β28, β25, βf, βg) [] (h12.t h13|>.t h25|>.t h28|>.t h29) (.cons Z (.cons Z sk)) (List.Perm.trans (front_perm _ 0) (List.Perm.trans (front_perm _ 3) (List.Perm.trans (front_perm _ 3) (front_perm _ 3)))) trivial)
   refine JB_st Z trivial 0 [_] Z Z Z Z Z Z Z Z Z (fun _ hx => sub_mem (sbN (sbN (sbY (sbY (sbY (sbY (sbY (sbY (sbE _))))))))) hx) <| JA_1 7 V <| JB_mk Z trivial Z Z Z Z Z (by simp [ti4]; omega) O Z ?_
   intro βg s30 h30
   rw [rep_b]
   refine JA_1 11 V <| JB_st Z trivial 2 [_] Z Z Z Z Z Z Z Z Z (fun _ hx => sub_mem (sbN (sbN (sbN (sbY (sbY (sbY (sbY (sbY (sbY (sbE _)))))))))) hx) <| JA_done V ?_
   refine thenQ_n (MidN.mk (β28, β25, βf, βg) [] (h12.t h13|>.t h25|>.t h28|>.t h30) (.cons Z (.cons Z sk)) (List.Perm.trans (front_perm _ 0) (List.Perm.trans (front_perm _ 3) (List.Perm.trans (front_perm _ 3) (front_perm _ 3)))) trivial)
  ·
   refine JB_mk Z trivial Z Z Z Z Z (by simp [ti4]; omega) O Z ?_
   intro βg s31 h31
   rw [rep_b]
   refine JA_3 3 8 9 V ?_ ?_ ?_
   ·
    refine JB_mk Z trivial Z Z Z Z Z (by simp [ti4]; omega) O Z ?_
    intro βf s32 h32
    rw [rep_b]
    refine JA_2 8 9 V ?_ ?_
    ·
     refine JB_alloc Z trivial Z [_] Z Z ?_
     intro β33 s33 h33
     refine JA_1 9 V <| JB_alloc Z trivial Z [_] Z Z ?_
     intro β34 s34 h34
     refine JA_1 10 V <| JB_st Z trivial 1 [_] Z Z Z Z Z Z Z Z Z (fun _ hx => sub_mem (sbN (sbN (sbN (sbY (sbY (sbY (sbY (sbY (sbY (sbE _)))))))))) hx) <| JA_1 11 V <| JB_st Z trivial 0 [_] Z Z Z Z Z Z Z Z Z (fun _ hx => sub_mem (sbN (sbN (sbN (sbY (sbY (sbY (sbY (sbY (sbY (sbE _)))))))))) hx) <| JA_done V ?_
     refine thenQ_n (MidN.mk (β33, β34, βf, βg) [] (h12.t h31|>.t h32|>.t h33|>.t h34) (.cons Z (.cons Z sk)) (List.Perm.trans (front_perm _ 3) (List.Perm.trans (front_perm _ 3) (List.Perm.trans (front_perm _ 2) (front_perm _ 3)))) trivial)
    refine JB_alloc Z trivial Z [_] Z Z ?_
    intro β35 s35 h35
    refine JA_1 8 V <| JB_alloc Z trivial Z [_] Z Z ?_
    intro β36 s36 h36
    refine JA_1 10 V <| JB_st Z trivial 0 [_] Z Z Z Z Z Z Z Z Z (fun _ hx => sub_mem (sbN (sbN (sbN (sbY (sbY (sbY (sbY (sbY (sbY (sbE _)))))))))) hx) <| JA_1 11 V <| JB_st Z trivial 1 [_] Z Z Z Z Z Z Z Z Z (fun _ hx => sub_mem (sbN (sbN (sbN (sbY (sbY (sbY (sbY (sbY (sbY (sbE _)))))))))) hx) <| JA_done V ?_
    refine thenQ_n (MidN.mk (β36, β35, βf, βg) [] (h12.t h31|>.t h32|>.t h35|>.t h36) (.cons Z (.cons Z sk)) (List.Perm.trans (front_perm _ 3) (List.Perm.trans (front_perm _ 3) (List.Perm.trans (front_perm _ 3) (front_perm _ 3)))) trivial)
   ·
    refine JB_alloc Z trivial Z [_] Z Z ?_
    intro β37 s37 h37
    refine JA_2 3 9 V ?_ ?_
    ·
     refine JB_mk Z trivial Z Z Z Z Z (by simp [ti4]; omega) O Z ?_
     intro βf s38 h38
     rw [rep_b]
     refine JA_1 9 V <| JB_alloc Z trivial Z [_] Z Z ?_
     intro β39 s39 h39
     refine JA_1 10 V <| JB_st Z trivial 2 [_] Z Z Z Z Z Z Z Z Z (fun _ hx => sub_mem (sbN (sbN (sbN (sbY (sbY (sbY (sbY (sbY (sbY (sbE _)))))))))) hx) <| JA_1 11 V <| JB_st Z trivial 0 [_] Z Z Z Z Z Z Z Z Z (fun _ hx => sub_mem (sbN (sbN (sbN (sbY (sbY (sbY (sbY (sbY (sbY (sbE _)))))))))) hx) <| JA_done V ?_
     refine thenQ_n (MidN.mk (β37, β39, βf, βg) [] (h12.t h31|>.t h37|>.t h38|>.t h39) (.cons Z (.cons Z sk)) (List.Perm.trans (front_perm _ 3) (List.Perm.trans (front_perm _ 2) (List.Perm.trans (front_perm _ 2) (front_perm _ 3)))) trivial)
    refine JB_alloc Z trivial Z [_] Z Z ?_
    intro β40 s40 h40
    refine JA_1 3 V <| JB_mk Z trivial Z Z Z Z Z (by simp [ti4]; omega) O Z ?_
    intro βf s41 h41
    rw [rep_b]
    refine JA_1 10 V <| JB_st Z trivial 2 [_] Z Z Z Z Z Z Z Z Z (fun _ hx => sub_mem (sbN (sbN (sbN (sbY (sbY (sbY (sbY (sbY (sbY (sbE _)))))))))) hx) <| JA_1 11 V <| JB_st Z trivial 1 [_] Z Z Z Z Z Z Z Z Z (fun _ hx => sub_mem (sbN (sbN (sbN (sbY (sbY (sbY (sbY (sbY (sbY (sbE _)))))))))) hx) <| JA_done V ?_
    refine thenQ_n (MidN.mk (β37, β40, βf, βg) [] (h12.t h31|>.t h37|>.t h40|>.t h41) (.cons Z (.cons Z sk)) (List.Perm.trans (front_perm _ 3) (List.Perm.trans (front_perm _ 1) (List.Perm.trans (front_perm _ 2) (front_perm _ 3)))) trivial)
   refine JB_alloc Z trivial Z [_] Z Z ?_
   intro β42 s42 h42
   refine JA_2 3 8 V ?_ ?_
   ·
    refine JB_mk Z trivial Z Z Z Z Z (by simp [ti4]; omega) O Z ?_
    intro βf s43 h43
    rw [rep_b]
    refine JA_1 8 V <| JB_alloc Z trivial Z [_] Z Z ?_
    intro β44 s44 h44
    refine JA_1 10 V <| JB_st Z trivial 0 [_] Z Z Z Z Z Z Z Z Z (fun _ hx => sub_mem (sbN (sbN (sbN (sbY (sbY (sbY (sbY (sbY (sbY (sbE _)))))))))) hx) <| JA_1 11 V <| JB_st Z trivial 2 [_] Z Z Z Z Z Z Z Z Z (fun _ hx => sub_mem (sbN (sbN (sbN (sbY (sbY (sbY (sbY (sbY (sbY (sbE _)))))))))) hx) <| JA_done V ?_
    refine thenQ_n (MidN.mk (β44, β42, βf, βg) [] (h12.t h31|>.t h42|>.t h43|>.t h44) (.cons Z (.cons Z sk)) (List.Perm.trans (front_perm _ 3) (List.Perm.trans (front_perm _ 2) (List.Perm.trans (front_perm _ 3) (front_perm _ 3)))) trivial)
   refine JB_alloc Z trivial Z [_] Z Z ?_
   intro β45 s45 h45
   refine JA_1 3 V <| JB_mk Z trivial Z Z Z Z Z (by simp [ti4]; omega) O Z ?_
   intro βf s46 h46
   rw [rep_b]
   refine JA_1 10 V <| JB_st Z trivial 1 [_] Z Z Z Z Z Z Z Z Z (fun _ hx => sub_mem (sbN (sbN (sbN (sbY (sbY (sbY (sbY (sbY (sbY (sbE _)))))))))) hx) <| JA_1 11 V <| JB_st Z trivial 2 [_] Z Z Z Z Z Z Z Z Z (fun _ hx => sub_mem (sbN (sbN (sbN (sbY (sbY (sbY (sbY (sbY (sbY (sbE _)))))))))) hx) <| JA_done V ?_
   refine thenQ_n (MidN.mk (β45, β42, βf, βg) [] (h12.t h31|>.t h42|>.t h45|>.t h46) (.cons Z (.cons Z sk)) (List.Perm.trans (front_perm _ 3) (List.Perm.trans (front_perm _ 1) (List.Perm.trans (front_perm _ 3) (front_perm _ 3)))) trivial)
  ·
   refine JB_alloc Z trivial Z [_] Z Z ?_
   intro β47 s47 h47
   refine JA_3 3 7 9 V ?_ ?_ ?_
   ·
    refine JB_mk Z trivial Z Z Z Z Z (by simp [ti4]; omega) O Z ?_
    intro βf s48 h48
    rw [rep_b]
    refine JA_2 7 9 V ?_ ?_
    ·
     refine JB_mk Z trivial Z Z Z Z Z (by simp [ti4]; omega) O Z ?_
     intro βg s49 h49
     rw [rep_b]
     refine JA_1 9 V <| JB_alloc Z trivial Z [_] Z Z ?_
     intro β50 s50 h50
     refine JA_1 10 V <| JB_st Z trivial 3 [_] Z Z Z Z Z Z Z Z Z (fun _ hx => sub_mem (sbN (sbN (sbN (sbY (sbY (sbY (sbY (sbY (sbY (sbE _)))))))))) hx) <| JA_1 11 V <| JB_st Z trivial 0 [_] Z Z Z Z Z Z Z Z Z (fun _ hx => sub_mem (sbN (sbN (sbN (sbY (sbY (sbY (sbY (sbY (sbY (sbE _)))))))))) hx) <| JA_done V ?_
     refine thenQ_n (MidN.mk (β47, β50, βf, βg) [] (h12.t h47|>.t h48|>.t h49|>.t h50) (.cons Z (.cons Z sk)) (List.Perm.trans (front_perm _ 1) (List.Perm.trans (front_perm _ 2) (List.Perm.trans (front_perm _ 2) (front_perm _ 3)))) trivial)
    refine JB_alloc Z trivial Z [_] Z Z ?_
    intro β51 s51 h51
    refine JA_2 7 10 V ?_ ?_
    ·
     refine JB_mk Z trivial Z Z Z Z Z (by simp [ti4]; omega) O Z ?_
     intro βg s52 h52
     rw [rep_b]
     refine JA_1 10 V <| JB_st Z trivial 3 [_] Z Z Z Z Z Z Z Z Z (fun _ hx => sub_mem (sbN (sbN (sbN (sbY (sbY (sbY (sbY (sbY (sbY (sbE _)))))))))) hx) <| JA_1 11 V <| JB_st Z trivial 1 [_] Z Z Z Z Z Z Z Z Z (fun _ hx => sub_mem (sbN (sbN (sbN (sbY (sbY (sbY (sbY (sbY (sbY (sbE _)))))))))) hx) <| JA_done V ?_
     refine thenQ_n (MidN.mk (β47, β51, βf, βg) [] (h12.t h47|>.t h48|>.t h51|>.t h52) (.cons Z (.cons Z sk)) (List.Perm.trans (front_perm _ 0) (List.Perm.trans (front_perm _ 2) (List.Perm.trans (front_perm _ 2) (front_perm _ 3)))) trivial)
    refine JB_st Z trivial 2 [_] Z Z Z Z Z Z Z Z Z (fun _ hx => sub_mem (sbN (sbN (sbY (sbY (sbY (sbY (sbY (sbY (sbE _))))))))) hx) <| JA_1 7 V <| JB_mk Z trivial Z Z Z Z Z (by simp [ti4]; omega) O Z ?_
    intro βg s53 h53
    rw [rep_b]
    refine JA_1 11 V <| JB_st Z trivial 1 [_] Z Z Z Z Z Z Z Z Z (fun _ hx => sub_mem (sbN (sbN (sbN (sbY (sbY (sbY (sbY (sbY (sbY (sbE _)))))))))) hx) <| JA_done V ?_
    refine thenQ_n (MidN.mk (β47, β51, βf, βg) [] (h12.t h47|>.t h48|>.t h51|>.t h53) (.cons Z (.cons Z sk)) (List.Perm.trans (front_perm _ 0) (List.Perm.trans (front_perm _ 2) (List.Perm.trans (front_perm _ 2) (front_perm _ 3)))) trivial)
   ·
    refine JB_mk Z trivial Z Z Z Z Z (by simp [ti4]; omega) O Z ?_
    intro βg s54 h54
    rw [rep_b]
    refine JA_2 3 9 V ?_ ?_
    ·
     refine JB_mk Z trivial Z Z Z Z Z (by simp [ti4]; omega) O Z ?_
     intro βf s55 h55
     rw [rep_b]
     refine JA_1 9 V <| JB_alloc Z trivial Z [_] Z Z ?_
     intro β56 s56 h56
     refine JA_1 10 V <| JB_st Z trivial 3 [_] Z Z Z Z Z Z Z Z Z (fun _ hx => sub_mem (sbN (sbN (sbN (sbY (sbY (sbY (sbY (sbY (sbY (sbE _)))))))))) hx) <| JA_1 11 V <| JB_st Z trivial 0 [_] Z Z Z Z Z Z Z Z Z (fun _ hx => sub_mem (sbN (sbN (sbN (sbY (sbY (sbY (sbY (sbY (sbY (sbE _)))))))))) hx) <| JA_done V ?_
     refine thenQ_n (MidN.mk (β47, β56, βf, βg) [] (h12.t h47|>.t h54|>.t h55|>.t h56) (.cons Z (.cons Z sk)) (List.Perm.trans (front_perm _ 2) (List.Perm.trans (front_perm _ 2) (List.Perm.trans (front_perm _ 2) (front_perm _ 3)))) trivial)
    refine JB_alloc Z trivial Z [_] Z Z ?_
    intro β57 s57 h57
    refine JA_1 3 V <| JB_mk Z trivial Z Z Z Z Z (by simp [ti4]; omega) O Z ?_
    intro βf s58 h58
    rw [rep_b]
    refine JA_1 10 V <| JB_st Z trivial 3 [_] Z Z Z Z Z Z Z Z Z (fun _ hx => sub_mem (sbN (sbN (sbN (sbY (sbY (sbY (sbY (sbY (sbY (sbE _)))))))))) hx) <| JA_1 11 V <| JB_st Z trivial 1 [_] Z Z Z Z Z Z Z Z Z (fun _ hx => sub_mem (sbN (sbN (sbN (sbY (sbY (sbY (sbY (sbY (sbY (sbE _)))))))))) hx) <| JA_done V ?_
    refine thenQ_n (MidN.mk (β47, β57, βf, βg) [] (h12.t h47|>.t h54|>.t h57|>.t h58) (.cons Z (.cons Z sk)) (List.Perm.trans (front_perm _ 2) (List.Perm.trans (front_perm _ 1) (List.Perm.trans (front_perm _ 2) (front_perm _ 3)))) trivial)
   refine JB_alloc Z trivial Z [_] Z Z ?_
   intro β59 s59 h59
   refine JA_2 3 7 V ?_ ?_
   ·
    refine JB_mk Z trivial Z Z Z Z Z (by simp [ti4]; omega) O Z ?_
    intro βf s60 h60
    rw [rep_b]
    refine JA_2 7 10 V ?_ ?_
    ·
     refine JB_mk Z trivial Z Z Z Z Z (by simp [ti4]; omega) O Z ?_
     intro βg s61 h61
     rw [rep_b]
     refine JA_1 10 V <| JB_st Z trivial 3 [_] Z Z Z Z Z Z Z Z Z (fun _ hx => sub_mem (sbN (sbN (sbN (sbY (sbY (sbY (sbY (sbY (sbY (sbE _)))))))))) hx) <| JA_1 11 V <| JB_st Z trivial 2 [_] Z Z Z Z Z Z Z Z Z (fun _ hx => sub_mem (sbN (sbN (sbN (sbY (sbY (sbY (sbY (sbY (sbY (sbE _)))))))))) hx) <| JA_done V ?_
     refine thenQ_n (MidN.mk (β47, β59, βf, βg) [] (h12.t h47|>.t h59|>.t h60|>.t h61) (.cons Z (.cons Z sk)) (List.Perm.trans (front_perm _ 0) (List.Perm.trans (front_perm _ 1) (List.Perm.trans (front_perm _ 2) (front_perm _ 3)))) trivial)
    refine JB_st Z trivial 2 [_] Z Z Z Z Z Z Z Z Z (fun _ hx => sub_mem (sbN (sbN (sbY (sbY (sbY (sbY (sbY (sbY (sbE _))))))))) hx) <| JA_1 7 V <| JB_mk Z trivial Z Z Z Z Z (by simp [ti4]; omega) O Z ?_
    intro βg s62 h62
    rw [rep_b]
    refine JA_1 11 V <| JB_st Z trivial 2 [_] Z Z Z Z Z Z Z Z Z (fun _ hx => sub_mem (sbN (sbN (sbN (sbY (sbY (sbY (sbY (sbY (sbY (sbE _)))))))))) hx) <| JA_done V ?_
    refine thenQ_n (MidN.mk (β47, β59, βf, βg) [] (h12.t h47|>.t h59|>.t h60|>.t h62) (.cons Z (.cons Z sk)) (List.Perm.trans (front_perm _ 0) (List.Perm.trans (front_perm _ 1) (List.Perm.trans (front_perm _ 2) (front_perm _ 3)))) trivial)
   refine JB_mk Z trivial Z Z Z Z Z (by simp [ti4]; omega) O Z ?_
   intro βg s63 h63
   rw [rep_b]
   refine JA_1 3 V <| JB_mk Z trivial Z Z Z Z Z (by simp [ti4]; omega) O Z ?_
   intro βf s64 h64
   rw [rep_b]
   refine JA_1 10 V <| JB_st Z trivial 3 [_] Z Z Z Z Z Z Z Z Z (fun _ hx => sub_mem (sbN (sbN (sbN (sbY (sbY (sbY (sbY (sbY (sbY (sbE _)))))))))) hx) <| JA_1 11 V <| JB_st Z trivial 2 [_] Z Z Z Z Z Z Z Z Z (fun _ hx => sub_mem (sbN (sbN (sbN (sbY (sbY (sbY (sbY (sbY (sbY (sbE _)))))))))) hx) <| JA_done V ?_
   refine thenQ_n (MidN.mk (β47, β59, βf, βg) [] (h12.t h47|>.t h59|>.t h63|>.t h64) (.cons Z (.cons Z sk)) (List.Perm.trans (front_perm _ 1) (List.Perm.trans (front_perm _ 1) (List.Perm.trans (front_perm _ 2) (front_perm _ 3)))) trivial)
  refine JB_alloc Z trivial Z [_] Z Z ?_
  intro β65 s65 h65
  refine JA_3 3 7 8 V ?_ ?_ ?_
  ·
   refine JB_mk Z trivial Z Z Z Z Z (by simp [ti4]; omega) O Z ?_
   intro βf s66 h66
   rw [rep_b]
   refine JA_2 7 8 V ?_ ?_
   ·
    refine JB_mk Z trivial Z Z Z Z Z (by simp [ti4]; omega) O Z ?_
    intro βg s67 h67
    rw [rep_b]
    refine JA_1 8 V <| JB_alloc Z trivial Z [_] Z Z ?_
    intro β68 s68 h68
    refine JA_1 10 V <| JB_st Z trivial 0 [_] Z Z Z Z Z Z Z Z Z (fun _ hx => sub_mem (sbN (sbN (sbN (sbY (sbY (sbY (sbY (sbY (sbY (sbE _)))))))))) hx) <| JA_1 11 V <| JB_st Z trivial 3 [_] Z Z Z Z Z Z Z Z Z (fun _ hx => sub_mem (sbN (sbN (sbN (sbY (sbY (sbY (sbY (sbY (sbY (sbE _)))))))))) hx) <| JA_done V ?_
    refine thenQ_n (MidN.mk (β68, β65, βf, βg) [] (h12.t h65|>.t h66|>.t h67|>.t h68) (.cons Z (.cons Z sk)) (List.Perm.trans (front_perm _ 1) (List.Perm.trans (front_perm _ 2) (List.Perm.trans (front_perm _ 3) (front_perm _ 3)))) trivial)
   refine JB_alloc Z trivial Z [_] Z Z ?_
   intro β69 s69 h69
   refine JA_2 7 10 V ?_ ?_
   ·
    refine JB_mk Z trivial Z Z Z Z Z (by simp [ti4]; omega) O Z ?_
    intro βg s70 h70
    rw [rep_b]
    refine JA_1 10 V <| JB_st Z trivial 1 [_] Z Z Z Z Z Z Z Z Z (fun _ hx => sub_mem (sbN (sbN (sbN (sbY (sbY (sbY (sbY (sbY (sbY (sbE _)))))))))) hx) <| JA_1 11 V <| JB_st Z trivial 3 [_] Z Z Z Z Z Z Z Z Z (fun _ hx => sub_mem (sbN (sbN (sbN (sbY (sbY (sbY (sbY (sbY (sbY (sbE _)))))))))) hx) <| JA_done V ?_
    refine thenQ_n (MidN.mk (β69, β65, βf, βg) [] (h12.t h65|>.t h66|>.t h69|>.t h70) (.cons Z (.cons Z sk)) (List.Perm.trans (front_perm _ 0) (List.Perm.trans (front_perm _ 2) (List.Perm.trans (front_perm _ 3) (front_perm _ 3)))) trivial)
   refine JB_st Z trivial 0 [_] Z Z Z Z Z Z Z Z Z (fun _ hx => sub_mem (sbN (sbN (sbY (sbY (sbY (sbY (sbY (sbY (sbE _))))))))) hx) <| JA_1 7 V <| JB_mk Z trivial Z Z Z Z Z (by simp [ti4]; omega) O Z ?_
   intro βg s71 h71
   rw [rep_b]
   refine JA_1 11 V <| JB_st Z trivial 3 [_] Z Z Z Z Z Z Z Z Z (fun _ hx => sub_mem (sbN (sbN (sbN (sbY (sbY (sbY (sbY (sbY (sbY (sbE _)))))))))) hx) <| JA_done V ?_
   refine thenQ_n (MidN.mk (β69, β65, βf, βg) [] (h12.t h65|>.t h66|>.t h69|>.t h71) (.cons Z (.cons Z sk)) (List.Perm.trans (front_perm _ 0) (List.Perm.trans (front_perm _ 2) (List.Perm.trans (front_perm _ 3) (front_perm _ 3)))) trivial)
  ·
   refine JB_mk Z trivial Z Z Z Z Z (by simp [ti4]; omega) O Z ?_
   intro βg s72 h72
   rw [rep_b]
   refine JA_2 3 8 V ?_ ?_
   ·
    refine JB_mk Z trivial Z Z Z Z Z (by simp [ti4]; omega) O Z ?_
    intro βf s73 h73
    rw [rep_b]
    refine JA_1 8 V <| JB_alloc Z trivial Z [_] Z Z ?_
    intro β74 s74 h74
    refine JA_1 10 V <| JB_st Z trivial 0 [_] Z Z Z Z Z Z Z Z Z (fun _ hx => sub_mem (sbN (sbN (sbN (sbY (sbY (sbY (sbY (sbY (sbY (sbE _)))))))))) hx) <| JA_1 11 V <| JB_st Z trivial 3 [_] Z Z Z Z Z Z Z Z Z (fun _ hx => sub_mem (sbN (sbN (sbN (sbY (sbY (sbY (sbY (sbY (sbY (sbE _)))))))))) hx) <| JA_done V ?_
    refine thenQ_n (MidN.mk (β74, β65, βf, βg) [] (h12.t h65|>.t h72|>.t h73|>.t h74) (.cons Z (.cons Z sk)) (List.Perm.trans (front_perm _ 2) (List.Perm.trans (front_perm _ 2) (List.Perm.trans (front_perm _ 3) (front_perm _ 3)))) trivial)
   refine JB_alloc Z trivial Z [_] Z Z ?_
   intro β75 s75 h75
   refine JA_1 3 V <| JB_mk Z trivial Z Z Z Z Z (by simp [ti4]; omega) O Z ?_
   intro βf s76 h76
   rw [rep_b]
   refine JA_1 10 V <| JB_st Z trivial 1 [_] Z Z Z Z Z Z Z Z Z (fun _ hx => sub_mem (sbN (sbN (sbN (sbY (sbY (sbY (sbY (sbY (sbY (sbE _)))))))))) hx) <| JA_1 11 V <| JB_st Z trivial 3 [_] Z Z Z Z Z Z Z Z Z (fun _ hx => sub_mem (sbN (sbN (sbN (sbY (sbY (sbY (sbY (sbY (sbY (sbE _)))))))))) hx) <| JA_done V ?_
   refine thenQ_n (MidN.mk (β75, β65, βf, βg) [] (h12.t h65|>.t h72|>.t h75|>.t h76) (.cons Z (.cons Z sk)) (List.Perm.trans (front_perm _ 2) (List.Perm.trans (front_perm _ 1) (List.Perm.trans (front_perm _ 3) (front_perm _ 3)))) trivial)
  refine JB_alloc Z trivial Z [_] Z Z ?_
  intro β77 s77 h77
  refine JA_2 3 7 V ?_ ?_
  ·
   refine JB_mk Z trivial Z Z Z Z Z (by simp [ti4]; omega) O Z ?_
   intro βf s78 h78
   rw [rep_b]
   refine JA_2 7 10 V ?_ ?_
   ·
    refine JB_mk Z trivial Z Z Z Z Z (by simp [ti4]; omega) O Z ?_
    intro βg s79 h79
    rw [rep_b]
    refine JA_1 10 V <| JB_st Z trivial 2 [_] Z Z Z Z Z Z Z Z Z (fun _ hx => sub_mem (sbN (sbN (sbN (sbY (sbY (sbY (sbY (sbY (sbY (sbE _)))))))))) hx) <| JA_1 11 V <| JB_st Z trivial 3 [_] Z Z Z Z Z Z Z Z Z (fun _ hx => sub_mem (sbN (sbN (sbN (sbY (sbY (sbY (sbY (sbY (sbY (sbE _)))))))))) hx) <| JA_done V ?_
    refine thenQ_n (MidN.mk (β77, β65, βf, βg) [] (h12.t h65|>.t h77|>.t h78|>.t h79) (.cons Z (.cons Z sk)) (List.Perm.trans (front_perm _ 0) (List.Perm.trans (front_perm _ 1) (List.Perm.trans (front_perm _ 3) (front_perm _ 3)))) trivial)
   refine JB_st Z trivial 1 [_] Z Z Z Z Z Z Z Z Z (fun _ hx => sub_mem (sbN (sbN (sbY (sbY (sbY (sbY (sbY (sbY (sbE _))))))))) hx) <| JA_1 7 V <| JB_mk Z trivial Z Z Z Z Z (by simp [ti4]; omega) O Z ?_
   intro βg s80 h80
   rw [rep_b]
   refine JA_1 11 V <| JB_st Z trivial 3 [_] Z Z Z Z Z Z Z Z Z (fun _ hx => sub_mem (sbN (sbN (sbN (sbY (sbY (sbY (sbY (sbY (sbY (sbE _)))))))))) hx) <| JA_done V ?_
   refine thenQ_n (MidN.mk (β77, β65, βf, βg) [] (h12.t h65|>.t h77|>.t h78|>.t h80) (.cons Z (.cons Z sk)) (List.Perm.trans (front_perm _ 0) (List.Perm.trans (front_perm _ 1) (List.Perm.trans (front_perm _ 3) (front_perm _ 3)))) trivial)
  refine JB_mk Z trivial Z Z Z Z Z (by simp [ti4]; omega) O Z ?_
  intro βg s81 h81
  rw [rep_b]
  refine JA_1 3 V <| JB_mk Z trivial Z Z Z Z Z (by simp [ti4]; omega) O Z ?_
  intro βf s82 h82
  rw [rep_b]
  refine JA_1 10 V <| JB_st Z trivial 2 [_] Z Z Z Z Z Z Z Z Z (fun _ hx => sub_mem (sbN (sbN (sbN (sbY (sbY (sbY (sbY (sbY (sbY (sbE _)))))))))) hx) <| JA_1 11 V <| JB_st Z trivial 3 [_] Z Z Z Z Z Z Z Z Z (fun _ hx => sub_mem (sbN (sbN (sbN (sbY (sbY (sbY (sbY (sbY (sbY (sbE _)))))))))) hx) <| JA_done V ?_
  refine thenQ_n (MidN.mk (β77, β65, βf, βg) [] (h12.t h65|>.t h77|>.t h81|>.t h82) (.cons Z (.cons Z sk)) (List.Perm.trans (front_perm _ 1) (List.Perm.trans (front_perm _ 1) (List.Perm.trans (front_perm _ 3) (front_perm _ 3)))) trivial)
 intro g s11 h11 I11
 simp only [c9, n9]
 obtain ⟨b7, b8, oF, oG⟩ := g
 dsimp only
 refine Zs <| Zr <| JO_allocZ Z [_] Z Z ?_
 intro β83 s83 h83
 refine Zn <| Zt <| Zs <| Zr <| JO_q (QE_func Z) Z <| JO_st 0 [_] Z Z Z Z Z Z Z Z Z <| Zn <| Zt <| Zs <| JC_front 5 <| JC_front 7 <| JC_front 10 <| JC_pubX [] [_, _, _, _, _, _] _ ?_
 intro s84 h84 hpub84
 simp only [c9, n9]
 have hE : TrE s84 p d _ _ _ _ _ _ oF oG bm Ag Af Ac ng cg nf cf cc := ⟨hpub84 _ _ _ (List.mem_cons_of_mem _ (List.mem_cons_of_mem _ (List.mem_cons_of_mem _ (List.mem_cons_of_mem _ (List.mem_cons_self ..))))), hpub84 _ _ _ (List.mem_cons_of_mem _ (List.mem_cons_of_mem _ (List.mem_cons_self ..))), hpub84 _ _ _ (List.mem_cons_self ..), hpub84 _ _ _ (List.mem_cons_of_mem _ (List.mem_cons_of_mem _ (List.mem_cons_of_mem _ (List.mem_cons_of_mem _ (List.mem_cons_of_mem _ (List.mem_cons_self ..)))))), hpub84 _ _ _ (List.mem_cons_of_mem _ (List.mem_cons_self ..)), hpub84 _ _ _ (List.mem_cons_of_mem _ (List.mem_cons_of_mem _ (List.mem_cons_of_mem _ (List.mem_cons_self ..)))), hM.le (h10.t h11|>.t h83|>.t h84), hGl.le (h1.t h2|>.t h3|>.t h4|>.t h5|>.t h6|>.t h9|>.t h10|>.t h11|>.t h83|>.t h84), hFn.le (h1.t h2|>.t h3|>.t h4|>.t h5|>.t h6|>.t h9|>.t h10|>.t h11|>.t h83|>.t h84), hCl.le (h5.t h6|>.t h9|>.t h10|>.t h11|>.t h83|>.t h84)⟩
   
 refine Zr <| JO_q (QE_ldsR0 Z Z Z (hE.xr.le (Lr D)) Z) Z <| JO_q (QE_fa Z Z Z Z) Z <| JO_q (QE_ldsR 2 Z Z Z (hE.xn.le (Lr D)) Z) Z <| JO_q (QE_cast (QE_lookupN KeyK.str mapTyM Z Z (hMs.le (h10.t h11|>.t h83|>.t h84))) (show (assoc es mainW).getD (.agg #[.int .i64 0, .int .i64 0]) = .agg #[.int .i64 4, .int .i64 (mi : Int)] by rw [hes mainW, hmf]; rfl)) Z <| JO_q (QE_field Z Z Z Z Z Z Z Z Z) Z ?_
 refine JO_call (first := []) (captured := [_, _, _, _, _, _]) Z Z Z (trc D (nf + 1) _ _ p d _ _ _ _ _ _ oF oG bm Ag Af Ac ng cg nf cf cc (hE.le (Lr D)) hV mi (List.replicate nf false) (List.replicate ng false) O (by simp) (by simp) (by rw [falses_rep]; omega)) ?_
 rintro _ _ s85 h85 ⟨rfl, F1, G1, rfl, hR⟩
 have hMk : marks p F1 G1 := marks_of hmi hml (by rw [← hn2, ← hn1]; exact hR)
 have hF1l := hMk.1
 have hG1l := hMk.2.1
 refine Zn <| Zt <| Zs <| Zr <| JO_allocZ Z [_, _] Z Z ?_
 intro β86 s86 h86
 refine Zn <| Zt <| Zs <| Zs <| Zr <| JO_q (QE_ldsA Z Z Z (hE.xp.le (h85.t h86)) Z) Z <| Jc Z Z Z (clonePub_ac D _ _ d p Ag _ ng cg nf cf (hE.gl.le (h85.t h86)) (hE.fn.le (h85.t h86)) hV) ?_
 rintro _ _ s87 h87 ⟨rfl, Cg, Cmg, Ceg, Cf, Cmf, Cef, rfl, ChG, ChF⟩
 refine JO_q (QE_field Z Z Z Z Z Z Z Z Z) Z <| Zqls Z Z Z Z <| Zqm Z Z <| Zn <| Zt <| Zp <| ?_
 refine JC_loop (γ := Nat × Value × Hl) (fun g => [(1, _), (2, _), (3, _), (7, _), (8, _), (10, _), (44, _), (45, _), (46, .int .i64 (g.1 : Int))]) (fun g => (β86, cb [g.2.1, .slice none 0 0] 25) :: _ :: _ :: _ :: _ :: _ :: (g.2.2 ++ L)) (fun g tw => Le D s87 tw ∧ (g.1 ≤ Cmg ∧ ∃ css, FL.Own 80 4 g.2.2 g.2.1 (keepB G1 (p.globals.take g.1)).length (List.flatten css) ∧ All2 (fun x cs => cs.length = 4 ∧ GlR tw x cs) (keepB G1 (p.globals.take g.1)) css)) (fun g => Cmg - g.1) (fun _ _ _ h hl => ⟨h.1.trans hl, ⟨h.2.1, by obtain ⟨css, q1, q2⟩ := h.2.2; exact ⟨css, q1, q2.mono fun _ _ k => ⟨k.1, k.2.le hl⟩⟩⟩⟩) (0, .slice none 0 0, []) (.cons Z (.cons Z (.cons Z (.cons Z (.cons Z (.cons Z (.cons Z (.cons Z (.cons Z (.nil _)))))))))) Z ⟨Le.refl _, ⟨Nat.zero_le _, [], by cases G1 <;> exact FL.Own.nil, by cases G1 <;> exact .nil⟩⟩ ?_
 intro g s88 I88
 obtain ⟨k, vo, Mo⟩ := g
 obtain ⟨hk0, css, hO, hA2⟩ := I88.2
 simp only at hk0 hO hA2
 dsimp only
 obtain ⟨Ao, co, rfl, _, _⟩ := Own.slice hO
 have hkl := keepB_le G1 (p.globals.take k)
 rw [List.length_take] at hkl
 refine Zs <| Zr <| Zqlt Z Z Z <| Zn <| Zt <| Zs <| ?_
 refine JC_ifD Z (fun c89 => ?_) (fun c89 => ?_)
 ·
  have hk : k < Cmg := by omega
  have hnC := ChG.1
  obtain ⟨b, off, x, Ai, ni, ci, rfl, hx, hcx, hix, hux, hnl⟩ := Glos.at_ (ChG.le I88.1) hk
  have hkg : k < ng := by omega
  have hkG : k < G1.length := by omega
  refine Zk <| Zt <| Zs <| Zp <| Zs <| Zr <| Zqm Z Z <| JO_q (QE_iaN Z Z Z Z Z Z hk) Z <| JO_q (QE_ldsA Z Z Z (hcx.le (Lr D)) Z) Z <| JO_allocZ Z [_, _, _, _] Z Z ?_
  intro β90 s90 h90
  refine Zqa Z Z <| JO_st 0 [_, _, _, _] Z Z Z Z Z Z Z Z Z <| Zn <| Zt <| Zs <| Zr <| JO_q (QE_ldsR0 Z Z Z (hE.xg.le (h85.t h86|>.t h87|>.t I88.1|>.t h90)) Z) Z <| Zqm Z Z <| JO_q (QE_ia1 Z Z Z Z Z Z hkg) Z <| JO_q (QE_ld1 3 Z Z Z Z (nth_b hkG)) Z <| Zn <| Zt <| ?_
  refine JC_if Z (fun c91 => ?_) (fun c91 => ?_)
  ·
   have hgt := c91
   refine Zr <| Zqf0 Z Z Z Z Z <| Zql 1 Z Z Z Z Z Z <| JO_q (QE_ldA 0 [_, _, _, _] Z Z Z Z Z) Z <| JO_bs [(_, _)] [_, _, _, _] Z Z Z Z Z Z Z Z Z ?_
   intro βn s92 h92 hcb
   refine JO_app (sz := 4) [_, _, _, _, _, _, _] Mo L Z Z Z Z Z Z Z hO (Row.of_cells (hcb.le (Lr D)) Z Z) ⟨by simp [ti80]; omega, by omega⟩ Z ?_
   intro vq Mq s93 h93 oq
   obtain ⟨Avq, cvq, rfl, _, _⟩ := Own.slice oq
   simp only [c9, n9]
   refine Zqf0 Z Z Z Z Z <| JO_st 1 [_, _] Z Z Z Z Z Z Z Z Z <| Zn <| Zb <| Zt <| Zr <| Zqadd Z Z Z (w64 O O) <| Zqm Z Z <| Zn <| ?_
   refine thenQ_n ⟨(k + 1, .slice Avq ((keepB G1 (p.globals.take k)).length + 1) cvq, Mq), [_], kp, Z, ⟨(I88.1.t h90|>.t h92|>.t h93), ⟨by simp only; omega, css ++ [[.int .i64 x.kind, St x.name, .int .u32 x.num, .slice Ai ni ci]], by simp only [List.flatten_append, List.flatten_cons, List.flatten_nil, List.append_nil]; rw [keepB_take hx, if_pos hgt, List.length_append]; exact oq, by simp only; rw [keepB_take hx, if_pos hgt]; exact all2_snoc' (hA2.mono fun _ _ k => ⟨k.1, k.2.le (h90.t h92|>.t h93)⟩) ⟨Z, Ai, ni, ci, Z, hix.le (h90.t h92|>.t h93), hux, hnl⟩⟩⟩, (by simp only; omega)⟩
  have hgt := c91
  refine Zk <| Zb <| Zt <| Zr <| Zqadd Z Z Z (w64 O O) <| Zqm Z Z <| Zn <| ?_
  refine thenQ_n ⟨(k + 1, _, Mo), [_], kp, Z, ⟨(I88.1.t h90), ⟨by simp only; omega, css, by simp only; rw [keepB_take hx, if_neg (by rw [hgt]; decide), List.append_nil]; exact hO, by simp only; rw [keepB_take hx, if_neg (by rw [hgt]; decide), List.append_nil]; exact hA2.mono fun _ _ k => ⟨k.1, k.2.le h90⟩⟩⟩, (by simp only; omega)⟩
 have hnC := ChG.1
 obtain rfl : Cmg = k := by omega
 rw [List.take_of_length_le O] at hO hA2 ⊢
 refine Zl <| Zv <| Zv <| Zd <| Zt <| Zs <| Zs <| JC_pubX [_, _, _, _, _, _] Mo _ ?_
 intro s94 h94 hpub94
 simp only [c9, n9]
 have hGN : Glos s94 Ao (keepB G1 p.globals).length co (keepB G1 p.globals) := Own.rows hO hpub94 (hA2.mono fun _ _ k => ⟨k.1, k.2.le h94⟩) rfl
 obtain ⟨Go, hGo⟩ : ∃ Go, Go = Ao := ⟨_, rfl⟩
 obtain ⟨mg2, hmg2⟩ : ∃ m, m = (keepB G1 p.globals).length := ⟨_, rfl⟩
 obtain ⟨eg2, heg2⟩ : ∃ eg, eg = co := ⟨_, rfl⟩
 rw [← hGo, ← hmg2, ← heg2] at hGN ⊢
 clear hGo hmg2 heg2 hO hA2
 refine Zr <| JO_q (QE_ldsA Z Z Z (hE.xp.le (h85.t h86|>.t h87|>.t I88.1|>.t h94)) Z) Z <| Jc Z Z Z (clonePub_ac D _ _ d p Ag _ ng cg nf cf (hE.gl.le (h85.t h86|>.t h87|>.t I88.1|>.t h94)) (hE.fn.le (h85.t h86|>.t h87|>.t I88.1|>.t h94)) hV) ?_
 rintro _ _ s95 h95 ⟨rfl, Eg, Emg, Eeg, Ef, Emf, Eef, rfl, EhG, EhF⟩
 refine JO_q (QE_field Z Z Z Z Z Z Z Z Z) Z <| Zqls Z Z Z Z <| Zqm Z Z <| Zn <| Zt <| Zp <| ?_
 refine JC_loop (γ := Nat × Value × Hl) (fun g => [(2, _), (3, _), (7, _), (10, _), (64, _), (65, _), (66, .int .i64 (g.1 : Int))]) (fun g => (β86, cb [.slice Go mg2 eg2, g.2.1] 25) :: _ :: _ :: _ :: _ :: _ :: (g.2.2 ++ L)) (fun g tw => Le D s95 tw ∧ (g.1 ≤ Emf ∧ ∃ css, FL.Own 55 4 g.2.2 g.2.1 (keepB F1 (p.funcs.take g.1)).length (List.flatten css) ∧ All2 (fun x cs => cs.length = 4 ∧ FnR d tw x cs) (keepB F1 (p.funcs.take g.1)) css)) (fun g => Emf - g.1) (fun _ _ _ h hl => ⟨h.1.trans hl, ⟨h.2.1, by obtain ⟨css, q1, q2⟩ := h.2.2; exact ⟨css, q1, q2.mono fun _ _ k => ⟨k.1, k.2.le hl⟩⟩⟩⟩) (0, .slice none 0 0, []) (.cons Z (.cons Z (.cons Z (.cons Z (.cons Z (.cons Z (.cons Z (.nil _)))))))) Z ⟨Le.refl _, ⟨Nat.zero_le _, [], by cases F1 <;> exact FL.Own.nil, by cases F1 <;> exact .nil⟩⟩ ?_
 intro g s96 I96
 obtain ⟨k, vo, Mo⟩ := g
 obtain ⟨hk0, css, hO, hA2⟩ := I96.2
 simp only at hk0 hO hA2
 dsimp only
 obtain ⟨Ao, co, rfl, _, _⟩ := Own.slice hO
 have hkl := keepB_le F1 (p.funcs.take k)
 rw [List.length_take] at hkl
 refine Zs <| Zr <| Zqlt Z Z Z <| Zn <| Zt <| Zs <| ?_
 refine JC_ifD Z (fun c97 => ?_) (fun c97 => ?_)
 ·
  have hk : k < Emf := by omega
  have hnE := EhF.1
  obtain ⟨b, off, x, B1, m1, d1, B2, m2, d2, B3, m3, d3, rfl, hx, hcx, hpx, hlx, hbx, hnl⟩ := Fncs.at_ (EhF.le I96.1) hk
  have hkf : k < nf := by omega
  have hkF : k < F1.length := by omega
  refine Zk <| Zt <| Zs <| Zp <| Zs <| Zr <| Zqm Z Z <| JO_q (QE_iaN Z Z Z Z Z Z hk) Z <| JO_q (QE_ldsA Z Z Z (hcx.le (Lr D)) Z) Z <| JO_allocZ Z [_, _, _, _] Z Z ?_
  intro β98 s98 h98
  refine Zqa Z Z <| JO_st 0 [_, _, _, _] Z Z Z Z Z Z Z Z Z <| Zn <| Zt <| Zs <| Zr <| JO_q (QE_ldsR0 Z Z Z (hE.xf.le (h85.t h86|>.t h87|>.t I88.1|>.t h94|>.t h95|>.t I96.1|>.t h98)) Z) Z <| Zqm Z Z <| JO_q (QE_ia1 Z Z Z Z Z Z hkf) Z <| JO_q (QE_ld1 2 Z Z Z Z (nth_b hkF)) Z <| Zn <| Zt <| ?_
  refine JC_if Z (fun c99 => ?_) (fun c99 => ?_)
  ·
   have hgt := c99
   refine Zr <| ZqfB Z Z Z Z Z <| Zql 1 Z Z Z Z Z Z <| JO_q (QE_ldA 0 [_, _, _, _] Z Z Z Z Z) Z <| JO_bs [(_, _)] [_, _, _, _] Z Z Z Z Z Z Z Z Z ?_
   intro βn s100 h100 hcb
   refine JO_app (sz := 4) [_, _, _, _, _, _, _] Mo L Z Z Z Z Z Z Z hO (Row.of_cells (hcb.le (Lr D)) Z Z) ⟨by simp [ti55]; omega, by omega⟩ Z ?_
   intro vq Mq s101 h101 oq
   obtain ⟨Avq, cvq, rfl, _, _⟩ := Own.slice oq
   simp only [c9, n9]
   refine ZqfB Z Z Z Z Z <| JO_st 1 [_, _] Z Z Z Z Z Z Z Z Z <| Zn <| Zb <| Zt <| Zr <| Zqadd Z Z Z (w64 O O) <| Zqm Z Z <| Zn <| ?_
   refine thenQ_n ⟨(k + 1, .slice Avq ((keepB F1 (p.funcs.take k)).length + 1) cvq, Mq), [_], kp, Z, ⟨(I96.1.t h98|>.t h100|>.t h101), ⟨by simp only; omega, css ++ [[St x.name, .slice B1 m1 d1, .slice B2 m2 d2, .slice B3 m3 d3]], by simp only [List.flatten_append, List.flatten_cons, List.flatten_nil, List.append_nil]; rw [keepB_take hx, if_pos hgt, List.length_append]; exact oq, by simp only; rw [keepB_take hx, if_pos hgt]; exact all2_snoc' (hA2.mono fun _ _ k => ⟨k.1, k.2.le (h98.t h100|>.t h101)⟩) ⟨Z, B1, m1, d1, B2, m2, d2, B3, m3, d3, Z, hpx.le (h98.t h100|>.t h101), hlx.le (h98.t h100|>.t h101), hbx.le (h98.t h100|>.t h101), hnl⟩⟩⟩, (by simp only; omega)⟩
  have hgt := c99
  refine Zk <| Zb <| Zt <| Zr <| Zqadd Z Z Z (w64 O O) <| Zqm Z Z <| Zn <| ?_
  refine thenQ_n ⟨(k + 1, _, Mo), [_], kp, Z, ⟨(I96.1.t h98), ⟨by simp only; omega, css, by simp only; rw [keepB_take hx, if_neg (by rw [hgt]; decide), List.append_nil]; exact hO, by simp only; rw [keepB_take hx, if_neg (by rw [hgt]; decide), List.append_nil]; exact hA2.mono fun _ _ k => ⟨k.1, k.2.le h98⟩⟩⟩, (by simp only; omega)⟩
 have hnE := EhF.1
 obtain rfl : Emf = k := by omega
 rw [List.take_of_length_le O] at hO hA2 ⊢
 refine Zl <| Zv <| Zv <| Zd <| Zt <| Zs <| Zr <| JO_q (QE_ldA 0 [_, _] Z Z Z Z Z) Z <| JO_q (QE_build [] [_, _] Z Z Z Z Z Z) Z <| JO_st 5 [_, _] Z Z Z Z Z Z Z Z Z <| JO_st 4 [_, _] Z Z Z Z Z Z Z Z Z <| Zn <| Zt <| Zo <| ?_
 refine retQ_mk [_, _, _, _, _, _] _ (.inr Z) (.agg (us := [_, _]) 5 Z Z Z Z Z (.agg (us := [_, _]) 4 Z Z Z Z Z (.nil))) Z (h1.t h2|>.t h3|>.t h4|>.t h5|>.t h6|>.t h9|>.t h10|>.t h11|>.t h83|>.t h84|>.t h85|>.t h86|>.t h87|>.t I88.1|>.t h94|>.t h95|>.t I96.1) (fun sR hS2 => ?_)
 exact ⟨Mo, rfl, fun s2 hs2 hp => ⟨⟨keepB G1 p.globals, keepB F1 p.funcs⟩, .inr ⟨g4.1, F1, G1, hMk, rfl⟩, _, _, _, _, _, _, by rw [hz0]; rfl, hGN.le (h95.t I96.1|>.t (hS2.t hs2)), Own.rows hO hp (hA2.mono fun _ _ k => ⟨k.1, k.2.le ((Lr D).t (hS2.t hs2))⟩) rfl⟩⟩
theorem trim_ac (D : Nat) (L : Hl) (s : World) (hG : GP s) (d : Nat) (p : Prg) (Ag Af : Option Addr) (ng cg nf cf : Nat) (hGl : Glos s Ag ng cg p.globals) (hFn : Fncs d s Af nf cf p.funcs) : AC Tryz.prog D 19 [.agg #[.slice Ag ng cg, .slice Af nf cf]] L s fun v L' s' => L = L' ∧ ∃ q, TrimR p q ∧ ∃ Bg mg eg Bf mf ef, v = .tuple #[.agg #[.slice Bg mg eg, .slice Bf mf ef], .agg #[.int .i64 (chkF p).1, .int .i64 (chkF p).2]] ∧ Glos s' Bg mg eg q.globals ∧ Fncs d s' Bf mf ef q.funcs := AC.pubW (trimO_ac D L s hG d p Ag Af ng cg nf cf hGl hFn)
def gnumOf (p : Prg) (i : Int) : Int := match p.globals[i.toNat]? with
  | some g => g.num
  | none => 0
theorem gnumOf_at {p : Prg} {k : Nat} {x : Glo} (h : p.globals[k]? = some x) : gnumOf p (k : Int) = x.num := by rw [gnumOf, Int.toNat_natCast, h]
def numP (p : Prg) (f : Fnc) (x : Ex) : Option Int :=
  if x.kind = 2 then (if (meanP p f x.name).1.1 = 3 ∧ gkOf p (meanP p f x.name).1.2 = 1 then some (gnumOf p (meanP p f x.name).1.2) else none)
  else if x.kind = 6 then (match x.args with
    | a :: _ => if a.kind = 1 ∧ (oprF x.op 0).1 = 0 then some (opP x.op a.num 0) else none
    | [] => none)
  else if x.kind = 7 then (match x.args with
    | a :: b :: _ => if a.kind = 1 then (if b.kind = 1 then (if (oprF x.op b.num).1 = 0 then some (opP x.op a.num b.num) else none) else if x.op = 20 ∧ a.num = 0 then some 0 else if x.op = 21 ∧ a.num ≠ 0 then some 1 else none) else none
    | _ => none)
  else none
theorem num_6 {p : Prg} {f : Fnc} {x a : Ex} (h2 : ¬ x.kind = 2) (h6 : x.kind = 6) (ha : x.args[0]? = some a) : numP p f x = if a.kind = 1 ∧ (oprF x.op 0).1 = 0 then some (opP x.op a.num 0) else none := by
  rw [numP, if_neg h2, if_pos h6]
  cases h : x.args with
  | nil => rw [h] at ha; cases ha
  | cons y r => rw [h] at ha; simp at ha; subst ha; rfl
theorem num_7 {p : Prg} {f : Fnc} {x a b : Ex} (h2 : ¬ x.kind = 2) (h6 : ¬ x.kind = 6) (h7 : x.kind = 7) (ha : x.args[0]? = some a) (hb : x.args[1]? = some b) : numP p f x = if a.kind = 1 then (if b.kind = 1 then (if (oprF x.op b.num).1 = 0 then some (opP x.op a.num b.num) else none) else if x.op = 20 ∧ a.num = 0 then some 0 else if x.op = 21 ∧ a.num ≠ 0 then some 1 else none) else none := by
  rw [numP, if_neg h2, if_neg h6, if_pos h7]
  cases h : x.args with
  | nil => rw [h] at ha; cases ha
  | cons y r =>
    cases r with
    | nil => rw [h] at hb; cases hb
    | cons z r => rw [h] at ha hb; simp at ha hb; subst ha; subst hb; rfl
theorem num_o {c : Int × Int} {v : Int} (hc : c.1 = 0 → c = (0, 0)) : Value.tuple #[.int .u32 (if c.1 = 0 then v else 0), .bool (decide (c.1 = 0 ∧ c.2 = 0))] = .tuple #[.int .u32 ((if c.1 = 0 then some v else none : Option Int).getD 0), .bool (if c.1 = 0 then some v else none : Option Int).isSome] := by
  by_cases h : c.1 = 0
  · have := hc h; simp [this]
  · simp [h]
theorem opr_00 {k y : Int} (h : (oprF k y).1 = 0) : oprF k y = (0, 0) := by
  unfold oprF at h ⊢
  split at h
  · cases h
  rename_i h1
  rw [if_neg h1]
  split at h
  · cases h
  rename_i h2
  rw [if_neg h2]
theorem isn_ac (D : Nat) (L : Hl) (s : World) (bx d : Nat) (k o u : Int) (nm : List UInt8) (A : Option Addr) (n c i : Nat) (xs : List Ex) (hA : Exs d s A n c xs) (a : Ex) (ha : xs[i]? = some a) : AC Tryz.prog D 121 [.int .i64 (i : Int), .pointer (some ⟨bx, 0, none⟩)] ((bx, cb [.int .i64 k, .int .i64 o, .int .u32 u, St nm, .slice A n c] 61) :: L) s fun v L' _ => v = .bool (decide (a.kind = 1)) ∧ L' = (bx, cb [.int .i64 k, .int .i64 o, .int .u32 u, St nm, .slice A n c] 61) :: L := by
 have hi : i < n := by rw [hA.1]; exact (List.getElem?_eq_some_iff.1 ha).1
 obtain ⟨e, b, off, y, A', n', c', hd, rfl, hy, hcy, hay, huy, hnl⟩ := Exs.at_ hA hi
 obtain rfl : a = y := by rw [ha] at hy; injection hy
 refine AC_enter (TT := TT) (fn := Tryz.f121) TT_ok Tryz.func121 V Z Tryz.ntmps121 Z (rs := [.tmp 3]) Z [(0, _), (1, _)] Z <| Zs <| Zr <| Zqa Z Z <| Zn <| Zt <| Zs <| Zr <| ZqfB Z Z Z Z Z <| Zql 0 Z Z Z Z Z Z <| Zqm Z Z <| JO_q (QE_iaN Z Z Z Z Z Z hi) Z <| Zqf0 Z Z Z Z Z <| JO_q (QE_ldsR0 Z Z Z (hcy.le (Lr D)) Z) Z <| Zqeq Z Z Z <| Zqa Z Z <| Zn <| Zt <| Zo <| ?_
 refine retQ_mk [] _ (.inr Z) (.tmp Z (.nil)) Z (Lr D) (fun sR hS2 => ?_)
 exact ⟨rfl, rfl⟩
theorem number2_ac (D : Nat) (L : Hl) (s : World) (bm : Nat) (Ag Af : Option Addr) (ng cg nf cf : Nat) (p : Prg) (hM : NmOK s bm p) (hGl : Glos s Ag ng cg p.globals) (f : Fnc) (B1 B2 B3 : Option Addr) (m1 d1 m2 d2 m3 d3 : Nat) (hpx : Strs s B1 m1 d1 f.params) (hlx : Strs s B2 m2 d2 f.locals) (d : Nat) (x : Ex) (A : Option Addr) (n c : Nat) (hA : Exs d s A n c x.args) (hl6 : x.kind = 6 → 1 ≤ x.args.length) (hl7 : x.kind = 7 → 2 ≤ x.args.length) : AC Tryz.prog D 92 [.agg #[.slice Ag ng cg, .slice Af nf cf, .map (some bm), St f.name, .slice B1 m1 d1, .slice B2 m2 d2, .slice B3 m3 d3], .agg #[.int .i64 x.kind, .int .i64 x.op, .int .u32 x.num, St x.name, .slice A n c]] L s fun v L' _ => v = .tuple #[.int .u32 ((numP p f x).getD 0), .bool (numP p f x).isSome] ∧ L = L' := by
 have hn1 := hGl.1
 have hn9 := hA.1
 refine AC_enter (TT := TT) (fn := Tryz.f92) TT_ok Tryz.func92 V Z Tryz.ntmps92 Z (rs := [.tmp 4, .tmp 5]) Z [(0, _), (1, _)] Z <| Zs <| Zr <| JO_boxA Z Z ?_
 intro β1 s1 h1
 refine JO_boxA Z Z ?_
 intro β2 s2 h2
 refine Zqa Z Z <| Zqa Z Z <| Zn <| Zt <| Zs <| Zr <| JO_q (QE_func Z) Z <| Zqa Z Z <| Zn <| Zt <| Zs <| Zs <| Zr <| Zqf0 Z Z Z Z Z <| Zql 0 Z Z Z Z Z Z <| Zn <| Zt <| Zp <| Zs <| Zr <| Zqeq Z Z Z <| Zqa Z Z <| Zn <| Zt <| ?_
 refine JC_ifD Z (fun c3 => ?_) (fun c3 => ?_)
 ·
  have g2 := c3
  refine Zs <| Zr <| Zqf0 Z Z Z Z Z <| JO_q (QE_ldA 1 [_, _, _] Z Z Z Z Z) Z <| ZqfB Z Z Z Z Z <| JO_q (QE_ldA 1 [_, _, _, _] Z Z Z Z Z) Z <| ZqfB Z Z Z Z Z <| Zql 0 Z Z Z Z Z Z <| Jc Z Z Z (mean_ac D _ _ p Ag Af ng cg nf cf bm (hM.le (h1.t h2)) f B1 B2 B3 m1 d1 m2 d2 m3 d3 (hpx.le (h1.t h2)) (hlx.le (h1.t h2)) x.name) ?_
  rintro _ _ s4 h4 ⟨rfl, rfl⟩
  refine Zqm Z Z <| Zqx Z Z Z <| Zqx Z Z Z <| JO_allocZ Z [_, _] Z Z ?_
  intro β5 s5 h5
  refine JO_st 0 [_, _] Z Z Z Z Z Z Z Z Z <| Zqa Z Z <| Zn <| Zt <| Zs <| Zs <| ?_
  rcases Classical.em ((meanP p f x.name).1.1 = 3) with g3 | g3
  ·
   have hk3 : ∃ k : Nat, (meanP p f x.name).1.2 = (k : Int) ∧ k < p.globals.length := by
     cases h3 : (meanP p f x.name).2 with
     | false => rw [mean_zero h3] at g3; cases g3
     | true =>
       rcases mean_kind h3 with q4 | ⟨_, q4⟩ | ⟨q4, _⟩
       · rw [g3] at q4; rcases q4 with q4 | q4 <;> cases q4
       · exact q4
       · rw [g3] at q4; cases q4
   obtain ⟨gi, hgi, hgl⟩ := hk3
   obtain ⟨b, off, z, Ai, ni, ci, rfl, hz, hcz, hiz, huz, hnz⟩ := Glos.at_ (hGl.le (h1.t h2|>.t h4|>.t h5)) (show gi < ng by omega)
   have hgk := gkOf_at hz
   have hgn := gnumOf_at hz
   refine Zr <| Zqf0 Z Z Z Z Z <| Zql 0 Z Z Z Z Z Z <| JO_q (QE_cast (v' := .bool false) (QE_ne Z Z) (bF g3)) Z <| Zqm Z Z <| Zg Z Z <| Zqf0 Z Z Z Z Z <| Zg Z Z <| Zqf0 Z Z Z Z Z <| Zg Z Z <| Zqf0 Z Z Z Z Z <| Zg Z Z <| Zql 2 Z Z Z Z Z Z <| Zg Z Z <| ZqfB Z Z Z Z Z <| Zg Z Z <| Zql 0 Z Z Z Z Z Z <| Zg Z Z <| JO_q (QE_iaN (j := gi) Z (show lk _ _ = some (.int .i64 (gi : Int)) from by rw [← hgi]; rfl) Z Z Z Z (show gi < ng by omega)) Z <| Zg Z Z <| Zqf0 Z Z Z Z Z <| Zg Z Z <| JO_q (QE_ldsR0 Z Z Z (hcz.le (Lr D)) Z) Z <| Zg Z Z <| Zqne Z Z Z <| ZqF Z Z Z <| Zn <| Zt <| ?_
   refine JC_ifN Z (fun c6 => ?_) (fun c6 => ?_)
   ·
    have hE : numP p f x = none := by rw [numP, if_pos g2, if_neg]; rintro ⟨q1, q2⟩; rw [hgi, hgk] at q2; exact c6 q2
    refine Zs <| Zr <| Zqa Z Z <| Zqa Z Z <| Zn <| Zt <| Zo <| Zu <| Zc <| Zu <| ?_
    refine retQ_mk [_, _, _] L (.inr Z) (.tmp Z (.tmp Z (.nil))) Z (h1.t h2|>.t h4|>.t h5) (fun sR hS2 => ?_)
    exact ⟨by rw [hE]; rfl, rfl⟩
   have hE : numP p f x = some z.num := by rw [numP, if_pos g2, if_pos ⟨g3, by rw [hgi, hgk]; exact c6⟩, hgi, hgn]
   refine Zk <| Zt <| Zs <| Zr <| Zqf0 Z Z Z Z Z <| Zqf0 Z Z Z Z Z <| Zqf0 Z Z Z Z Z <| Zql 2 Z Z Z Z Z Z <| ZqfB Z Z Z Z Z <| Zql 0 Z Z Z Z Z Z <| JO_q (QE_iaN (j := gi) Z (show lk _ _ = some (.int .i64 (gi : Int)) from by rw [← hgi]; rfl) Z Z Z Z (show gi < ng by omega)) Z <| JO_q (QE_fa Z Z Z Z) Z <| JO_q (QE_ldsR 2 Z Z Z (hcz.le (Lr D)) Z) Z <| Zqa Z Z <| Zqa Z Z <| Zn <| Zt <| Zo <| Zc <| Zu <| ?_
   refine retQ_mk [_, _, _] L (.inr Z) (.tmp Z (.tmp Z (.nil))) Z (h1.t h2|>.t h4|>.t h5) (fun sR hS2 => ?_)
   exact ⟨by rw [hE]; rfl, rfl⟩
  refine Zr <| Zqf0 Z Z Z Z Z <| Zql 0 Z Z Z Z Z Z <| JO_q (QE_cast (v' := .bool true) (QE_ne Z Z) (bN g3)) Z <| Zqm Z Z <| Zf Z Z Z Z <| Zf Z Z Z Z <| Zf Z Z Z Z <| Zf Z Z Z Z <| Zf Z Z Z Z <| Zf Z Z Z Z <| Zf Z Z Z Z <| Zf Z Z Z Z <| Zf Z Z Z Z <| Zf Z Z Z Z <| ZqT Z Z Z <| Zn <| Zt <| Zy Z <| ?_
  have hE : numP p f x = none := by rw [numP, if_pos g2, if_neg]; rintro ⟨q1, q2⟩; exact g3 q1
  refine Zs <| Zr <| Zqa Z Z <| Zqa Z Z <| Zn <| Zt <| Zo <| Zu <| Zc <| Zu <| ?_
  refine retQ_mk [_, _, _] L (.inr Z) (.tmp Z (.tmp Z (.nil))) Z (h1.t h2|>.t h4|>.t h5) (fun sR hS2 => ?_)
  exact ⟨by rw [hE]; rfl, rfl⟩
 have g2 := c3
 refine Zs <| Zr <| Zqeq Z Z Z <| Zqa Z Z <| Zn <| Zt <| ?_
 refine JC_ifD Z (fun c7 => ?_) (fun c7 => ?_)
 ·
  have g6 := c7
  have h0n : 0 < n := by have := hl6 g6; omega
  obtain ⟨e, b, off, a, A', n', c', hd, rfl, ha, hca, _, hua, _⟩ := Exs.at_ (hA.le (h1.t h2)) h0n
  have hE6 := num_6 (p := p) (f := f) g2 g6 ha
  refine Zs <| Zs <| Zr <| Zqm Z Z <| JO_call (first := []) (captured := [_]) Z Z Z (isn_ac D _ _ _ d _ _ _ _ _ n c 0 x.args (hA.le (h1.t h2)) a ha) ?_
  rintro _ _ s8 h8 ⟨rfl, rfl⟩
  refine Zqno Z Z <| Zn <| Zt <| ?_
  refine JC_ifN Z (fun c9 => ?_) (fun c9 => ?_)
  ·
   have hE : numP p f x = none := by rw [hE6, if_neg (fun h => c9 h.1)]
   refine Zs <| Zr <| Zqa Z Z <| Zqa Z Z <| Zn <| Zt <| Zo <| Zu <| Zc <| Zu <| ?_
   refine retQ_mk [_, _] L (.inr Z) (.tmp Z (.tmp Z (.nil))) Z (h1.t h2|>.t h8) (fun sR hS2 => ?_)
   exact ⟨by rw [hE]; rfl, rfl⟩
  have g57 := c9
  have hE9 : numP p f x = if (oprF x.op 0).1 = 0 then some (opP x.op a.num 0) else none := by
    rw [hE6]
    by_cases h : (oprF x.op 0).1 = 0
    · rw [if_pos ⟨g57, h⟩, if_pos h]
    · rw [if_neg (fun k => h k.2), if_neg h]
  refine Zk <| Zt <| Zs <| JC_draw drawsMixed 14 Z _ (fun _ h => h) ?_
  intro s10 h10
  refine za 0 Z (QE_faB Z Z Z Z) Z <| za 1 Z (QE_ld1 0 Z Z Z Z Z) Z <| za 2 Z (QE_faB Z Z Z Z) Z <| za 3 Z (QE_ld1 0 Z Z Z Z Z) Z <| za 4 Z (QE_iaN (j := 0) Z Z Z Z Z Z h0n) Z <| za 5 Z (QE_fa Z Z Z Z) Z <| za 6 Z (QE_ldsR 2 Z Z Z (hca.le (h8.t h10)) Z) Z ?_
  refine JA_2 7 11 V ?_ ?_
  ·
   refine Jb Z trivial Z Z Z (operate_ac D _ _ x.op a.num 0 hua ⟨by decide, by decide⟩) ?_
   rintro _ _ s11 h11 ⟨rfl, rfl⟩
   refine ⟨fun _ _ h => h, ?_⟩
   refine za 8 Z (QE_mv Z) Z <| za 9 Z (QE_ext Z Z) Z <| za 10 Z (QE_ext Z Z) Z <| JA_1 11 V <| JB_alloc Z trivial Z [_, _] Z Z ?_
   intro β12 s12 h12
   refine za 12 Z (QE_as Z) Z <| JA_1 13 V <| JB_st Z trivial 0 [_, _] Z Z Z Z Z Z Z Z Z (fun _ hx => sub_mem (sbY (sbY (sbE _))) hx) <| JA_done V <| Zt <| Zs <| JC_draw drawsMixed 6 Z _ (fun _ h => h) ?_
   intro s13 h13
   refine za 0 Z (QE_mv Z) Z <| za 1 Z (QE_ldA 0 [_, _] Z Z Z Z Z) Z <| za 2 Z (QE_build [] [_, _] Z Z Z Z Z Z) Z <| za 3 Z (QE_aeq Z Z (eqFault _ _ _ _)) Z <| za 4 Z (QE_as Z) Z <| za 5 Z (QE_as Z) Z <| JA_done V <| Zt <| Zo <| Zc <| Zu <| ?_
   refine retQ_mk [_, _, _] L (.inr Z) (.tmp Z (.tmp Z (.nil))) Z (h1.t h2|>.t h8|>.t h10|>.t h11|>.t h12|>.t h13) (fun sR hS2 => ?_)
   exact ⟨by rw [hE9]; exact num_o opr_00, rfl⟩
  refine JB_alloc Z trivial Z [_, _] Z Z ?_
  intro β14 s14 h14
  refine JA_1 7 V <| Jb Z trivial Z Z Z (operate_ac D _ _ x.op a.num 0 hua ⟨by decide, by decide⟩) ?_
  rintro _ _ s15 h15 ⟨rfl, rfl⟩
  refine ⟨fun _ _ h => h, ?_⟩
  refine za 8 Z (QE_mv Z) Z <| za 9 Z (QE_ext Z Z) Z <| za 10 Z (QE_ext Z Z) Z <| za 12 Z (QE_as Z) Z <| JA_1 13 V <| JB_st Z trivial 0 [_, _] Z Z Z Z Z Z Z Z Z (fun _ hx => sub_mem (sbY (sbY (sbE _))) hx) <| JA_done V <| Zt <| Zs <| JC_draw drawsMixed 6 Z _ (fun _ h => h) ?_
  intro s16 h16
  refine za 0 Z (QE_mv Z) Z <| za 1 Z (QE_ldA 0 [_, _] Z Z Z Z Z) Z <| za 2 Z (QE_build [] [_, _] Z Z Z Z Z Z) Z <| za 3 Z (QE_aeq Z Z (eqFault _ _ _ _)) Z <| za 4 Z (QE_as Z) Z <| za 5 Z (QE_as Z) Z <| JA_done V <| Zt <| Zo <| Zc <| Zu <| ?_
  refine retQ_mk [_, _, _] L (.inr Z) (.tmp Z (.tmp Z (.nil))) Z (h1.t h2|>.t h8|>.t h10|>.t h14|>.t h15|>.t h16) (fun sR hS2 => ?_)
  exact ⟨by rw [hE9]; exact num_o opr_00, rfl⟩
 have g6 := c7
 refine Zs <| Zr <| Zqeq Z Z Z <| Zqa Z Z <| Zn <| Zt <| ?_
 refine JC_ifD Z (fun c17 => ?_) (fun c17 => ?_)
 ·
  have g7 := c17
  have h0n : 0 < n := by have := hl7 g7; omega
  have h1n : 1 < n := by have := hl7 g7; omega
  obtain ⟨e, b0, off, a, A', n', c', hd, rfl, ha, hca, _, hua, _⟩ := Exs.at_ (hA.le (h1.t h2)) h0n
  obtain ⟨e2, b02, off2, b, A2', n2', c2', hd2, hA2, hb, hcb, _, hub, _⟩ := Exs.at_ (hA.le (h1.t h2)) h1n
  injection hA2 with hA2
  injection hA2 with hA3 hA4
  subst hA3; subst hA4
  have hE7 := num_7 (p := p) (f := f) g2 g6 g7 ha hb
  refine Zs <| Zs <| Zr <| Zqm Z Z <| JO_call (first := []) (captured := [_]) Z Z Z (isn_ac D _ _ _ d _ _ _ _ _ n c 0 x.args (hA.le (h1.t h2)) a ha) ?_
  rintro _ _ s18 h18 ⟨rfl, rfl⟩
  refine Zqno Z Z <| Zn <| Zt <| ?_
  refine JC_ifN Z (fun c19 => ?_) (fun c19 => ?_)
  ·
   have hE : numP p f x = none := by rw [hE7, if_neg c19]
   refine Zs <| Zr <| Zqa Z Z <| Zqa Z Z <| Zn <| Zt <| Zo <| Zu <| Zc <| Zu <| ?_
   refine retQ_mk [_, _] L (.inr Z) (.tmp Z (.tmp Z (.nil))) Z (h1.t h2|>.t h18) (fun sR hS2 => ?_)
   exact ⟨by rw [hE]; rfl, rfl⟩
  rw [if_pos c19] at hE7
  refine Zk <| Zt <| Zs <| Zr <| ZqfB Z Z Z Z Z <| Zql 0 Z Z Z Z Z Z <| JO_q (QE_iaN (j := 0) Z Z Z Z Z Z h0n) Z <| JO_q (QE_fa Z Z Z Z) Z <| JO_q (QE_ldsR 2 Z Z Z (hca.le h18) Z) Z <| Zqa Z Z <| Zn <| Zt <| Zp <| Zs <| Zr <| Zqm Z Z <| JO_call (first := []) (captured := [_]) Z Z Z (isn_ac D _ _ _ d _ _ _ _ _ n c 1 x.args (hA.le (h1.t h2|>.t h18)) b hb) ?_
  rintro _ _ s20 h20 ⟨rfl, rfl⟩
  refine Zqa Z Z <| Zn <| Zt <| ?_
  refine JC_ifD Z (fun c21 => ?_) (fun c21 => ?_)
  ·
   have hE9 : numP p f x = if (oprF x.op b.num).1 = 0 then some (opP x.op a.num b.num) else none := by rw [hE7, if_pos c21]
   refine Zs <| JC_draw drawsMixed 15 Z _ (fun _ h => h) ?_
   intro s22 h22
   refine za 0 Z (QE_faB Z Z Z Z) Z <| za 1 Z (QE_ld1 0 Z Z Z Z Z) Z <| za 2 Z (QE_mv Z) Z <| za 3 Z (QE_faB Z Z Z Z) Z <| za 4 Z (QE_ld1 0 Z Z Z Z Z) Z <| za 5 Z (QE_iaN (j := 1) Z Z Z Z Z Z h1n) Z <| za 6 Z (QE_fa Z Z Z Z) Z <| za 7 Z (QE_ldsR 2 Z Z Z (hcb.le (h18.t h20|>.t h22)) Z) Z ?_
   refine JA_2 8 12 V ?_ ?_
   ·
    refine Jb Z trivial Z Z Z (operate_ac D _ _ x.op a.num b.num hua hub) ?_
    rintro _ _ s23 h23 ⟨rfl, rfl⟩
    refine ⟨fun _ _ h => h, ?_⟩
    refine za 9 Z (QE_mv Z) Z <| za 10 Z (QE_ext Z Z) Z <| za 11 Z (QE_ext Z Z) Z <| JA_1 12 V <| JB_alloc Z trivial Z [_, _] Z Z ?_
    intro β24 s24 h24
    refine za 13 Z (QE_as Z) Z <| JA_1 14 V <| JB_st Z trivial 0 [_, _] Z Z Z Z Z Z Z Z Z (fun _ hx => sub_mem (sbY (sbY (sbE _))) hx) <| JA_done V <| Zt <| Zs <| JC_draw drawsMixed 6 Z _ (fun _ h => h) ?_
    intro s25 h25
    refine za 0 Z (QE_mv Z) Z <| za 1 Z (QE_ldA 0 [_, _] Z Z Z Z Z) Z <| za 2 Z (QE_build [] [_, _] Z Z Z Z Z Z) Z <| za 3 Z (QE_aeq Z Z (eqFault _ _ _ _)) Z <| za 4 Z (QE_as Z) Z <| za 5 Z (QE_as Z) Z <| JA_done V <| Zt <| Zo <| Zc <| Zc <| Zu <| ?_
    refine retQ_mk [_, _, _] L (.inr Z) (.tmp Z (.tmp Z (.nil))) Z (h1.t h2|>.t h18|>.t h20|>.t h22|>.t h23|>.t h24|>.t h25) (fun sR hS2 => ?_)
    exact ⟨by rw [hE9]; exact num_o opr_00, rfl⟩
   refine JB_alloc Z trivial Z [_, _] Z Z ?_
   intro β26 s26 h26
   refine JA_1 8 V <| Jb Z trivial Z Z Z (operate_ac D _ _ x.op a.num b.num hua hub) ?_
   rintro _ _ s27 h27 ⟨rfl, rfl⟩
   refine ⟨fun _ _ h => h, ?_⟩
   refine za 9 Z (QE_mv Z) Z <| za 10 Z (QE_ext Z Z) Z <| za 11 Z (QE_ext Z Z) Z <| za 13 Z (QE_as Z) Z <| JA_1 14 V <| JB_st Z trivial 0 [_, _] Z Z Z Z Z Z Z Z Z (fun _ hx => sub_mem (sbY (sbY (sbE _))) hx) <| JA_done V <| Zt <| Zs <| JC_draw drawsMixed 6 Z _ (fun _ h => h) ?_
   intro s28 h28
   refine za 0 Z (QE_mv Z) Z <| za 1 Z (QE_ldA 0 [_, _] Z Z Z Z Z) Z <| za 2 Z (QE_build [] [_, _] Z Z Z Z Z Z) Z <| za 3 Z (QE_aeq Z Z (eqFault _ _ _ _)) Z <| za 4 Z (QE_as Z) Z <| za 5 Z (QE_as Z) Z <| JA_done V <| Zt <| Zo <| Zc <| Zc <| Zu <| ?_
   refine retQ_mk [_, _, _] L (.inr Z) (.tmp Z (.tmp Z (.nil))) Z (h1.t h2|>.t h18|>.t h20|>.t h22|>.t h26|>.t h27|>.t h28) (fun sR hS2 => ?_)
   exact ⟨by rw [hE9]; exact num_o opr_00, rfl⟩
  rw [if_neg c21] at hE7
  refine JC_cutB 102 (x.op = 20 ∧ a.num = 0) ?_ ?_
  ·
   refine Zr <| ZqfB Z Z Z Z Z <| Zql 0 Z Z Z Z Z Z <| Zqeq Z Z Z <| Zqm Z Z <| ?_
   refine JO_caseD (t := 106) Z (fun c30 => ?_) (fun c30 => ?_)
   ·
    refine Zg Z Z <| Zqm Z Z <| Zg Z Z <| Zqeq Z Z Z <| ZqT Z Z Z <| Zqa Z Z <| Zn <| ?_
    refine thenQ_n (MidB.mk (Lr D) Sb Z (decide_eq_decide.2 O))
   refine Zf Z Z Z Z <| Zf Z Z Z Z <| ZqF Z Z Z <| Zqa Z Z <| Zn <| ?_
   refine thenQ_n (MidB.mk (Lr D) Sb Z ((decide_eq_false O).symm))
  intro s29 h29
  refine JC_ifD Z (fun c31 => ?_) (fun c31 => ?_)
  ·
   have hE : numP p f x = some 0 := by rw [hE7, if_pos c31]
   refine Zs <| Zr <| Zqa Z Z <| Zqa Z Z <| Zn <| Zt <| Zo <| Zc <| Zc <| Zu <| ?_
   refine retQ_mk [_, _] L (.inr Z) (.tmp Z (.tmp Z (.nil))) Z (h1.t h2|>.t h18|>.t h20|>.t h29) (fun sR hS2 => ?_)
   exact ⟨by rw [hE]; rfl, rfl⟩
  rw [if_neg c31] at hE7
  refine JC_cutB 110 (x.op = 21 ∧ a.num ≠ 0) ?_ ?_
  ·
   refine Zr <| ZqfB Z Z Z Z Z <| Zql 0 Z Z Z Z Z Z <| Zqeq Z Z Z <| Zqm Z Z <| ?_
   refine JO_caseD (t := 114) Z (fun c33 => ?_) (fun c33 => ?_)
   ·
    refine Zg Z Z <| Zqm Z Z <| Zg Z Z <| Zqne Z Z Z <| ZqT Z Z Z <| Zqa Z Z <| Zn <| ?_
    refine thenQ_n (MidB.mk (Lr D) Sb Z (ndec_eq O))
   refine Zf Z Z Z Z <| Zf Z Z Z Z <| ZqF Z Z Z <| Zqa Z Z <| Zn <| ?_
   refine thenQ_n (MidB.mk (Lr D) Sb Z ((decide_eq_false O).symm))
  intro s32 h32
  refine JC_ifD Z (fun c34 => ?_) (fun c34 => ?_)
  ·
   have hE : numP p f x = some 1 := by rw [hE7, if_pos c34]
   refine Zs <| Zr <| Zqa Z Z <| Zqa Z Z <| Zn <| Zt <| Zo <| Zc <| Zc <| Zu <| ?_
   refine retQ_mk [_, _] L (.inr Z) (.tmp Z (.tmp Z (.nil))) Z (h1.t h2|>.t h18|>.t h20|>.t h29|>.t h32) (fun sR hS2 => ?_)
   exact ⟨by rw [hE]; rfl, rfl⟩
  have hE : numP p f x = none := by rw [hE7, if_neg c34]
  refine Zk <| Zb <| Zb <| Zt <| Zs <| Zr <| Zqa Z Z <| Zqa Z Z <| Zn <| Zt <| Zo <| ?_
  refine retQ_mk [_, _] L (.inr Z) (.tmp Z (.tmp Z (.nil))) Z (h1.t h2|>.t h18|>.t h20|>.t h29|>.t h32) (fun sR hS2 => ?_)
  exact ⟨by rw [hE]; rfl, rfl⟩
 have hE : numP p f x = none := by rw [numP, if_neg g2, if_neg g6, if_neg c17]
 refine Zk <| Zb <| Zt <| Zs <| Zr <| Zqa Z Z <| Zqa Z Z <| Zn <| Zt <| Zo <| ?_
 refine retQ_mk [_, _] L (.inr Z) (.tmp Z (.tmp Z (.nil))) Z (h1.t h2) (fun sR hS2 => ?_)
 exact ⟨by rw [hE]; rfl, rfl⟩
mutual
def fdX (p : Prg) (f : Fnc) : Ex → Ex
  | .mk k o n nm ar => match numP p f (.mk k o n nm (fdXs p f ar)) with
    | some v => .mk 1 0 v [] []
    | none => .mk k o n nm (fdXs p f ar)
def fdXs (p : Prg) (f : Fnc) : List Ex → List Ex
  | [] => []
  | x :: r => fdX p f x :: fdXs p f r
end
theorem fdXs_map (p : Prg) (f : Fnc) : ∀ l : List Ex, fdXs p f l = l.map (fdX p f)
  | [] => rfl
  | x :: r => by rw [fdXs, fdXs_map p f r]; rfl
theorem fdXs_len (p : Prg) (f : Fnc) (l : List Ex) : (fdXs p f l).length = l.length := by rw [fdXs_map, List.length_map]
def Ex.withA (x : Ex) (l : List Ex) : Ex := .mk x.kind x.op x.num x.name l
theorem fdX_some {p : Prg} {f : Fnc} {x : Ex} {v : Int} (h : numP p f (x.withA (fdXs p f x.args)) = some v) : fdX p f x = .mk 1 0 v [] [] := by
  cases x; rw [fdX]; simp only [Ex.withA, Ex.kind, Ex.op, Ex.num, Ex.name, Ex.args] at h; rw [h]
theorem fdX_none {p : Prg} {f : Fnc} {x : Ex} (h : numP p f (x.withA (fdXs p f x.args)) = none) : fdX p f x = x.withA (fdXs p f x.args) := by
  cases x; rw [fdX]; simp only [Ex.withA, Ex.kind, Ex.op, Ex.num, Ex.name, Ex.args] at h ⊢; rw [h]
theorem w32_v (a : Int) : U32 (w32 a) := by unfold w32; exact ⟨by omega, by omega⟩
theorem opP_u {k x y : Int} (hx : U32 x) (hy : U32 y) : U32 (opP k x y) := by
  have hX : x.toNat < 4294967296 := by have := hx.2; omega
  have hY : y.toNat < 4294967296 := by have := hy.2; omega
  rw [opP]
  by_cases g0 : 14 ≤ k ∨ k = 1
  · rw [if_pos g0]
    by_cases h : holdB k x y = true
    · rw [if_pos h]; exact ⟨by decide, by decide⟩
    · rw [if_neg h]; exact ⟨by decide, by decide⟩
  rw [if_neg g0]
  by_cases g2 : k = 2
  · rw [if_pos g2]; exact w32_v _
  rw [if_neg g2]
  by_cases g3 : k = 3
  · rw [if_pos g3]; have := hx.1; have := hx.2; exact ⟨by omega, by omega⟩
  rw [if_neg g3]
  by_cases g4 : k = 4
  · rw [if_pos g4]; exact w32_v _
  rw [if_neg g4]
  by_cases g5 : k = 5
  · rw [if_pos g5]; exact ⟨Int.ediv_nonneg hx.1 hy.1, Int.lt_of_le_of_lt (Int.ediv_le_self _ hx.1) hx.2⟩
  rw [if_neg g5]
  by_cases g6 : k = 6
  · rw [if_pos g6]
    rcases Int.lt_or_eq_of_le hy.1 with h5 | h5
    · exact ⟨Int.emod_nonneg _ O, Int.lt_trans (Int.emod_lt_of_pos _ h5) hy.2⟩
    · rw [← h5, Int.emod_zero]; exact hx
  rw [if_neg g6]
  by_cases g7 : k = 7
  · rw [if_pos g7]
    have := Nat.mod_lt (x.toNat <<< y.toNat) (show 0 < 4294967296 by omega)
    exact ⟨Int.natCast_nonneg _, by omega⟩
  rw [if_neg g7]
  by_cases g8 : k = 8
  · rw [if_pos g8]
    have : x.toNat >>> y.toNat ≤ x.toNat := Nat.shiftRight_le _ _
    exact ⟨Int.natCast_nonneg _, by omega⟩
  rw [if_neg g8]
  by_cases g9 : k = 9
  · rw [if_pos g9]
    have : x.toNat &&& y.toNat ≤ x.toNat := Nat.and_le_left
    exact ⟨Int.natCast_nonneg _, by omega⟩
  rw [if_neg g9]
  by_cases g10 : k = 10
  · rw [if_pos g10]; exact w32_v _
  rw [if_neg g10]
  by_cases g11 : k = 11
  · rw [if_pos g11]; exact w32_v _
  rw [if_neg g11]
  by_cases g12 : k = 12
  · rw [if_pos g12]
    have : x.toNat ||| y.toNat < 2 ^ 32 := Nat.or_lt_two_pow hX hY
    exact ⟨Int.natCast_nonneg _, by omega⟩
  rw [if_neg g12]
  have : x.toNat ^^^ y.toNat < 2 ^ 32 := Nat.xor_lt_two_pow hX hY
  exact ⟨Int.natCast_nonneg _, by omega⟩
theorem num_u {p : Prg} {f : Fnc} {x : Ex} {v : Int} (hg : ∀ g ∈ p.globals, U32 g.num) (ha : ∀ a ∈ x.args, U32 a.num) (h : numP p f x = some v) : U32 v := by
  unfold numP at h
  split at h
  · split at h
    · injection h with h; subst h
      unfold gnumOf; split
      · rename_i g hgx; exact hg g (List.mem_of_getElem? hgx)
      · exact ⟨by decide, by decide⟩
    · cases h
  split at h
  · split at h
    · rename_i a r he
      split at h
      · injection h with h; subst h
        exact opP_u (ha a (by rw [he]; exact List.mem_cons_self ..)) ⟨by decide, by decide⟩
      · cases h
    · cases h
  split at h
  · split at h
    · rename_i a b r he
      have h1 := ha a (by rw [he]; exact List.mem_cons_self ..)
      have h2 := ha b (by rw [he]; exact List.mem_cons_of_mem _ (List.mem_cons_self ..))
      split at h
      · split at h
        · split at h
          · injection h with h; subst h; exact opP_u h1 h2
          · cases h
        split at h
        · injection h with h; subst h; exact ⟨by decide, by decide⟩
        split at h
        · injection h with h; subst h; exact ⟨by decide, by decide⟩
        · cases h
      · cases h
    · cases h
  · cases h
theorem all3_mid {β γ : Type} {R : Hl → β → γ → Prop} {P : β → Prop} (hR : ∀ M x cs, R M x cs → P x) {Ms : List Hl} {xs : List β} {css : List γ} (h : All3 R Ms xs css) : ∀ x ∈ xs, P x := by
  induction h with
  | nil => exact fun c h => by cases h
  | cons h1 _ ih => intro c hc; rcases List.mem_cons.1 hc with rfl | hc
                    · exact hR _ _ _ h1
                    · exact ih c hc
theorem OXs.u32 {d : Nat} {M : Hl} {A : Option Addr} {n c : Nat} {xs : List Ex} (h : OXs d M A n c xs) : ∀ x ∈ xs, U32 x.num := by
  obtain ⟨css, Ms, R, _, _, h3, _⟩ := h
  exact all3_mid (fun M x cs h => by obtain ⟨_, _, _, _, _, _, _, hu, _⟩ := h.eq; exact hu) h3
theorem own_blk5 {e : Nat} {M : Hl} {A : Option Addr} {n c : Nat} {xs : List Value} (h : FL.Own e 5 M (.slice A n c) n xs) (hn : 0 < n) : ∃ b ys, A = some ⟨b, 0, none⟩ ∧ M = [(b, cb (xs ++ ys) e)] ∧ ∀ zs : List Value, zs.length = xs.length → FL.Own e 5 [(b, cb (zs ++ ys) e)] (.slice (some ⟨b, 0, none⟩) n c) n zs := by
  generalize hv : Value.slice A n c = v at h
  cases h with
  | nil => injection hv with h1 h2 h3; omega
  | blk b cap n2 xs ys h1 h2 h3 h4 =>
    injection hv with e1 e2 e3
    subst e1; subst e3
    exact ⟨b, ys, rfl, rfl, fun zs hz => .blk b c n zs ys (by rw [hz]; exact h1) (by rw [hz]; exact h2) h3 h4⟩
theorem part_at {α : Type} {g : α → α} {l vs1 vs2 : List α} {v x : α} {k : Nat} (h : (l.take k).map g ++ l.drop k = vs1 ++ v :: vs2) (hk : vs1.length = k) (hx : l[k]? = some x) : vs1 = (l.take k).map g ∧ v = x ∧ vs2 = l.drop (k + 1) := by
  obtain ⟨hl, rfl⟩ := List.getElem?_eq_some_iff.1 hx
  rw [List.drop_eq_getElem_cons hl] at h
  have hlen : ((l.take k).map g).length = k := by rw [List.length_map, List.length_take]; omega
  obtain ⟨h1, h2⟩ := List.append_inj h (by rw [hlen, hk])
  injection h2 with h2 h3
  exact ⟨h1.symm, h2.symm, h3.symm⟩
theorem part_next {α : Type} {g : α → α} {l : List α} {x : α} {k : Nat} (hx : l[k]? = some x) : (l.take (k + 1)).map g ++ l.drop (k + 1) = (l.take k).map g ++ g x :: l.drop (k + 1) := by rw [take_snocE hx]; simp
theorem numOk : FnOK Tryz.prog 92 := ⟨_, Tryz.func92, by kernel_rfl, by kernel_rfl⟩
theorem numO_ac (D : Nat) (X L : Hl) (s : World) (bm : Nat) (Ag Af : Option Addr) (ng cg nf cf : Nat) (p : Prg) (hM : NmOK s bm p) (hGl : Glos s Ag ng cg p.globals) (f : Fnc) (B1 B2 B3 : Option Addr) (m1 d1 m2 d2 m3 d3 : Nat) (hpx : Strs s B1 m1 d1 f.params) (hlx : Strs s B2 m2 d2 f.locals) (d : Nat) (x : Ex) (M : Hl) (A : Option Addr) (n c : Nat) (hO : OXs d M A n c x.args) (hl6 : x.kind = 6 → 1 ≤ x.args.length) (hl7 : x.kind = 7 → 2 ≤ x.args.length) : AC Tryz.prog D 92 [.agg #[.slice Ag ng cg, .slice Af nf cf, .map (some bm), St f.name, .slice B1 m1 d1, .slice B2 m2 d2, .slice B3 m3 d3], .agg #[.int .i64 x.kind, .int .i64 x.op, .int .u32 x.num, St x.name, .slice A n c]] (X ++ (M ++ L)) s fun v L' _ => v = .tuple #[.int .u32 ((numP p f x).getD 0), .bool (numP p f x).isSome] ∧ L' = X ++ (M ++ L) :=
  AC.perm (List.perm_append_comm_assoc ..) (AC.lend M hO.cb numOk fun ho => number2_ac D (X ++ L) _ bm Ag Af ng cg nf cf p (hM.le (fill_le ho)) (hGl.le (fill_le ho)) f B1 B2 B3 m1 d1 m2 d2 m3 d3 (hpx.le (fill_le ho)) (hlx.le (fill_le ho)) d x A n c (hO.pub (pub_own ho)) hl6 hl7) fun v L1 s1 ⟨g0, g1⟩ => ⟨_, by rw [← g1]; exact List.perm_append_comm_assoc .., g0, rfl⟩
def FDX (D d : Nat) : Prop := ∀ (L : Hl) (s : World) (bm : Nat) (Ag Af : Option Addr) (ng cg nf cf : Nat) (p : Prg) (hM : NmOK s bm p) (hGl : Glos s Ag ng cg p.globals) (f : Fnc) (B1 B2 B3 : Option Addr) (m1 d1 m2 d2 m3 d3 : Nat) (hpx : Strs s B1 m1 d1 f.params) (hlx : Strs s B2 m2 d2 f.locals) (M : Hl) (A : Option Addr) (n c : Nat) (xs : List Ex), OXs d M A n c xs → exVs xs = true → AC Tryz.prog D 71 [.agg #[.slice Ag ng cg, .slice Af nf cf, .map (some bm), St f.name, .slice B1 m1 d1, .slice B2 m2 d2, .slice B3 m3 d3], .slice A n c] (M ++ L) s fun v L' _ => ∃ M', L' = M' ++ L ∧ v = .tuple #[] ∧ OXs d M' A n c (fdXs p f xs)
theorem fdx_step (D d : Nat) (ih : ∀ e, d = e + 1 → FDX D e) (L : Hl) (s : World) (bm : Nat) (Ag Af : Option Addr) (ng cg nf cf : Nat) (p : Prg) (hM : NmOK s bm p) (hGl : Glos s Ag ng cg p.globals) (f : Fnc) (B1 B2 B3 : Option Addr) (m1 d1 m2 d2 m3 d3 : Nat) (hpx : Strs s B1 m1 d1 f.params) (hlx : Strs s B2 m2 d2 f.locals) (M : Hl) (A : Option Addr) (n c : Nat) (xs : List Ex) (hOX : OXs d M A n c xs) (hxv : exVs xs = true) : AC Tryz.prog D 71 [.agg #[.slice Ag ng cg, .slice Af nf cf, .map (some bm), St f.name, .slice B1 m1 d1, .slice B2 m2 d2, .slice B3 m3 d3], .slice A n c] (M ++ L) s fun v L' _ => ∃ M', L' = M' ++ L ∧ v = .tuple #[] ∧ OXs d M' A n c (fdXs p f xs) := by
 obtain ⟨css0, Ms0, R0, hO0, rfl, hA0, hn⟩ := hOX
 have hgu : ∀ g ∈ p.globals, U32 g.num := fun g hg => (hGl.u g hg).1
 have hsl := Own.slice hO0
 obtain ⟨A_, c_, hsl1, hsl2, hsl3⟩ := hsl
 injection hsl1 with _ _ hsl4
 subst hsl4
 rw [List.append_assoc]
 refine AC_enter (TT := TT) (fn := Tryz.f71) TT_ok Tryz.func71 V Z Tryz.ntmps71 Z (rs := []) Z [(0, _), (1, _)] Z <| Zs <| Zr <| JO_boxA Z Z ?_
 intro β1 s1 h1
 refine Zn <| Zt <| Zs <| Zr <| Zqm Z Z <| Zqls Z Z Z Z <| Zqm Z Z <| Zn <| Zt <| Zp <| ?_
 refine JC_loop (γ := Nat × Hl × Hl) (fun g => [(1, _), (2, _), (8, _), (9, .int .i64 (g.1 : Int))]) (fun g => _ :: (g.2.1 ++ (g.2.2 ++ L))) (fun g tw => Le D s1 tw ∧ (g.1 ≤ n ∧ ∃ css Ms, FL.Own 61 5 g.2.1 (.slice A n c) n (List.flatten css) ∧ g.2.2 = List.flatten Ms ∧ All3 (OX d) Ms ((xs.take g.1).map (fdX p f) ++ xs.drop g.1) css)) (fun g => n - g.1) (fun _ _ _ h hl => ⟨h.1.trans hl, h.2⟩) (0, R0, Ms0.flatten) (.cons Z (.cons Z (.cons Z (.cons Z (.nil _))))) Z ⟨Le.refl _, ⟨Nat.zero_le _, css0, Ms0, hO0, Z, by simpa using hA0⟩⟩ ?_
 intro g s2 I2
 obtain ⟨k, R, Fo⟩ := g
 obtain ⟨hk0, css, Ms, hO, hF, hA3⟩ := I2.2
 simp only at hk0 hO hF hA3
 dsimp only
 refine Zs <| Zr <| Zqlt Z Z Z <| Zn <| Zt <| Zs <| ?_
 refine JC_ifD Z (fun c3 => ?_) (fun c3 => ?_)
 ·
  have hk : k < n := by omega
  obtain ⟨b, ys, rfl, rfl, hOw⟩ := own_blk5 hO O
  obtain ⟨x, hx⟩ : ∃ x, xs[k]? = some x := ⟨_, List.getElem?_eq_getElem O⟩
  obtain ⟨us1, u, us2, vs1, v, vs2, ws1, w0, ws2, rfl, hvv, rfl, hvl, hxw, hA1, hA2⟩ := hA3.at_ (k := k) (by rw [List.length_append, List.length_map, List.length_take, List.length_drop]; omega)
  obtain ⟨hvs1, hvx, hvs2⟩ := part_at hvv hvl hx
  obtain rfl : x = v := hvx.symm
  obtain ⟨e, A', n', c', hd, hw0, hxO, hux, hnl⟩ := hxw.eq
  have hwl : w0.length = 5 := by rw [hw0]; rfl
  have hxv1 := (exV_at hxv hx).1
  obtain ⟨hxc, hxva⟩ := exV_eq hxv1
  have hal := (exC_args hxc).2.2.1
  have q6 : (x.withA (fdXs p f x.args)).kind = 6 → 1 ≤ (x.withA (fdXs p f x.args)).args.length := fun q => by
    have h1 : leastE x.kind = 1 := by rw [show x.kind = 6 from q]; rfl
    show 1 ≤ (fdXs p f x.args).length
    rw [fdXs_len]; omega
  have q7 : (x.withA (fdXs p f x.args)).kind = 7 → 2 ≤ (x.withA (fdXs p f x.args)).args.length := fun q => by
    have h1 : leastE x.kind = 2 := by rw [show x.kind = 7 from q]; rfl
    show 2 ≤ (fdXs p f x.args).length
    rw [fdXs_len]; omega
  obtain ⟨P, hP0⟩ : ∃ P, P = ws1.flatten := ⟨_, rfl⟩
  obtain ⟨Q, hQ0⟩ : ∃ Q, Q = ws2.flatten ++ ys := ⟨_, rfl⟩
  obtain ⟨F1, hF1⟩ : ∃ F, F = us1.flatten := ⟨_, rfl⟩
  obtain ⟨F2, hF2⟩ : ∃ F, F = us2.flatten := ⟨_, rfl⟩
  have hPQ : ∀ w : List Value, P ++ (w ++ Q) = (ws1 ++ w :: ws2).flatten ++ ys := fun w => by rw [hP0, hQ0]; simp [List.append_assoc]
  have hP : P.length = 0 + k * 5 := by rw [hP0, rows_flat hA1, hvl, Nat.zero_add]
  have hFF : Fo = F1 ++ (u ++ F2) := by rw [hF, hF1, hF2]; simp
  subst hFF
  rw [← hPQ, List.append_assoc, List.append_assoc]
  simp only [c9, n9]
  refine Zk <| Zt <| Zs <| Zp <| Zs <| Zr <| Zqm Z Z <| Zqa Z Z <| Zn <| Zt <| Zs <| JC_drawT drawsMixed 7 Z 2 ?_
  intro s4 h4
  refine za 0 Z (QE_ldA 0 [_, _, _, _, _, _, _] Z Z Z Z Z) Z <| za 1 Z (QE_mv Z) Z <| za 2 Z (QE_mv Z) Z <| za 3 Z (QE_iaN Z Z Z Z Z Z hk) Z <| za 4 Z (QE_fa Z Z Z Z) Z <| za 5 Z (QE_ld1 1 Z Z Z Z ((nth_mid (c := w0) hP (j := 4) O).trans (by rw [hw0]; rfl))) Z <| JA_1 6 V <| Jb Z trivial Z Z Z (AC.mid (_ :: _ :: F1) u (F2 ++ L) (ih e hd _ _ bm Ag Af ng cg nf cf p (hM.le (h1.t I2.1|>.t h4)) (hGl.le (h1.t I2.1|>.t h4)) f B1 B2 B3 m1 d1 m2 d2 m3 d3 (hpx.le (h1.t I2.1|>.t h4)) (hlx.le (h1.t I2.1|>.t h4)) u A' n' c' x.args hxO hxva)) ?_
  rintro _ _ s5 h5 ⟨u2, rfl, rfl, hu2⟩
  refine ⟨(fun x hx _ => memK2 hx), ?_⟩
  simp only [List.cons_append]
  refine JA_done V <| Zt <| Zs <| JC_drawT drawsMixed 11 Z 2 ?_
  intro s6 h6
  refine za 0 Z (QE_ldA 0 [_, _, _, _, _, _, _] Z Z Z Z Z) Z <| za 1 Z (QE_mv Z) Z <| za 2 Z (QE_mv Z) Z <| za 3 Z (QE_iaN Z Z Z Z Z Z hk) Z <| za 4 Z (QE_cast (QE_ldA 1 w0 Z Z Z Z (cut_mid hP hwl)) (show Value.agg w0.toArray = .agg #[.int .i64 x.kind, .int .i64 x.op, .int .u32 x.num, St x.name, .slice A' n' c'] by rw [hw0])) Z <| JA_1 5 V ?_
  refine Jb Z trivial Z Z Z (numO_ac D (_ :: _ :: F1) (F2 ++ L) _ bm Ag Af ng cg nf cf p (hM.le (h1.t I2.1|>.t h4|>.t h5|>.t h6)) (hGl.le (h1.t I2.1|>.t h4|>.t h5|>.t h6)) f B1 B2 B3 m1 d1 m2 d2 m3 d3 (hpx.le (h1.t I2.1|>.t h4|>.t h5|>.t h6)) (hlx.le (h1.t I2.1|>.t h4|>.t h5|>.t h6)) e (x.withA (fdXs p f x.args)) u2 A' n' c' hu2 q6 q7) ?_
  rintro _ _ s7 h7 ⟨rfl, rfl⟩
  refine ⟨(fun x hx _ => memK2 hx), ?_⟩
  simp only [List.cons_append]
  refine za 6 Z (QE_mv Z) Z <| za 7 Z (QE_ext Z Z) Z <| za 8 Z (QE_ext Z Z) Z <| za 9 Z (QE_as Z) Z <| za 10 Z (QE_as Z) Z <| JA_done V <| Zt <| Zs <| Zr <| Zqm Z Z <| Zn <| Zt <| ?_
  refine JC_if Z (fun c8 => ?_) (fun c8 => ?_)
  ·
   obtain ⟨v9, hnum⟩ := Option.isSome_iff_exists.1 c8
   have hau : ∀ a ∈ (x.withA (fdXs p f x.args)).args, U32 a.num := hu2.u32
   obtain ⟨w9, hw9⟩ : ∃ w : List Value, w = [.int .i64 1, .int .i64 0, .int .u32 v9, St [], .slice none 0 0] := ⟨_, rfl⟩
   refine Zr <| Zqm Z Z <| Zqm Z Z <| Zqm Z Z <| JO_q (QE_cast (QE_build [(_, _), (_, _)] [_, _, _, _, _] Z Z Z Z Z Z) (show Value.agg #[.int .i64 1, .int .i64 0, .int .u32 ((numP p f (x.withA (fdXs p f x.args))).getD 0), St [], .slice none 0 0] = .agg #[.int .i64 1, .int .i64 0, .int .u32 v9, St [], .slice none 0 0] by rw [hnum]; rfl)) Z <| JO_q (QE_iaN Z Z Z Z Z Z hk) Z <| JO_st 1 (P ++ (w9 ++ Q)) Z Z Z Z Z (ble_mid hP hwl) Z (by rw [hw9]; exact splice_mid hP (show 5 = w0.length from hwl.symm)) Z <| Zn <| Zb <| Zt <| JC_pubX (_ :: _ :: F1) u2 _ ?_
   intro s10 h10 _
   simp only [List.cons_append]
   rw [show F1 ++ (F2 ++ L) = (F1 ++ F2) ++ L from (List.append_assoc ..).symm]
   refine Zr <| Zqadd Z Z Z (w64 O O) <| Zqm Z Z <| Zn <| ?_
   refine thenQ_n ⟨(k + 1, [(b, cb (P ++ (w9 ++ Q)) 61)], F1 ++ F2), [], kp, Z, ⟨(I2.1.t h4|>.t h5|>.t h6|>.t h7|>.t h10), ⟨by simp only; omega, ws1 ++ w9 :: ws2, us1 ++ [] :: us2, by simp only; rw [hPQ]; exact hOw _ (by simp [hwl, hw9] <;> omega), by simp [hF1, hF2], by simp only; rw [part_next hx, fdX_some hnum, ← hvs1, ← hvs2]; exact hA1.app (.cons (hd ▸ hw9 ▸ OX.mk (x := .mk 1 0 v9 [] []) (OXs.nil _) (num_u hgu hau hnum) (Nat.zero_le _)) hA2)⟩⟩, (by simp only; omega)⟩
  have hnum : numP p f (x.withA (fdXs p f x.args)) = none := Option.isNone_iff_eq_none.1 (by rw [← Option.not_isSome, c8]; rfl)
  refine Zk <| Zb <| Zt <| ?_
  rw [show F1 ++ (u2 ++ (F2 ++ L)) = (F1 ++ (u2 ++ F2)) ++ L from by simp only [List.append_assoc]]
  refine Zr <| Zqadd Z Z Z (w64 O O) <| Zqm Z Z <| Zn <| ?_
  refine thenQ_n ⟨(k + 1, [(b, cb (P ++ (w0 ++ Q)) 61)], F1 ++ (u2 ++ F2)), [], kp, Z, ⟨(I2.1.t h4|>.t h5|>.t h6|>.t h7), ⟨by simp only; omega, ws1 ++ w0 :: ws2, us1 ++ u2 :: us2, by simp only; rw [hPQ]; exact hOw _ (by simp), by simp [hF1, hF2], by simp only; rw [part_next hx, fdX_none hnum, ← hvs1, ← hvs2]; exact hA1.app (.cons (hd ▸ hw0 ▸ OX.mk (x := x.withA (fdXs p f x.args)) hu2 hux hnl) hA2)⟩⟩, (by simp only; omega)⟩
 obtain rfl : n = k := by omega
 rw [List.take_of_length_le O, List.drop_eq_nil_of_le O, List.append_nil, ← fdXs_map] at hA3
 refine Zl <| Zv <| Zv <| Zd <| ?_
 refine retQ_mk [_] _ (.inl Z) (.nil) Z (h1.t I2.1) (fun sR hS2 => ?_)
 exact ⟨R ++ Fo, (List.append_assoc ..).symm, rfl, css, Ms, R, hO, by rw [hF], hA3, by rw [fdXs_len]; exact hn⟩
theorem fdx (D : Nat) : ∀ d, FDX D d
  | 0 => fun L s bm Ag Af ng cg nf cf p hM hGl f B1 B2 B3 m1 d1 m2 d2 m3 d3 hpx hlx M A n c xs h1 h2 => fdx_step D 0 (fun e h => by omega) L s bm Ag Af ng cg nf cf p hM hGl f B1 B2 B3 m1 d1 m2 d2 m3 d3 hpx hlx M A n c xs h1 h2
  | d + 1 => fun L s bm Ag Af ng cg nf cf p hM hGl f B1 B2 B3 m1 d1 m2 d2 m3 d3 hpx hlx M A n c xs h1 h2 => fdx_step D (d + 1) (fun e h => (show d = e by omega) ▸ fdx D d) L s bm Ag Af ng cg nf cf p hM hGl f B1 B2 B3 m1 d1 m2 d2 m3 d3 hpx hlx M A n c xs h1 h2
mutual
def fdS (p : Prg) (f : Fnc) : Stm → Stm
  | .mk k nm es b e => .mk k nm (fdXs p f es) (fdSs p f b) (fdSs p f e)
def fdSs (p : Prg) (f : Fnc) : List Stm → List Stm
  | [] => []
  | x :: r => fdS p f x :: fdSs p f r
end
theorem fdSs_map (p : Prg) (f : Fnc) : ∀ l : List Stm, fdSs p f l = l.map (fdS p f)
  | [] => rfl
  | x :: r => by rw [fdSs, fdSs_map p f r]; rfl
theorem fdS_eq (p : Prg) (f : Fnc) (x : Stm) : fdS p f x = .mk x.kind x.name (fdXs p f x.exprs) (fdSs p f x.body) (fdSs p f x.els) := by cases x; rfl
def FDS (D d : Nat) : Prop := ∀ (L : Hl) (s : World) (bm : Nat) (Ag Af : Option Addr) (ng cg nf cf : Nat) (p : Prg) (hM : NmOK s bm p) (hGl : Glos s Ag ng cg p.globals) (f : Fnc) (B1 B2 B3 : Option Addr) (m1 d1 m2 d2 m3 d3 : Nat) (hpx : Strs s B1 m1 d1 f.params) (hlx : Strs s B2 m2 d2 f.locals) (M : Hl) (A : Option Addr) (n c : Nat) (xs : List Stm) (lv : Nat), SOs d s M A n c xs → stVs xs lv = true → AC Tryz.prog D 46 [.agg #[.slice Ag ng cg, .slice Af nf cf, .map (some bm), St f.name, .slice B1 m1 d1, .slice B2 m2 d2, .slice B3 m3 d3], .slice A n c] (M ++ L) s fun v L' s' => ∃ M', L' = M' ++ L ∧ v = .tuple #[] ∧ SOs d s' M' A n c (fdSs p f xs)
theorem fds_of {D d : Nat} {g : FuncId} {args : List Value} {L L0 : Hl} {s : World} {A : Option Addr} {n c : Nat} {xs : List Stm} (h : AC Tryz.prog D g args L0 s fun v L' s' => ∃ M', L' = M' ++ L ∧ v = .tuple #[] ∧ ∀ s2, Le D s' s2 → SOs d s2 M' A n c xs) : AC Tryz.prog D g args L0 s fun v L' s' => ∃ M', L' = M' ++ L ∧ v = .tuple #[] ∧ SOs d s' M' A n c xs := h.mono fun v L' s' _ ⟨M', h1, h2, h3⟩ => ⟨M', h1, h2, h3 _ (Le.refl _)⟩
theorem memK6 {x a b c d e f : Nat × Obj} {R R' : Hl} (hx : x ∈ (a :: b :: c :: d :: e :: f :: R).take 6) : x ∈ a :: b :: c :: d :: e :: f :: R' := List.mem_append_left R' (show x ∈ [a, b, c, d, e, f] from hx)
theorem fds_step (D d : Nat) (ih : ∀ e, d = e + 1 → FDS D e) (L : Hl) (s : World) (bm : Nat) (Ag Af : Option Addr) (ng cg nf cf : Nat) (p : Prg) (hM : NmOK s bm p) (hGl : Glos s Ag ng cg p.globals) (f : Fnc) (B1 B2 B3 : Option Addr) (m1 d1 m2 d2 m3 d3 : Nat) (hpx : Strs s B1 m1 d1 f.params) (hlx : Strs s B2 m2 d2 f.locals) (M : Hl) (A : Option Addr) (n c : Nat) (xs : List Stm) (lv : Nat) (hSO : SOs d s M A n c xs) (hxv : stVs xs lv = true) : AC Tryz.prog D 46 [.agg #[.slice Ag ng cg, .slice Af nf cf, .map (some bm), St f.name, .slice B1 m1 d1, .slice B2 m2 d2, .slice B3 m3 d3], .slice A n c] (M ++ L) s fun v L' s' => ∃ M', L' = M' ++ L ∧ v = .tuple #[] ∧ ∀ s2, Le D s' s2 → SOs d s2 M' A n c (fdSs p f xs) := by
 obtain ⟨css, Ms0, rfl, hRw, hA0⟩ := hSO
 have hn : n = xs.length := by rw [hRw.1]; exact hA0.len.2
 have hc1 := hRw.2.1
 have hc2 := hRw.2.2.1
 refine AC_enter (TT := TT) (fn := Tryz.f46) TT_ok Tryz.func46 V Z Tryz.ntmps46 Z (rs := []) Z [(0, _), (1, _)] Z <| Zs <| Zr <| JO_boxA Z Z ?_
 intro β1 s1 h1
 refine Zn <| Zt <| Zs <| Zr <| Zqm Z Z <| Zqls Z Z Z Z <| Zqm Z Z <| Zn <| Zt <| Zp <| ?_
 refine JC_loop (γ := Nat × Hl) (fun g => [(1, _), (2, _), (6, _), (7, .int .i64 (g.1 : Int))]) (fun g => _ :: (g.2 ++ L)) (fun g tw => Le D s1 tw ∧ (g.1 ≤ n ∧ ∃ Ms, g.2 = List.flatten Ms ∧ All3 (SO d tw) Ms ((xs.take g.1).map (fdS p f) ++ xs.drop g.1) css)) (fun g => n - g.1) (fun _ _ _ h hl => ⟨h.1.trans hl, ⟨h.2.1, by obtain ⟨Ms, q2, q3⟩ := h.2.2; exact ⟨Ms, q2, q3.mono fun _ _ _ k => SO.le hl k⟩⟩⟩) (0, Ms0.flatten) (.cons Z (.cons Z (.cons Z (.cons Z (.nil _))))) Z ⟨Le.refl _, ⟨Nat.zero_le _, Ms0, Z, by simpa using hA0.mono fun _ _ _ k => SO.le h1 k⟩⟩ ?_
 intro g s2 I2
 obtain ⟨k, Fo⟩ := g
 obtain ⟨hk0, Ms, hF, hA3⟩ := I2.2
 simp only at hk0 hF hA3
 dsimp only
 refine Zs <| Zr <| Zqlt Z Z Z <| Zn <| Zt <| Zs <| ?_
 refine JC_ifD Z (fun c3 => ?_) (fun c3 => ?_)
 ·
  have hk : k < n := by omega
  obtain ⟨x, hx⟩ : ∃ x, xs[k]? = some x := ⟨_, List.getElem?_eq_getElem O⟩
  obtain ⟨us1, u, us2, vs1, v, vs2, ws1, w0, ws2, rfl, hvv, hcs, hvl, hxw, hA1, hA2⟩ := hA3.at_ (k := k) (by rw [List.length_append, List.length_map, List.length_take, List.length_drop]; omega)
  obtain ⟨hvs1, hvx, hvs2⟩ := part_at hvv hvl hx
  obtain rfl : x = v := hvx.symm
  obtain ⟨e, A1, n1, c1, A2, n2, c2, A3, n3, c3, M1, M2, M3, hd, hw0, rfl, hxO, hxB, hxE, hnl⟩ := hxw.eq
  have hw : css[k]? = some w0 := by
    have := hA1.len
    rw [hcs, List.getElem?_append_right O, show k - ws1.length = 0 by omega]; rfl
  obtain ⟨b, off, rfl, hcx⟩ := hRw.at_ hw
  rw [hw0] at hcx
  obtain ⟨hvx1, _⟩ := stV_at hxv hx
  obtain ⟨_, _, hxe, hxb, hxl⟩ := stV_eq hvx1
  obtain ⟨F1, hF1⟩ : ∃ F, F = us1.flatten := ⟨_, rfl⟩
  obtain ⟨F2, hF2⟩ : ∃ F, F = us2.flatten := ⟨_, rfl⟩
  have hFF : Fo = F1 ++ ((M1 ++ (M2 ++ M3)) ++ F2) := by rw [hF, hF1, hF2]; simp
  subst hFF
  rw [show (F1 ++ ((M1 ++ (M2 ++ M3)) ++ F2)) ++ L = F1 ++ (M1 ++ (M2 ++ (M3 ++ (F2 ++ L)))) from by simp only [List.append_assoc]]
  refine Zk <| Zt <| Zs <| Zp <| Zs <| Zr <| Zqm Z Z <| Zqa Z Z <| Zn <| Zt <| Zs <| JC_drawT drawsMixed 7 Z 1 ?_
  intro s4 h4
  refine za 0 Z (QE_ldA 0 [_, _, _, _, _, _, _] Z Z Z Z Z) Z <| za 1 Z (QE_mv Z) Z <| za 2 Z (QE_mv Z) Z <| za 3 Z (QE_iaN Z Z Z Z Z Z hk) Z <| za 4 Z (QE_fa Z Z Z Z) Z <| za 5 Z (QE_ldsR 2 Z Z Z (hcx.le (h1.t I2.1|>.t h4)) Z) Z <| JA_1 6 V <| Jb Z trivial Z Z Z (AC.mid (_ :: F1) M1 (M2 ++ (M3 ++ (F2 ++ L))) (fdx D e _ _ bm Ag Af ng cg nf cf p (hM.le (h1.t I2.1|>.t h4)) (hGl.le (h1.t I2.1|>.t h4)) f B1 B2 B3 m1 d1 m2 d2 m3 d3 (hpx.le (h1.t I2.1|>.t h4)) (hlx.le (h1.t I2.1|>.t h4)) M1 A1 n1 c1 x.exprs hxO hxe)) ?_
  rintro _ _ s5 h5 ⟨N1, rfl, rfl, hu1⟩
  refine ⟨(fun x hx _ => memK1 hx), ?_⟩
  simp only [List.cons_append]
  rw [show F1 ++ (N1 ++ (M2 ++ (M3 ++ (F2 ++ L)))) = (F1 ++ N1) ++ (M2 ++ (M3 ++ (F2 ++ L))) from (List.append_assoc ..).symm]
  refine JA_done V <| Zt <| Zs <| JC_drawT drawsMixed 7 Z 1 ?_
  intro s6 h6
  refine za 0 Z (QE_ldA 0 [_, _, _, _, _, _, _] Z Z Z Z Z) Z <| za 1 Z (QE_mv Z) Z <| za 2 Z (QE_mv Z) Z <| za 3 Z (QE_iaN Z Z Z Z Z Z hk) Z <| za 4 Z (QE_fa Z Z Z Z) Z <| za 5 Z (QE_ldsR 3 Z Z Z (hcx.le (h1.t I2.1|>.t h4|>.t h5|>.t h6)) Z) Z <| JA_1 6 V ?_
  refine Jb Z trivial Z Z Z (AC.mid (_ :: (F1 ++ N1)) M2 (M3 ++ (F2 ++ L)) (ih e hd _ _ bm Ag Af ng cg nf cf p (hM.le (h1.t I2.1|>.t h4|>.t h5|>.t h6)) (hGl.le (h1.t I2.1|>.t h4|>.t h5|>.t h6)) f B1 B2 B3 m1 d1 m2 d2 m3 d3 (hpx.le (h1.t I2.1|>.t h4|>.t h5|>.t h6)) (hlx.le (h1.t I2.1|>.t h4|>.t h5|>.t h6)) M2 A2 n2 c2 x.body (lv + 1) (hxB.le (h4.t h5|>.t h6)) hxb)) ?_
  rintro _ _ s7 h7 ⟨N2, rfl, rfl, hu2⟩
  refine ⟨(fun x hx _ => memK1 hx), ?_⟩
  simp only [List.cons_append]
  rw [show (F1 ++ N1) ++ (N2 ++ (M3 ++ (F2 ++ L))) = ((F1 ++ N1) ++ N2) ++ (M3 ++ (F2 ++ L)) from (List.append_assoc ..).symm]
  refine JA_done V <| Zt <| JC_drawT drawsMixed 7 Z 1 ?_
  intro s8 h8
  refine za 0 Z (QE_ldA 0 [_, _, _, _, _, _, _] Z Z Z Z Z) Z <| za 1 Z (QE_mv Z) Z <| za 2 Z (QE_mv Z) Z <| za 3 Z (QE_iaN Z Z Z Z Z Z hk) Z <| za 4 Z (QE_fa Z Z Z Z) Z <| za 5 Z (QE_ldsR 4 Z Z Z (hcx.le (h1.t I2.1|>.t h4|>.t h5|>.t h6|>.t h7|>.t h8)) Z) Z <| JA_1 6 V ?_
  refine Jb Z trivial Z Z Z (AC.mid (_ :: ((F1 ++ N1) ++ N2)) M3 (F2 ++ L) (ih e hd _ _ bm Ag Af ng cg nf cf p (hM.le (h1.t I2.1|>.t h4|>.t h5|>.t h6|>.t h7|>.t h8)) (hGl.le (h1.t I2.1|>.t h4|>.t h5|>.t h6|>.t h7|>.t h8)) f B1 B2 B3 m1 d1 m2 d2 m3 d3 (hpx.le (h1.t I2.1|>.t h4|>.t h5|>.t h6|>.t h7|>.t h8)) (hlx.le (h1.t I2.1|>.t h4|>.t h5|>.t h6|>.t h7|>.t h8)) M3 A3 n3 c3 x.els (lv + 1) (hxE.le (h4.t h5|>.t h6|>.t h7|>.t h8)) hxl)) ?_
  rintro _ _ s9 h9 ⟨N3, rfl, rfl, hu3⟩
  refine ⟨(fun x hx _ => memK1 hx), ?_⟩
  simp only [List.cons_append]
  rw [show ((F1 ++ N1) ++ N2) ++ (N3 ++ (F2 ++ L)) = (F1 ++ ((N1 ++ (N2 ++ N3)) ++ F2)) ++ L from by simp only [List.append_assoc]]
  refine JA_done V <| Zb <| Zt <| Zr <| Zqadd Z Z Z (w64 O O) <| Zqm Z Z <| Zn <| ?_
  refine thenQ_n ⟨(k + 1, F1 ++ ((N1 ++ (N2 ++ N3)) ++ F2)), [], kp, Z, ⟨(I2.1.t h4|>.t h5|>.t h6|>.t h7|>.t h8|>.t h9), ⟨by simp only; omega, us1 ++ (N1 ++ (N2 ++ N3)) :: us2, by simp [hF1, hF2], by simp only; rw [part_next hx, ← hvs1, ← hvs2, hcs]; exact (hA1.mono fun _ _ _ k => SO.le (h4.t h5|>.t h6|>.t h7|>.t h8|>.t h9) k).app (.cons (hd ▸ hw0 ▸ fdS_eq p f x ▸ SO.mk (x := .mk x.kind x.name (fdXs p f x.exprs) (fdSs p f x.body) (fdSs p f x.els)) hu1 (hu2.le (h8.t h9)) (hu3.le (Lr D)) hnl) (hA2.mono fun _ _ _ k => SO.le (h4.t h5|>.t h6|>.t h7|>.t h8|>.t h9) k))⟩⟩, (by simp only; omega)⟩
 obtain rfl : n = k := by omega
 rw [List.take_of_length_le O, List.drop_eq_nil_of_le O, List.append_nil, ← fdSs_map] at hA3
 refine Zl <| Zv <| Zv <| Zd <| ?_
 refine retQ_mk [_] _ (.inl Z) (.nil) Z (h1.t I2.1) (fun sR hS2 => ?_)
 exact ⟨Fo, rfl, rfl, fun s2 hs2 => ⟨css, Ms, hF, hRw.le (h1.t I2.1|>.t (hS2.t hs2)), hA3.mono fun _ _ _ k => SO.le ((Lr D).t (hS2.t hs2)) k⟩⟩
theorem fds (D : Nat) : ∀ d, FDS D d
  | 0 => fun L s bm Ag Af ng cg nf cf p hM hGl f B1 B2 B3 m1 d1 m2 d2 m3 d3 hpx hlx M A n c xs lv h1 h2 => fds_of (fds_step D 0 (fun e h => by omega) L s bm Ag Af ng cg nf cf p hM hGl f B1 B2 B3 m1 d1 m2 d2 m3 d3 hpx hlx M A n c xs lv h1 h2)
  | d + 1 => fun L s bm Ag Af ng cg nf cf p hM hGl f B1 B2 B3 m1 d1 m2 d2 m3 d3 hpx hlx M A n c xs lv h1 h2 => fds_of (fds_step D (d + 1) (fun e h => (show d = e by omega) ▸ fds D d) L s bm Ag Af ng cg nf cf p hM hGl f B1 B2 B3 m1 d1 m2 d2 m3 d3 hpx hlx M A n c xs lv h1 h2)
def fdF (p : Prg) (x : Fnc) : Fnc := { x with body := fdSs p x x.body }
def foldP (p : Prg) : Prg := ⟨p.globals, p.funcs.map (fdF p)⟩
theorem mem_ins {x : Nat × Obj} {X M Y : Hl} (h : x ∈ X ++ Y) : x ∈ X ++ (M ++ Y) := by
  rcases List.mem_append.1 h with h | h
  · exact List.mem_append_left _ h
  · exact List.mem_append_right _ (List.mem_append_right _ h)
def foldR (p : Prg) : Prg × (Int × Int) := if (chkF p).1 ≠ 0 then (⟨[], []⟩, chkF p) else if (prgF (foldP p)).1 ≠ 0 then (⟨[], []⟩, prgF (foldP p)) else (foldP p, (0, 0))
theorem foldO_ac (D : Nat) (L : Hl) (s : World) (hG : GP s) (d : Nat) (p : Prg) (Ag Af : Option Addr) (ng cg nf cf : Nat) (hGl : Glos s Ag ng cg p.globals) (hFn : Fncs d s Af nf cf p.funcs) : AC Tryz.prog D 22 [.agg #[.slice Ag ng cg, .slice Af nf cf]] L s fun v L' s' => L = L' ∧ ∃ Bg mg eg Bf mf ef, v = .tuple #[.agg #[.slice Bg mg eg, .slice Bf mf ef], .agg #[.int .i64 (foldR p).2.1, .int .i64 (foldR p).2.2]] ∧ ∀ s2, Le D s' s2 → Glos s2 Bg mg eg (foldR p).1.globals ∧ Fncs d s2 Bf mf ef (foldR p).1.funcs := by
 have hn1 := hGl.1
 have hn2 := hFn.1
 have hU : prU p := ⟨hGl.u, hFn.u⟩
 refine AC_enter (TT := TT) (fn := Tryz.f22) TT_ok Tryz.func22 V Z Tryz.ntmps22 Z (rs := [.cell 2 25, .cell 3 28]) Z [(0, _)] Z <| Zs <| Zr <| JO_boxA Z Z ?_
 intro β1 s1 h1
 refine JO_allocZ Z [_, _] Z Z ?_
 intro β2 s2 h2
 refine JO_allocZ Z [_, _] Z Z ?_
 intro β3 s3 h3
 refine Zn <| Zt <| Zs <| Zs <| Zr <| JO_q (QE_ldA 2 [_, _] Z Z Z Z Z) Z <| Jc Z Z Z (program_ac D _ _ (hG.le (h1.t h2|>.t h3)) d p Ag _ ng cg nf cf (hGl.le (h1.t h2|>.t h3)) (hFn.le (h1.t h2|>.t h3))) ?_
 rintro _ _ s4 h4 ⟨rfl, rfl⟩
 refine JO_allocZ Z [_, _] Z Z ?_
 intro β5 s5 h5
 refine JO_st 0 [_, _] Z Z Z Z Z Z Z Z Z <| Zn <| Zt <| Zs <| Zr <| JO_q (QE_ldA 0 [_, _] Z Z Z Z Z) Z <| JO_q (QE_build [] [_, _] Z Z Z Z Z Z) Z <| JO_q (QE_ane Z Z (eqFault _ _ _ _)) Z <| Zn <| Zt <| ?_
 refine JC_ifN Z (fun c6 => ?_) (fun c6 => ?_)
 ·
  have hb0 : (chkF p).1 ≠ 0 := fun h => c6 (by rw [chk_00 hU h]; exact ⟨rfl, rfl⟩)
  have hE : foldR p = (⟨[], []⟩, chkF p) := if_pos hb0
  refine Zs <| JC_drawE drawsMixed 4 Z [2, 1] (by intro x hx; exact eraseAll_mem hx) ?_
  intro s7 h7
  refine za 0 Z (QE_build [] [_, _] Z Z Z Z Z Z) Z <| za 1 Z (QE_ldA 0 [_, _] Z Z Z Z Z) Z <| JA_1 2 V <| JB_st Z trivial 2 [_, _] Z Z Z Z Z Z Z Z Z (fun _ hx => sub_mem (sbY (sbN (sbY (sbE _)))) hx) <| JA_1 3 V <| JB_st Z trivial 1 [_, _] Z Z Z Z Z Z Z Z Z (fun _ hx => sub_mem (sbY (sbN (sbY (sbE _)))) hx) <| JA_done V <| Zt <| Zo <| Zu <| ?_
  refine retQ_mk [_, _, _, _] L (.inr Z) (.agg (us := [_, _]) 2 Z Z Z Z Z (.agg (us := [_, _]) 1 Z Z Z Z Z (.nil))) Z (h1.t h2|>.t h3|>.t h4|>.t h5|>.t h7) (fun sR hS2 => ?_)
  rw [hE]
  exact ⟨rfl, none, 0, 0, none, 0, 0, rfl, fun s2 hs2 => ⟨glos_nil _, fncs_nil _ _⟩⟩
 have g4 := c6
 have g14 : ¬ (chkF p).1 ≠ 0 := fun h => h g4.1
 obtain ⟨hOK, hz0⟩ := OKP.of hU g4.1
 have hV := hOK.1
 have hV1 := hV.1
 have hV2 := hV.2.1
 have hVf := hV.2.2.2.1
 have hND := (name_nd (p := p) (by rw [hOK.2.1])).1
 refine Zk <| Zt <| ?_
 refine JC_cutN (γ := Nat × Nat × Hl × Value × Value × Nat) (fun g => [(5, .pointer (some ⟨g.1, 0, none⟩)), (6, .pointer (some ⟨g.2.1, 0, none⟩))]) (fun g => ((g.1, cb [g.2.2.2.1, g.2.2.2.2.1] 25) :: (g.2.1, cb [.slice Ag ng cg, .slice Af nf cf, .map (some g.2.2.2.2.2)] 68) :: g.2.2.1)) (fun g tw => (∃ Bg mg eg, g.2.2.2.1 = .slice Bg mg eg ∧ Glos tw Bg mg eg p.globals) ∧ (∃ Bf mf ef, g.2.2.2.2.1 = .slice Bf mf ef ∧ FOs d tw g.2.2.1 Bf mf ef p.funcs) ∧ NmOK tw g.2.2.2.2.2 p) (fun _ _ _ h hl => ⟨by obtain ⟨A, n, c, q1, q2⟩ := h.1; exact ⟨A, n, c, q1, q2.le hl⟩, by obtain ⟨A, n, c, q1, q2⟩ := h.2.1; exact ⟨A, n, c, q1, q2.le hl⟩, h.2.2.le hl⟩) ?_ ?_
 ·
  refine JC_drawT drawsMixed 8 Z 4 ?_
  intro s9 h9
  refine za 0 Z (QE_ldA 3 [_, _] Z Z Z Z Z) Z <| za 2 Z (QE_ldA 3 [_, _] Z Z Z Z Z) Z ?_
  refine JA_3 1 4 5 V ?_ ?_ ?_
  ·
   refine Jb Z trivial Z Z Z (AC.mid [_, _, _, _] [] L (cloneP_ac D _ _ d p Ag _ ng cg nf cf (hGl.le (h1.t h2|>.t h3|>.t h4|>.t h5|>.t h9)) (hFn.le (h1.t h2|>.t h3|>.t h4|>.t h5|>.t h9)) hV)) ?_
   rintro _ _ s10 h10 ⟨M1, rfl, Bg, mg, eg, Bf, mf, ef, rfl, hBG, hBF⟩
   refine ⟨(fun x _ h => mem_ins (X := [_, _, _, _]) (M := M1) (Y := L) h), ?_⟩
   simp only [c9, n9]
   refine JA_3 3 4 5 V ?_ ?_ ?_
   ·
    refine Jb Z trivial Z Z Z (open_ac D _ _ d p Ag _ ng cg nf cf (hGl.le (h1.t h2|>.t h3|>.t h4|>.t h5|>.t h9|>.t h10)) (hFn.le (h1.t h2|>.t h3|>.t h4|>.t h5|>.t h9|>.t h10)) hND) ?_
    rintro _ _ s11 h11 ⟨rfl, bm, rfl, hM⟩
    refine ⟨fun _ _ h => h, ?_⟩
    refine JA_2 4 5 V ?_ ?_
    ·
     refine JB_alloc Z trivial Z [_, _] Z Z ?_
     intro β12 s12 h12
     refine JA_1 5 V <| JB_alloc Z trivial Z [_, _, _] Z Z ?_
     intro β13 s13 h13
     refine JA_1 6 V <| JB_st Z trivial 1 [_, _] Z Z Z Z Z Z Z Z Z (fun _ hx => sub_mem (sbN (sbY (sbY (sbY (sbY (sb0 _)))))) hx) <| JA_1 7 V <| JB_st Z trivial 0 [_, _, _] Z Z Z Z Z Z Z Z Z (fun _ hx => sub_mem (sbN (sbY (sbY (sbY (sbY (sb0 _)))))) hx) <| JA_done V ?_
     refine thenQ_n (MidN.mk (β12, β13, M1, .slice Bg mg eg, .slice Bf mf ef, bm) [] (h9.t h10|>.t h11|>.t h12|>.t h13) (.cons Z (.cons Z sk)) (List.Perm.trans (List.Perm.trans (front_perm _ 0) (front_perm _ 1)) (.cons _ (.cons _ (List.perm_append_comm_assoc [_, _, _, _] M1 L)))) ⟨⟨_, _, _, Z, hBG.le (h11.t h12|>.t h13)⟩, ⟨_, _, _, Z, hBF.le (h11.t h12|>.t h13)⟩, hM.le (h12.t h13)⟩)
    refine JB_alloc Z trivial Z [_, _, _] Z Z ?_
    intro β14 s14 h14
    refine JA_1 4 V <| JB_alloc Z trivial Z [_, _] Z Z ?_
    intro β15 s15 h15
    refine JA_1 6 V <| JB_st Z trivial 0 [_, _] Z Z Z Z Z Z Z Z Z (fun _ hx => sub_mem (sbN (sbY (sbY (sbY (sbY (sb0 _)))))) hx) <| JA_1 7 V <| JB_st Z trivial 1 [_, _, _] Z Z Z Z Z Z Z Z Z (fun _ hx => sub_mem (sbN (sbY (sbY (sbY (sbY (sb0 _)))))) hx) <| JA_done V ?_
    refine thenQ_n (MidN.mk (β15, β14, M1, .slice Bg mg eg, .slice Bf mf ef, bm) [] (h9.t h10|>.t h11|>.t h14|>.t h15) (.cons Z (.cons Z sk)) (List.Perm.trans (List.Perm.trans (front_perm _ 1) (front_perm _ 1)) (.cons _ (.cons _ (List.perm_append_comm_assoc [_, _, _, _] M1 L)))) ⟨⟨_, _, _, Z, hBG.le (h11.t h14|>.t h15)⟩, ⟨_, _, _, Z, hBF.le (h11.t h14|>.t h15)⟩, hM.le (h14.t h15)⟩)
   ·
    refine JB_alloc Z trivial Z [_, _] Z Z ?_
    intro β16 s16 h16
    refine JA_2 3 5 V ?_ ?_
    ·
     refine Jb Z trivial Z Z Z (open_ac D _ _ d p Ag _ ng cg nf cf (hGl.le (h1.t h2|>.t h3|>.t h4|>.t h5|>.t h9|>.t h10|>.t h16)) (hFn.le (h1.t h2|>.t h3|>.t h4|>.t h5|>.t h9|>.t h10|>.t h16)) hND) ?_
     rintro _ _ s17 h17 ⟨rfl, bm, rfl, hM⟩
     refine ⟨fun _ _ h => h, ?_⟩
     refine JA_1 5 V <| JB_alloc Z trivial Z [_, _, _] Z Z ?_
     intro β18 s18 h18
     refine JA_1 6 V <| JB_st Z trivial 1 [_, _] Z Z Z Z Z Z Z Z Z (fun _ hx => sub_mem (sbN (sbY (sbY (sbY (sbY (sb0 _)))))) hx) <| JA_1 7 V <| JB_st Z trivial 0 [_, _, _] Z Z Z Z Z Z Z Z Z (fun _ hx => sub_mem (sbN (sbY (sbY (sbY (sbY (sb0 _)))))) hx) <| JA_done V ?_
     refine thenQ_n (MidN.mk (β16, β18, M1, .slice Bg mg eg, .slice Bf mf ef, bm) [] (h9.t h10|>.t h16|>.t h17|>.t h18) (.cons Z (.cons Z sk)) (List.Perm.trans (List.Perm.trans (front_perm _ 0) (front_perm _ 1)) (.cons _ (.cons _ (List.perm_append_comm_assoc [_, _, _, _] M1 L)))) ⟨⟨_, _, _, Z, hBG.le (h16.t h17|>.t h18)⟩, ⟨_, _, _, Z, hBF.le (h16.t h17|>.t h18)⟩, hM.le h18⟩)
    refine JB_alloc Z trivial Z [_, _, _] Z Z ?_
    intro β19 s19 h19
    refine JA_1 3 V <| Jb Z trivial Z Z Z (open_ac D _ _ d p Ag _ ng cg nf cf (hGl.le (h1.t h2|>.t h3|>.t h4|>.t h5|>.t h9|>.t h10|>.t h16|>.t h19)) (hFn.le (h1.t h2|>.t h3|>.t h4|>.t h5|>.t h9|>.t h10|>.t h16|>.t h19)) hND) ?_
    rintro _ _ s20 h20 ⟨rfl, bm, rfl, hM⟩
    refine ⟨fun _ _ h => h, ?_⟩
    refine JA_1 6 V <| JB_st Z trivial 1 [_, _] Z Z Z Z Z Z Z Z Z (fun _ hx => sub_mem (sbN (sbY (sbY (sbY (sbY (sb0 _)))))) hx) <| JA_1 7 V <| JB_st Z trivial 0 [_, _, _] Z Z Z Z Z Z Z Z Z (fun _ hx => sub_mem (sbN (sbY (sbY (sbY (sbY (sb0 _)))))) hx) <| JA_done V ?_
    refine thenQ_n (MidN.mk (β16, β19, M1, .slice Bg mg eg, .slice Bf mf ef, bm) [] (h9.t h10|>.t h16|>.t h19|>.t h20) (.cons Z (.cons Z sk)) (List.Perm.trans (List.Perm.trans (front_perm _ 0) (front_perm _ 1)) (.cons _ (.cons _ (List.perm_append_comm_assoc [_, _, _, _] M1 L)))) ⟨⟨_, _, _, Z, hBG.le (h16.t h19|>.t h20)⟩, ⟨_, _, _, Z, hBF.le (h16.t h19|>.t h20)⟩, hM.le (Lr D)⟩)
   refine JB_alloc Z trivial Z [_, _, _] Z Z ?_
   intro β21 s21 h21
   refine JA_2 3 4 V ?_ ?_
   ·
    refine Jb Z trivial Z Z Z (open_ac D _ _ d p Ag _ ng cg nf cf (hGl.le (h1.t h2|>.t h3|>.t h4|>.t h5|>.t h9|>.t h10|>.t h21)) (hFn.le (h1.t h2|>.t h3|>.t h4|>.t h5|>.t h9|>.t h10|>.t h21)) hND) ?_
    rintro _ _ s22 h22 ⟨rfl, bm, rfl, hM⟩
    refine ⟨fun _ _ h => h, ?_⟩
    refine JA_1 4 V <| JB_alloc Z trivial Z [_, _] Z Z ?_
    intro β23 s23 h23
    refine JA_1 6 V <| JB_st Z trivial 0 [_, _] Z Z Z Z Z Z Z Z Z (fun _ hx => sub_mem (sbN (sbY (sbY (sbY (sbY (sb0 _)))))) hx) <| JA_1 7 V <| JB_st Z trivial 1 [_, _, _] Z Z Z Z Z Z Z Z Z (fun _ hx => sub_mem (sbN (sbY (sbY (sbY (sbY (sb0 _)))))) hx) <| JA_done V ?_
    refine thenQ_n (MidN.mk (β23, β21, M1, .slice Bg mg eg, .slice Bf mf ef, bm) [] (h9.t h10|>.t h21|>.t h22|>.t h23) (.cons Z (.cons Z sk)) (List.Perm.trans (List.Perm.trans (front_perm _ 1) (front_perm _ 1)) (.cons _ (.cons _ (List.perm_append_comm_assoc [_, _, _, _] M1 L)))) ⟨⟨_, _, _, Z, hBG.le (h21.t h22|>.t h23)⟩, ⟨_, _, _, Z, hBF.le (h21.t h22|>.t h23)⟩, hM.le h23⟩)
   refine JB_alloc Z trivial Z [_, _] Z Z ?_
   intro β24 s24 h24
   refine JA_1 3 V <| Jb Z trivial Z Z Z (open_ac D _ _ d p Ag _ ng cg nf cf (hGl.le (h1.t h2|>.t h3|>.t h4|>.t h5|>.t h9|>.t h10|>.t h21|>.t h24)) (hFn.le (h1.t h2|>.t h3|>.t h4|>.t h5|>.t h9|>.t h10|>.t h21|>.t h24)) hND) ?_
   rintro _ _ s25 h25 ⟨rfl, bm, rfl, hM⟩
   refine ⟨fun _ _ h => h, ?_⟩
   refine JA_1 6 V <| JB_st Z trivial 0 [_, _] Z Z Z Z Z Z Z Z Z (fun _ hx => sub_mem (sbN (sbY (sbY (sbY (sbY (sb0 _)))))) hx) <| JA_1 7 V <| JB_st Z trivial 1 [_, _, _] Z Z Z Z Z Z Z Z Z (fun _ hx => sub_mem (sbN (sbY (sbY (sbY (sbY (sb0 _)))))) hx) <| JA_done V ?_
   refine thenQ_n (MidN.mk (β24, β21, M1, .slice Bg mg eg, .slice Bf mf ef, bm) [] (h9.t h10|>.t h21|>.t h24|>.t h25) (.cons Z (.cons Z sk)) (List.Perm.trans (List.Perm.trans (front_perm _ 1) (front_perm _ 1)) (.cons _ (.cons _ (List.perm_append_comm_assoc [_, _, _, _] M1 L)))) ⟨⟨_, _, _, Z, hBG.le (h21.t h24|>.t h25)⟩, ⟨_, _, _, Z, hBF.le (h21.t h24|>.t h25)⟩, hM.le (Lr D)⟩)
  ·
   refine JB_alloc Z trivial Z [_, _] Z Z ?_
   intro β26 s26 h26
   refine JA_2 1 5 V ?_ ?_
   ·
    refine Jb Z trivial Z Z Z (AC.mid [_, _, _, _, _] [] L (cloneP_ac D _ _ d p Ag _ ng cg nf cf (hGl.le (h1.t h2|>.t h3|>.t h4|>.t h5|>.t h9|>.t h26)) (hFn.le (h1.t h2|>.t h3|>.t h4|>.t h5|>.t h9|>.t h26)) hV)) ?_
    rintro _ _ s27 h27 ⟨M1, rfl, Bg, mg, eg, Bf, mf, ef, rfl, hBG, hBF⟩
    refine ⟨(fun x _ h => mem_ins (X := [_, _, _, _, _]) (M := M1) (Y := L) h), ?_⟩
    simp only [c9, n9]
    refine JA_2 3 5 V ?_ ?_
    ·
     refine Jb Z trivial Z Z Z (open_ac D _ _ d p Ag _ ng cg nf cf (hGl.le (h1.t h2|>.t h3|>.t h4|>.t h5|>.t h9|>.t h26|>.t h27)) (hFn.le (h1.t h2|>.t h3|>.t h4|>.t h5|>.t h9|>.t h26|>.t h27)) hND) ?_
     rintro _ _ s28 h28 ⟨rfl, bm, rfl, hM⟩
     refine ⟨fun _ _ h => h, ?_⟩
     refine JA_1 5 V <| JB_alloc Z trivial Z [_, _, _] Z Z ?_
     intro β29 s29 h29
     refine JA_1 6 V <| JB_st Z trivial 1 [_, _] Z Z Z Z Z Z Z Z Z (fun _ hx => sub_mem (sbN (sbY (sbY (sbY (sbY (sb0 _)))))) hx) <| JA_1 7 V <| JB_st Z trivial 0 [_, _, _] Z Z Z Z Z Z Z Z Z (fun _ hx => sub_mem (sbN (sbY (sbY (sbY (sbY (sb0 _)))))) hx) <| JA_done V ?_
     refine thenQ_n (MidN.mk (β26, β29, M1, .slice Bg mg eg, .slice Bf mf ef, bm) [] (h9.t h26|>.t h27|>.t h28|>.t h29) (.cons Z (.cons Z sk)) (List.Perm.trans (List.Perm.trans (front_perm _ 0) (front_perm _ 1)) (.cons _ (.cons _ (List.perm_append_comm_assoc [_, _, _, _] M1 L)))) ⟨⟨_, _, _, Z, hBG.le (h28.t h29)⟩, ⟨_, _, _, Z, hBF.le (h28.t h29)⟩, hM.le h29⟩)
    refine JB_alloc Z trivial Z [_, _, _] Z Z ?_
    intro β30 s30 h30
    refine JA_1 3 V <| Jb Z trivial Z Z Z (open_ac D _ _ d p Ag _ ng cg nf cf (hGl.le (h1.t h2|>.t h3|>.t h4|>.t h5|>.t h9|>.t h26|>.t h27|>.t h30)) (hFn.le (h1.t h2|>.t h3|>.t h4|>.t h5|>.t h9|>.t h26|>.t h27|>.t h30)) hND) ?_
    rintro _ _ s31 h31 ⟨rfl, bm, rfl, hM⟩
    refine ⟨fun _ _ h => h, ?_⟩
    refine JA_1 6 V <| JB_st Z trivial 1 [_, _] Z Z Z Z Z Z Z Z Z (fun _ hx => sub_mem (sbN (sbY (sbY (sbY (sbY (sb0 _)))))) hx) <| JA_1 7 V <| JB_st Z trivial 0 [_, _, _] Z Z Z Z Z Z Z Z Z (fun _ hx => sub_mem (sbN (sbY (sbY (sbY (sbY (sb0 _)))))) hx) <| JA_done V ?_
    refine thenQ_n (MidN.mk (β26, β30, M1, .slice Bg mg eg, .slice Bf mf ef, bm) [] (h9.t h26|>.t h27|>.t h30|>.t h31) (.cons Z (.cons Z sk)) (List.Perm.trans (List.Perm.trans (front_perm _ 0) (front_perm _ 1)) (.cons _ (.cons _ (List.perm_append_comm_assoc [_, _, _, _] M1 L)))) ⟨⟨_, _, _, Z, hBG.le (h30.t h31)⟩, ⟨_, _, _, Z, hBF.le (h30.t h31)⟩, hM.le (Lr D)⟩)
   refine JB_alloc Z trivial Z [_, _, _] Z Z ?_
   intro β32 s32 h32
   refine JA_1 1 V <| Jb Z trivial Z Z Z (AC.mid [_, _, _, _, _, _] [] L (cloneP_ac D _ _ d p Ag _ ng cg nf cf (hGl.le (h1.t h2|>.t h3|>.t h4|>.t h5|>.t h9|>.t h26|>.t h32)) (hFn.le (h1.t h2|>.t h3|>.t h4|>.t h5|>.t h9|>.t h26|>.t h32)) hV)) ?_
   rintro _ _ s33 h33 ⟨M1, rfl, Bg, mg, eg, Bf, mf, ef, rfl, hBG, hBF⟩
   refine ⟨(fun x _ h => mem_ins (X := [_, _, _, _, _, _]) (M := M1) (Y := L) h), ?_⟩
   simp only [c9, n9]
   refine JA_1 3 V <| Jb Z trivial Z Z Z (open_ac D _ _ d p Ag _ ng cg nf cf (hGl.le (h1.t h2|>.t h3|>.t h4|>.t h5|>.t h9|>.t h26|>.t h32|>.t h33)) (hFn.le (h1.t h2|>.t h3|>.t h4|>.t h5|>.t h9|>.t h26|>.t h32|>.t h33)) hND) ?_
   rintro _ _ s34 h34 ⟨rfl, bm, rfl, hM⟩
   refine ⟨fun _ _ h => h, ?_⟩
   refine JA_1 6 V <| JB_st Z trivial 1 [_, _] Z Z Z Z Z Z Z Z Z (fun _ hx => sub_mem (sbN (sbY (sbY (sbY (sbY (sb0 _)))))) hx) <| JA_1 7 V <| JB_st Z trivial 0 [_, _, _] Z Z Z Z Z Z Z Z Z (fun _ hx => sub_mem (sbN (sbY (sbY (sbY (sbY (sb0 _)))))) hx) <| JA_done V ?_
   refine thenQ_n (MidN.mk (β26, β32, M1, .slice Bg mg eg, .slice Bf mf ef, bm) [] (h9.t h26|>.t h32|>.t h33|>.t h34) (.cons Z (.cons Z sk)) (List.Perm.trans (List.Perm.trans (front_perm _ 0) (front_perm _ 1)) (.cons _ (.cons _ (List.perm_append_comm_assoc [_, _, _, _] M1 L)))) ⟨⟨_, _, _, Z, hBG.le h34⟩, ⟨_, _, _, Z, hBF.le h34⟩, hM.le (Lr D)⟩)
  refine JB_alloc Z trivial Z [_, _, _] Z Z ?_
  intro β35 s35 h35
  refine JA_2 1 4 V ?_ ?_
  ·
   refine Jb Z trivial Z Z Z (AC.mid [_, _, _, _, _] [] L (cloneP_ac D _ _ d p Ag _ ng cg nf cf (hGl.le (h1.t h2|>.t h3|>.t h4|>.t h5|>.t h9|>.t h35)) (hFn.le (h1.t h2|>.t h3|>.t h4|>.t h5|>.t h9|>.t h35)) hV)) ?_
   rintro _ _ s36 h36 ⟨M1, rfl, Bg, mg, eg, Bf, mf, ef, rfl, hBG, hBF⟩
   refine ⟨(fun x _ h => mem_ins (X := [_, _, _, _, _]) (M := M1) (Y := L) h), ?_⟩
   simp only [c9, n9]
   refine JA_2 3 4 V ?_ ?_
   ·
    refine Jb Z trivial Z Z Z (open_ac D _ _ d p Ag _ ng cg nf cf (hGl.le (h1.t h2|>.t h3|>.t h4|>.t h5|>.t h9|>.t h35|>.t h36)) (hFn.le (h1.t h2|>.t h3|>.t h4|>.t h5|>.t h9|>.t h35|>.t h36)) hND) ?_
    rintro _ _ s37 h37 ⟨rfl, bm, rfl, hM⟩
    refine ⟨fun _ _ h => h, ?_⟩
    refine JA_1 4 V <| JB_alloc Z trivial Z [_, _] Z Z ?_
    intro β38 s38 h38
    refine JA_1 6 V <| JB_st Z trivial 0 [_, _] Z Z Z Z Z Z Z Z Z (fun _ hx => sub_mem (sbN (sbY (sbY (sbY (sbY (sb0 _)))))) hx) <| JA_1 7 V <| JB_st Z trivial 1 [_, _, _] Z Z Z Z Z Z Z Z Z (fun _ hx => sub_mem (sbN (sbY (sbY (sbY (sbY (sb0 _)))))) hx) <| JA_done V ?_
    refine thenQ_n (MidN.mk (β38, β35, M1, .slice Bg mg eg, .slice Bf mf ef, bm) [] (h9.t h35|>.t h36|>.t h37|>.t h38) (.cons Z (.cons Z sk)) (List.Perm.trans (List.Perm.trans (front_perm _ 1) (front_perm _ 1)) (.cons _ (.cons _ (List.perm_append_comm_assoc [_, _, _, _] M1 L)))) ⟨⟨_, _, _, Z, hBG.le (h37.t h38)⟩, ⟨_, _, _, Z, hBF.le (h37.t h38)⟩, hM.le h38⟩)
   refine JB_alloc Z trivial Z [_, _] Z Z ?_
   intro β39 s39 h39
   refine JA_1 3 V <| Jb Z trivial Z Z Z (open_ac D _ _ d p Ag _ ng cg nf cf (hGl.le (h1.t h2|>.t h3|>.t h4|>.t h5|>.t h9|>.t h35|>.t h36|>.t h39)) (hFn.le (h1.t h2|>.t h3|>.t h4|>.t h5|>.t h9|>.t h35|>.t h36|>.t h39)) hND) ?_
   rintro _ _ s40 h40 ⟨rfl, bm, rfl, hM⟩
   refine ⟨fun _ _ h => h, ?_⟩
   refine JA_1 6 V <| JB_st Z trivial 0 [_, _] Z Z Z Z Z Z Z Z Z (fun _ hx => sub_mem (sbN (sbY (sbY (sbY (sbY (sb0 _)))))) hx) <| JA_1 7 V <| JB_st Z trivial 1 [_, _, _] Z Z Z Z Z Z Z Z Z (fun _ hx => sub_mem (sbN (sbY (sbY (sbY (sbY (sb0 _)))))) hx) <| JA_done V ?_
   refine thenQ_n (MidN.mk (β39, β35, M1, .slice Bg mg eg, .slice Bf mf ef, bm) [] (h9.t h35|>.t h36|>.t h39|>.t h40) (.cons Z (.cons Z sk)) (List.Perm.trans (List.Perm.trans (front_perm _ 1) (front_perm _ 1)) (.cons _ (.cons _ (List.perm_append_comm_assoc [_, _, _, _] M1 L)))) ⟨⟨_, _, _, Z, hBG.le (h39.t h40)⟩, ⟨_, _, _, Z, hBF.le (h39.t h40)⟩, hM.le (Lr D)⟩)
  refine JB_alloc Z trivial Z [_, _] Z Z ?_
  intro β41 s41 h41
  refine JA_1 1 V <| Jb Z trivial Z Z Z (AC.mid [_, _, _, _, _, _] [] L (cloneP_ac D _ _ d p Ag _ ng cg nf cf (hGl.le (h1.t h2|>.t h3|>.t h4|>.t h5|>.t h9|>.t h35|>.t h41)) (hFn.le (h1.t h2|>.t h3|>.t h4|>.t h5|>.t h9|>.t h35|>.t h41)) hV)) ?_
  rintro _ _ s42 h42 ⟨M1, rfl, Bg, mg, eg, Bf, mf, ef, rfl, hBG, hBF⟩
  refine ⟨(fun x _ h => mem_ins (X := [_, _, _, _, _, _]) (M := M1) (Y := L) h), ?_⟩
  simp only [c9, n9]
  refine JA_1 3 V <| Jb Z trivial Z Z Z (open_ac D _ _ d p Ag _ ng cg nf cf (hGl.le (h1.t h2|>.t h3|>.t h4|>.t h5|>.t h9|>.t h35|>.t h41|>.t h42)) (hFn.le (h1.t h2|>.t h3|>.t h4|>.t h5|>.t h9|>.t h35|>.t h41|>.t h42)) hND) ?_
  rintro _ _ s43 h43 ⟨rfl, bm, rfl, hM⟩
  refine ⟨fun _ _ h => h, ?_⟩
  refine JA_1 6 V <| JB_st Z trivial 0 [_, _] Z Z Z Z Z Z Z Z Z (fun _ hx => sub_mem (sbN (sbY (sbY (sbY (sbY (sb0 _)))))) hx) <| JA_1 7 V <| JB_st Z trivial 1 [_, _, _] Z Z Z Z Z Z Z Z Z (fun _ hx => sub_mem (sbN (sbY (sbY (sbY (sbY (sb0 _)))))) hx) <| JA_done V ?_
  refine thenQ_n (MidN.mk (β41, β35, M1, .slice Bg mg eg, .slice Bf mf ef, bm) [] (h9.t h35|>.t h41|>.t h42|>.t h43) (.cons Z (.cons Z sk)) (List.Perm.trans (List.Perm.trans (front_perm _ 1) (front_perm _ 1)) (.cons _ (.cons _ (List.perm_append_comm_assoc [_, _, _, _] M1 L)))) ⟨⟨_, _, _, Z, hBG.le h43⟩, ⟨_, _, _, Z, hBF.le h43⟩, hM.le (Lr D)⟩)
 intro g s8 h8 I8
 simp only [c9, n9]
 obtain ⟨b5, b6, M1, v1, v2, bm⟩ := g
 obtain ⟨⟨Bg, mg, eg, q1, hBG⟩, ⟨Bf, mf, ef, q2, css, Ms0, hM1, hRw, hA0⟩, hM⟩ := I8
 simp only at q1 q2 hBG hRw hM hA0 hM1
 subst q1 q2
 dsimp only
 have hmf : mf = nf := by rw [hRw.1, hA0.len.2]; exact hn2.symm
 obtain rfl : nf = mf := hmf.symm
 have hcf1 := hRw.2.1
 have hcf2 := hRw.2.2.1
 refine JC_perm (.cons _ (.cons _ (List.perm_append_comm_assoc M1 [_, _, _, _] L))) ?_
 simp only [c9, n9]
 refine Zs <| Zs <| Zr <| ZqfB Z Z Z Z Z <| Zql 0 Z Z Z Z Z Z <| Zqls Z Z Z Z <| Zqm Z Z <| Zn <| Zt <| Zp <| ?_
 refine JC_loop (γ := Nat × Hl) (fun g => [(1, _), (2, _), (3, _), (5, _), (6, _), (22, _), (23, .int .i64 (g.1 : Int))]) (fun g => _ :: _ :: _ :: _ :: _ :: _ :: (g.2 ++ L)) (fun g tw => Le D s8 tw ∧ (g.1 ≤ nf ∧ ∃ Ms, g.2 = List.flatten Ms ∧ All3 (FO d tw) Ms ((p.funcs.take g.1).map (fdF p) ++ p.funcs.drop g.1) css)) (fun g => nf - g.1) (fun _ _ _ h hl => ⟨h.1.trans hl, ⟨h.2.1, by obtain ⟨Ms, q2, q3⟩ := h.2.2; exact ⟨Ms, q2, q3.mono fun _ _ _ k => k.le hl⟩⟩⟩) (0, M1) (.cons Z (.cons Z (.cons Z (.cons Z (.cons Z (.cons Z (.cons Z (.nil _)))))))) Z ⟨Le.refl _, ⟨Nat.zero_le _, Ms0, hM1, by simpa using hA0.mono fun _ _ _ k => k.le (Lr D)⟩⟩ ?_
 intro g s44 I44
 obtain ⟨k, Fo⟩ := g
 obtain ⟨hk0, Ms, hF, hA3⟩ := I44.2
 simp only at hk0 hF hA3
 dsimp only
 refine Zs <| Zr <| Zqlt Z Z Z <| Zn <| Zt <| Zs <| ?_
 refine JC_ifD Z (fun c45 => ?_) (fun c45 => ?_)
 ·
  have hk : k < nf := by omega
  obtain ⟨b, off, x, B1, m1, d1, B2, m2, d2, B3, m3, d3, rfl, hx, hcx, hpx, hlx, hbx, hnl⟩ := Fncs.at_ (hFn.le (h1.t h2|>.t h3|>.t h4|>.t h5|>.t h8|>.t I44.1)) hk
  have hfx := hVf x (List.mem_of_getElem? hx)
  obtain ⟨us1, u, us2, vs1, v, vs2, ws1, w0, ws2, rfl, hvv, hcs, hvl, hxw, hA1, hA2⟩ := hA3.at_ (k := k) (by rw [List.length_append, List.length_map, List.length_take, List.length_drop]; omega)
  obtain ⟨hvs1, hvx, hvs2⟩ := part_at hvv hvl hx
  obtain rfl : x = v := hvx.symm
  obtain ⟨C1, r1, e1, C2, r2, e2, C3, r3, e3, hw0, hx1, hx2, hxB, _⟩ := hxw
  have hw : css[k]? = some w0 := by
    have := hA1.len
    rw [hcs, List.getElem?_append_right O, show k - ws1.length = 0 by omega]; rfl
  obtain ⟨b9, off9, rfl, hcr⟩ := hRw.at_ hw
  rw [hw0] at hcr
  obtain ⟨F1, hF1⟩ : ∃ F, F = us1.flatten := ⟨_, rfl⟩
  obtain ⟨F2, hF2⟩ : ∃ F, F = us2.flatten := ⟨_, rfl⟩
  have hFF : Fo = F1 ++ (u ++ F2) := by rw [hF, hF1, hF2]; simp
  subst hFF
  rw [show (F1 ++ (u ++ F2)) ++ L = F1 ++ (u ++ (F2 ++ L)) from by simp only [List.append_assoc]]
  refine Zk <| Zt <| Zs <| Zp <| Zs <| Zr <| Zqm Z Z <| Zqa Z Z <| Zn <| Zt <| JC_drawT drawsMixed 14 Z 6 ?_
  intro s46 h46
  refine za 0 Z (QE_ldA 1 [_, _, _] Z Z Z Z Z) Z <| za 1 Z (QE_faB Z Z Z Z) Z <| za 2 Z (QE_ld1 5 Z Z Z Z Z) Z <| za 3 Z (QE_mv Z) Z <| za 4 Z (QE_iaN Z Z Z Z Z Z hk) Z <| za 5 Z (QE_ldsA Z Z Z (hcx.le h46) Z) Z <| za 6 Z (QE_build [(_, _), (_, _)] [_, _, _, _, _, _, _] Z Z Z Z Z Z) Z <| za 7 Z (QE_faB Z Z Z Z) Z <| za 8 Z (QE_ld1 0 Z Z Z Z Z) Z <| za 9 Z (QE_mv Z) Z <| za 10 Z (QE_iaN Z Z Z Z Z Z hk) Z <| za 11 Z (QE_fa Z Z Z Z) Z <| za 12 Z (QE_ldsR 3 Z Z Z (hcr.le (I44.1.t h46)) Z) Z <| JA_1 13 V ?_
  refine Jb Z trivial Z Z Z (AC.mid (_ :: _ :: _ :: _ :: _ :: _ :: F1) u (F2 ++ L) (fds D d _ _ bm Ag _ ng cg nf cf p (hM.le (I44.1.t h46)) (hGl.le (h1.t h2|>.t h3|>.t h4|>.t h5|>.t h8|>.t I44.1|>.t h46)) x B1 B2 B3 m1 d1 m2 d2 m3 d3 (hpx.le h46) (hlx.le h46) u C3 r3 e3 x.body 1 (hxB.le h46) hfx.2.2.2.2.1)) ?_
  rintro _ _ s47 h47 ⟨u2, rfl, rfl, hu2⟩
  refine ⟨(fun x hx _ => memK6 hx), ?_⟩
  simp only [List.cons_append]
  rw [show F1 ++ (u2 ++ (F2 ++ L)) = (F1 ++ (u2 ++ F2)) ++ L from by simp only [List.append_assoc]]
  refine JA_done V <| Zb <| Zt <| Zr <| Zqadd Z Z Z (w64 O O) <| Zqm Z Z <| Zn <| ?_
  refine thenQ_n ⟨(k + 1, F1 ++ (u2 ++ F2)), [], kp, Z, ⟨(I44.1.t h46|>.t h47), ⟨by simp only; omega, us1 ++ u2 :: us2, by simp [hF1, hF2], by simp only; rw [part_next hx, ← hvs1, ← hvs2, hcs]; exact (hA1.mono fun _ _ _ k => k.le (h46.t h47)).app (.cons ⟨C1, r1, e1, C2, r2, e2, C3, r3, e3, hw0, hx1.le (h46.t h47), hx2.le (h46.t h47), hu2.le (Lr D), hnl⟩ (hA2.mono fun _ _ _ k => k.le (h46.t h47)))⟩⟩, (by simp only; omega)⟩
 obtain rfl : nf = k := by omega
 rw [List.take_of_length_le O, List.drop_eq_nil_of_le O, List.append_nil] at hA3
 refine Zl <| Zv <| Zv <| Zd <| Zt <| Zs <| Zs <| JC_pubX [_, _, _, _, _, _] Fo _ ?_
 intro s48 h48 hpub48
 simp only [c9, n9]
 have hFN : Fncs d s48 Bf nf ef (p.funcs.map (fdF p)) := FOs.pub ⟨css, Ms, hF, hRw.le (I44.1.t h48), hA3.mono fun _ _ _ k => k.le h48⟩ hpub48
 refine Zr <| JO_q (QE_ldA 0 [_, _] Z Z Z Z Z) Z <| Jc Z Z Z (validate_ac D _ _ (hG.le (h1.t h2|>.t h3|>.t h4|>.t h5|>.t h8|>.t I44.1|>.t h48)) d (foldP p) Bg Bf mg eg nf ef (hBG.le (I44.1.t h48)) (hFN.le (Lr D))) ?_
 rintro _ _ s49 h49 ⟨rfl, rfl⟩
 refine JO_allocZ Z [_, _] Z Z ?_
 intro β50 s50 h50
 refine JO_st 0 [_, _] Z Z Z Z Z Z Z Z Z <| Zn <| Zt <| Zs <| Zr <| JO_q (QE_ldA 0 [_, _] Z Z Z Z Z) Z <| JO_q (QE_build [] [_, _] Z Z Z Z Z Z) Z <| JO_q (QE_ane Z Z (eqFault _ _ _ _)) Z <| Zn <| Zt <| ?_
 refine JC_ifN Z (fun c51 => ?_) (fun c51 => ?_)
 ·
  have hE : foldR p = (⟨[], []⟩, prgF (foldP p)) := (if_neg g14).trans (if_pos (fun h => c51 (by rw [prgF_00 h]; exact ⟨rfl, rfl⟩)))
  refine Zs <| JC_drawE drawsMixed 4 Z [5, 4] (by intro x hx; exact eraseAll_mem hx) ?_
  intro s52 h52
  refine za 0 Z (QE_build [] [_, _] Z Z Z Z Z Z) Z <| za 1 Z (QE_ldA 0 [_, _] Z Z Z Z Z) Z <| JA_1 2 V <| JB_st Z trivial 5 [_, _] Z Z Z Z Z Z Z Z Z (fun _ hx => sub_mem (sbY (sbY (sbY (sbY (sbN (sbY (sbE _))))))) hx) <| JA_1 3 V <| JB_st Z trivial 4 [_, _] Z Z Z Z Z Z Z Z Z (fun _ hx => sub_mem (sbY (sbY (sbY (sbY (sbN (sbY (sbE _))))))) hx) <| JA_done V <| Zt <| Zo <| Zu <| ?_
  refine retQ_mk [_, _, _, _, _, _, _] L (.inr Z) (.agg (us := [_, _]) 5 Z Z Z Z Z (.agg (us := [_, _]) 4 Z Z Z Z Z (.nil))) Z (h1.t h2|>.t h3|>.t h4|>.t h5|>.t h8|>.t I44.1|>.t h48|>.t h49|>.t h50|>.t h52) (fun sR hS2 => ?_)
  rw [hE]
  exact ⟨rfl, none, 0, 0, none, 0, 0, rfl, fun s2 hs2 => ⟨glos_nil _, fncs_nil _ _⟩⟩
 have g45 := c51
 have hE : foldR p = (foldP p, (0, 0)) := (if_neg g14).trans (if_neg (fun h => h g45.1))
 refine Zk <| Zt <| Zs <| Zr <| JO_q (QE_ldA 1 [_, _] Z Z Z Z Z) Z <| JO_q (QE_build [] [_, _] Z Z Z Z Z Z) Z <| JO_st 5 [_, _] Z Z Z Z Z Z Z Z Z <| JO_st 4 [_, _] Z Z Z Z Z Z Z Z Z <| Zn <| Zt <| Zo <| ?_
 refine retQ_mk [_, _, _, _, _, _, _] L (.inr Z) (.agg (us := [_, _]) 5 Z Z Z Z Z (.agg (us := [_, _]) 4 Z Z Z Z Z (.nil))) Z (h1.t h2|>.t h3|>.t h4|>.t h5|>.t h8|>.t I44.1|>.t h48|>.t h49|>.t h50) (fun sR hS2 => ?_)
 rw [hE]
 exact ⟨rfl, _, _, _, _, _, _, rfl, fun s2 hs2 => ⟨hBG.le (I44.1.t h48|>.t h49|>.t h50|>.t (hS2.t hs2)), hFN.le (h49.t h50|>.t (hS2.t hs2))⟩⟩
theorem fold_ac (D : Nat) (L : Hl) (s : World) (hG : GP s) (d : Nat) (p : Prg) (Ag Af : Option Addr) (ng cg nf cf : Nat) (hGl : Glos s Ag ng cg p.globals) (hFn : Fncs d s Af nf cf p.funcs) : AC Tryz.prog D 22 [.agg #[.slice Ag ng cg, .slice Af nf cf]] L s fun v L' s' => L = L' ∧ ∃ Bg mg eg Bf mf ef, v = .tuple #[.agg #[.slice Bg mg eg, .slice Bf mf ef], .agg #[.int .i64 (foldR p).2.1, .int .i64 (foldR p).2.2]] ∧ Glos s' Bg mg eg (foldR p).1.globals ∧ Fncs d s' Bf mf ef (foldR p).1.funcs := (foldO_ac D L s hG d p Ag Af ng cg nf cf hGl hFn).mono fun v L' s' _ ⟨h1, Bg, mg, eg, Bf, mf, ef, h2, h3⟩ => ⟨h1, Bg, mg, eg, Bf, mf, ef, h2, h3 _ (Le.refl _)⟩
end Go.Proofs.YtacajpepkfinoaaGreatDoor
namespace Go.FL
open Go Go.RowKit
theorem cells_flat {α : Type} {sz : Nat} {f : α → List Value} (hf : ∀ x, (f x).length = sz) {s : World} {b : Nat} : ∀ {l : List α} {off : Nat}, (∀ (i : Nat) (x : α), l[i]? = some x → CellsAt s b (off + i * sz) (f x)) → CellsAt s b off (l.map f).flatten
  | [], off, _ => fun j v h => by simp at h
  | x :: r, off, h => by
    have h0 := h 0 x rfl
    have ih := cells_flat hf (l := r) (off := off + sz) fun i y hy => by
      have := h (i + 1) y (by simpa using hy)
      rwa [show off + (i + 1) * sz = off + sz + i * sz by rw [Nat.succ_mul]; omega] at this
    intro j v hj
    rw [List.map_cons, List.flatten_cons] at hj
    by_cases hl : j < (f x).length
    · rw [List.getElem?_append_left hl] at hj
      have := h0 j v hj
      rwa [Nat.zero_mul, Nat.add_zero] at this
    · rw [List.getElem?_append_right O] at hj
      have := ih (j - (f x).length) v hj
      rw [hf x] at this hl
      rwa [show off + sz + (j - sz) = off + j by omega] at this
theorem flat_len {α : Type} {sz : Nat} {f : α → List Value} (hf : ∀ x, (f x).length = sz) (l : List α) : (l.map f).flatten.length = l.length * sz := by
  induction l with
  | nil => simp
  | cons x r ih => rw [List.map_cons, List.flatten_cons, List.length_append, ih, hf, List.length_cons, Nat.succ_mul]; omega
end Go.FL
namespace Go.Proofs.YtacajpepkfinoaaGreatDoor
open Go Go.FL Go.RowKit
theorem Sl.rowF {α : Type} {sz : Nat} {f : α → List Value} {s : World} {A : Option Addr} {n c : Nat} {l : List α} (h : Sl sz (fun _ x cs => cs = f x) s A n c l) (hf : ∀ x, (f x).length = sz) (h1 : ∀ x, ∀ u ∈ f x, u.oneCell' = true) : Row s A n sz (l.map f).flatten := by
  refine ⟨by rw [flat_len hf, h.1], fun u hu => ?_, fun j u hj => ?_⟩
  · obtain ⟨cs, hc, hu⟩ := List.mem_flatten.1 hu
    obtain ⟨x, _, rfl⟩ := List.mem_map.1 hc
    exact h1 x u hu
  · cases l with
    | nil => simp at hj
    | cons x r =>
      obtain ⟨b, off, cs, hA, _, _, _⟩ := h.2.2.2 0 x rfl
      subst hA
      refine ⟨b, off, Z, cells_flat hf (l := x :: r) (off := off) (fun i y hy => ?_) j u hj⟩
      obtain ⟨b2, off2, cs2, hA2, h2, _, h3⟩ := h.2.2.2 i y hy
      injection hA2 with hA2
      injection hA2 with e1 e2
      subst e1; subst e2; subst h3
      exact h2
theorem Own.rowF {α : Type} {e sz : Nat} {f : α → List Value} {M : Hl} {A : Option Addr} {n c : Nat} {l : List α} {s : World} (h : FL.Own e sz M (.slice A n c) n (l.map f).flatten) (hf : ∀ x, (f x).length = sz) (hp : Pub M s) (hn : n = l.length) : Sl sz (fun _ x cs => cs = f x) s A n c l := by
  refine Own.rows h hp ?_ hn
  clear h hn
  induction l with
  | nil => exact .nil
  | cons x r ih => exact .cons ⟨hf x, rfl⟩ ih
open Go.FL
attribute [local irreducible] JC JO JA JB thenQ blockQ retQ AC fill CellsAt QE Ev Mid
structure RNd where
  name : Str
  u : Int
  count : Int
  loops : Int
def useW (u : Int) : Str := if u = 1 then [115, 101, 116] else if u = 2 then [103, 101, 116] else if u = 3 then [105, 116, 101, 109] else if u = 4 then [99, 97, 108, 108] else [108, 101, 97, 118, 101]
def rnv (r : RNd) : List Value := [St r.name, St (useW r.u), .int .i64 r.count, .int .i64 r.loops]
def rnvs (l : List RNd) : List Value := (l.map rnv).flatten
def Rns (s : World) (A : Option Addr) (n c : Nat) (l : List RNd) : Prop := Sl 4 (fun _ r cs => cs = rnv r) s A n c l
theorem Rns.le {D : Nat} {s s' : World} {A : Option Addr} {n c : Nat} {l : List RNd} (h : Rns s A n c l) (hl : Le D s s') : Rns s' A n c l := Sl.le (fun _ _ h => h) h hl
theorem Rns.row {s : World} {A : Option Addr} {n c : Nat} {l : List RNd} (h : Rns s A n c l) : Row s A n 4 (rnvs l) := Sl.rowF h (fun _ => rfl) (fun x u hu => by
  simp only [rnv, List.mem_cons, List.not_mem_nil, or_false] at hu
  rcases hu with rfl | rfl | rfl | rfl <;> rfl)
theorem Rns.at_ {s : World} {A : Option Addr} {n c k : Nat} {l : List RNd} (h : Rns s A n c l) (hk : k < n) : ∃ b off r, A = some ⟨b, off, none⟩ ∧ l[k]? = some r ∧ CellsAt s b (off + k * 4) [St r.name, St (useW r.u), .int .i64 r.count, .int .i64 r.loops] := by
  have hl : k < l.length := by rw [← h.1]; exact hk
  obtain ⟨b, off, cs, h1, h2, _, rfl⟩ := h.2.2.2 k l[k] (List.getElem?_eq_getElem hl)
  exact ⟨b, off, l[k], h1, List.getElem?_eq_getElem hl, h2⟩
end Go.Proofs.YtacajpepkfinoaaGreatDoor
namespace Go.FL
open Go Go.RowKit
variable {P : Program} {TT : TyTab} {D n : Nat} {Q : APost} {fr : Fr} {L : Hl} {s : World} {ops : Array Oper} {rest : List Oper} {d ty : Nat} {pos : String} {af : Array Edge}
theorem Ev_appU {t e m c k sz b0 o0 : Nat} {x y : Operand} {ti te : TI} {A1 : Option Addr} {news xs : List Value} (hT : TabOK P TT) (hx : lk fr x = some (.slice (some ⟨b0, o0, none⟩) k k)) (hy : lk fr y = some (.slice A1 m c)) (ht : tlook TT t = some ti) (hk : ti.kind = .sl e) (he : tlook TT e = some te) (hsz : te.size = sz)
    (hC : CellsAt s b0 o0 xs) (hl : xs.length = k * sz) (hR : Row s A1 m sz news) (hm : 0 < m) (h63 : (k + m) * te.bytes ≤ 140737488355328 ∧ k + m ≤ 9223372036854775807) (ho : OKL D L s) :
    ∃ g cap ys s', Ev P TT D fr (.call { callee := .builtin .append, args := #[x, y], argTypes := #[t, t] }) ty L s (.value (.slice (some ⟨g, 0, none⟩) (k + m) cap)) ((g, cb (xs ++ news ++ ys) e) :: L) s' ∧ OKL D ((g, cb (xs ++ news ++ ys) e) :: L) s' ∧ Le D s s' ∧ k + m ≤ cap ∧ cap ≤ 9223372036854775807 := by
  have hok := hT.at_ ht
  obtain ⟨k1, k2, _⟩ := hok
  rw [hk] at k2
  simp only [TK.fits] at k2
  rw [k2] at k1
  have hte := hT.at_ he
  obtain ⟨i, i1, i2, i3, i4⟩ := info_of hte
  have hpos : 0 < te.size := hte.2.2.2.2.2.1
  have hzs : te.zero.cells.size = te.size := by rw [zero_cells hte]; simpa using hte.2.2.2.1
  have h0 : ∃ b off, A1 = some ⟨b, off, none⟩ ∧ CellsAt s b off news := by
    have hl : 0 < news.length := by rw [hR.1, ← hsz]; exact Nat.mul_pos hm hpos
    obtain ⟨b, off, h1, _⟩ := hR.2.2 0 news[0] (List.getElem?_eq_getElem hl)
    refine ⟨b, off, h1, fun j u hj => ?_⟩
    obtain ⟨b', off', h1', h2⟩ := hR.2.2 j u hj
    rw [h1] at h1'
    injection h1' with h1'; injection h1' with e1 e2; subst e1; subst e2
    exact h2
  obtain ⟨b, off, rfl, hcells⟩ := h0
  obtain ⟨v', w', hrun, hown, hgr⟩ := run_append_arg_grows (P := P) (fill L s) t ty e i te.zero sz te.bytes k1 i1 i4 (i2.trans hsz) i3 (by rw [hzs, hsz]) (by rw [← hsz]; exact hpos) ⟨b0, o0, none⟩ k k xs hl (fun j u hj => by rw [add_lit]; exact fill_cell ho (hC j u hj)) ⟨b, off, none⟩ m c news hR.1
    (fun j u hj => by rw [add_lit]; exact fill_cell ho (hcells j u hj)) O (by simpa [maxLen] using h63.2) h63.1
  obtain ⟨h1, h2⟩ := hown
  rcases h2 with ⟨_, h0⟩ | ⟨g, cap, cur, rfl, hge, hg, hnc, hcm, hcs, ht2⟩
  · omega
  rw [fill_size] at hge
  have hsize := hgr.size
  rw [fill_size] at hsize
  have hcur : cur = (xs ++ news ++ cur.toList.drop ((k + m) * sz)).toArray := by
    rw [← ht2, List.take_append_drop]
  have hlt : ∀ x ∈ L, x.1 < s.heap.size := fun x hx => ho.lt hx
  obtain ⟨r1, r2, r3⟩ := of_grown (D := D) (L' := (g, cb (xs ++ news ++ cur.toList.drop ((k + m) * sz)) e) :: L) ho (hgr.os.trans (fill_os _ _)) (hgr.tape.trans (fill_tape _ _)) (hgr.output.trans (fill_output _ _)) hsize
    (by
      rw [List.map_cons, List.nodup_cons]
      refine ⟨fun hm2 => ?_, ho.nd⟩
      obtain ⟨x, hx, hx2⟩ := List.mem_map.1 hm2
      have := hlt x hx
      simp only at hx2
      omega)
    (fun x hx => by
      rcases List.mem_cons.1 hx with rfl | hx
      · rw [hg, cb, ← hcur]
      · rw [hgr.block x.1 (by rw [fill_size]; exact hlt x hx) (by simp), fill_mem ho hx])
    (fun x hx => by
      rcases List.mem_cons.1 hx with rfl | hx
      · exact .inr hge
      · exact .inl (List.mem_map.2 ⟨x, hx, rfl⟩))
    (fun j hj hn => by rw [hgr.block j (by rw [fill_size]; exact hj) (by simp), fill_other hn])
  refine ⟨g, cap, _, _, fun hT ho dst pos af g ρ hρ => ⟨?_, r2⟩, r2, r3, hnc, by simpa [maxLen] using hcm⟩
  rw [← r1]
  simp only [execOp, resolve, invoke, builtin, Sem.run_bind, Sem.run_pure, Result.andThen_ok, List.map_toArray, List.map_cons, List.map_nil, hρ x _ hx, hρ y _ hy, hrun]
theorem CellsAt.pre {b off : Nat} {xs ys : List Value} (h : CellsAt s b off (xs ++ ys)) : CellsAt s b off xs := fun j v hj => h j v (by rw [List.getElem?_append_left (List.getElem?_eq_some_iff.1 hj).1]; exact hj)
theorem CellsAt.nth {b : Nat} {l : List Value} {j : Nat} {v : Value} (h : CellsAt s b 0 l) (hj : l[j]? = some v) : CellsAt s b (0 + j) [v] := fun i u hi => by
  cases i with
  | zero => simp at hi; subst hi; exact h j v hj
  | succ i => simp at hi
theorem JO_appN {t e m c k sz b0 o0 : Nat} {x y : Operand} {ti te : TI} {A1 : Option Addr} {news xs : List Value} (hx : lk fr x = some (.slice (some ⟨b0, o0, none⟩) k k)) (hy : lk fr y = some (.slice A1 m c)) (ht : tlook TT t = some ti) (hk : ti.kind = .sl e) (he : tlook TT e = some te) (hsz : te.size = sz)
    (hC : CellsAt s b0 o0 xs) (hl : xs.length = k * sz) (hR : Row s A1 m sz news) (hm : 0 < m) (h63 : (k + m) * te.bytes ≤ 140737488355328 ∧ k + m ≤ 9223372036854775807) (hd : Nat.blt d n = true)
    (kk : ∀ g cap s', Le D s s' → CellsAt s' g 0 (xs ++ news) → k + m ≤ cap → cap ≤ 9223372036854775807 → JO P TT D n ops Q rest ((d, .slice (some ⟨g, 0, none⟩) (k + m) cap) :: fr) L s') :
    JO P TT D n ops Q (⟨some d, .call { callee := .builtin .append, args := #[x, y], argTypes := #[t, t] }, ty, pos, af, none⟩ :: rest) fr L s := fun hT a hr ho => by
  obtain ⟨g, cap, ys, s', h1, h2, h3, h4, h5⟩ := Ev_appU (ty := ty) hT hx hy ht hk he hsz hC hl hR hm h63 ho
  obtain ⟨d1, d2, d3⟩ := drop_own (A := [(g, cb (xs ++ news ++ ys) e)]) (B := L) h2
  refine JO_ev (L' := L) (s' := fill [(g, cb (xs ++ news ++ ys) e)] s') hd (fun hT _ dst pos af g2 ρ hρ => ⟨?_, d2⟩) (kk g cap _ (h3.trans d3) (CellsAt.pre (cells_drop h2)) h4 h5) hT a hr ho
  rw [← d1]
  exact (h1 hT ho dst pos af g2 ρ hρ).1
end Go.FL
namespace Go.Proofs.YtacajpepkfinoaaGreatDoor
open Go Go.FL
mutual
theorem wkX_dn : ∀ (x : Ex) (lv c c' : Nat), c' ≤ c → (wkX x lv c).2 = 0 → (wkX x lv c').2 = 0
  | .mk k o n nm ar, lv, c, c', hc, h => by
    simp only [wkX] at h ⊢
    split at h
    · cases h
    rename_i h1
    split at h
    · rename_i h2; exact absurd h h2
    rename_i h2
    rw [if_neg O, if_neg h2]
    exact wkXs_dn ar (lv + 1) (c + 1) (c' + 1) O h
theorem wkXs_dn : ∀ (l : List Ex) (lv c c' : Nat), c' ≤ c → (wkXs l lv c).2 = 0 → (wkXs l lv c').2 = 0
  | [], _, _, _, _, _ => rfl
  | x :: r, lv, c, c', hc, h => by
    simp only [wkXs] at h ⊢
    split at h
    · rename_i h1; exact absurd h h1
    rename_i h1
    have a := wkX_dn x lv c c' hc (by simpa using h1)
    rw [if_neg (by rw [a]; simp)]
    rw [(wkX_ok x lv c (by simpa using h1)).2.1] at h
    rw [(wkX_ok x lv c' a).2.1]
    exact wkXs_dn r lv _ _ O h
end
mutual
theorem wkS_dn : ∀ (x : Stm) (lv c c' : Nat), c' ≤ c → (wkS x lv c).2 = 0 → (wkS x lv c').2 = 0
  | .mk k nm es b e, lv, c, c', hc, h => by
    simp only [wkS] at h ⊢
    split at h
    · cases h
    rename_i h1
    split at h
    · rename_i h2; exact absurd h h2
    rename_i h2
    split at h
    · rename_i h3; exact absurd h h3
    rename_i h3
    split at h
    · rename_i h4; exact absurd h h4
    rename_i h4
    have h3' : (wkXs es 1 (c + 1)).2 = 0 := by simpa using h3
    have h4' : (wkSs b (lv + 1) (wkXs es 1 (c + 1)).1).2 = 0 := by simpa using h4
    have a := wkXs_dn es 1 (c + 1) (c' + 1) O h3'
    have k1 := (wkXs_ok es 1 (c + 1) h3').2.1
    have k2 := (wkXs_ok es 1 (c' + 1) a).2.1
    have k3 := (wkSs_ok b (lv + 1) _ h4').2.1
    have b1 := wkSs_dn b (lv + 1) (wkXs es 1 (c + 1)).1 (wkXs es 1 (c' + 1)).1 O h4'
    have k4 := (wkSs_ok b (lv + 1) _ b1).2.1
    rw [if_neg O, if_neg h2, if_neg (by rw [a]; simp), if_neg (by rw [b1]; simp)]
    exact wkSs_dn e (lv + 1) _ _ O h
theorem wkSs_dn : ∀ (l : List Stm) (lv c c' : Nat), c' ≤ c → (wkSs l lv c).2 = 0 → (wkSs l lv c').2 = 0
  | [], _, _, _, _, _ => rfl
  | x :: r, lv, c, c', hc, h => by
    simp only [wkSs] at h ⊢
    split at h
    · rename_i h1; exact absurd h h1
    rename_i h1
    have a := wkS_dn x lv c c' hc (by simpa using h1)
    rw [if_neg (by rw [a]; simp)]
    rw [(wkS_ok x lv c (by simpa using h1)).2.1] at h
    rw [(wkS_ok x lv c' a).2.1]
    exact wkSs_dn r lv _ _ O h
end
theorem fnC_dn {x : Fnc} {c c' : Nat} (hc : c' ≤ c) (h : (fnC x c).2 = 0) : (fnC x c').2 = 0 ∧ (fnC x c').1 ≤ (fnC x c).1 ∧ c ≤ (fnC x c).1 := by
  have h0 := (fnC_zero h).2.2.2.2.2.1
  have h7 : (fnC x c').2 = 0 := by
    unfold fnC at h ⊢
    split at h
    · cases h
    rename_i h1
    split at h
    · cases h
    rename_i h2
    split at h
    · cases h
    rename_i h3
    rw [if_neg h1, if_neg h2, if_neg h3]
    exact wkSs_dn _ _ _ _ hc h
  have h8 := (fnC_zero h7).2.2.2.2.2.1
  exact ⟨h7, by omega, by omega⟩
theorem fnF_sub {l l' : List Fnc} (hs : l'.Sublist l) : ∀ {i i' c c' : Nat}, c' ≤ c → (fnF l i c).1 = 0 → (fnF l' i' c').1 = 0 := by
  induction hs with
  | slnil => intro i i' c c' _ _; rfl
  | cons x _ ih =>
    intro i i' c c' hc h
    rw [fnF] at h
    split at h
    · rename_i h1; exact absurd h h1
    rename_i h1
    have := fnC_dn hc (by simpa using h1)
    exact ih O h
  | cons_cons x _ ih =>
    intro i i' c c' hc h
    rw [fnF] at h ⊢
    split at h
    · rename_i h1; exact absurd h h1
    rename_i h1
    have := fnC_dn hc (by simpa using h1)
    rw [if_neg (by rw [this.1]; simp)]
    exact ih this.2.1 h
theorem glF_of : ∀ {l : List Glo} {i : Nat}, (∀ g ∈ l, gloC g = 0) → glF l i = (0, 0)
  | [], _, _ => rfl
  | x :: r, i, h => by
    rw [glF, if_neg (by rw [h x (List.mem_cons_self ..)]; simp)]
    exact glF_of fun g hg => h g (List.mem_cons_of_mem _ hg)
theorem sum_sub {α : Type} {f : α → Nat} {l l' : List α} (hs : l'.Sublist l) : (l'.map f).sum ≤ (l.map f).sum := by
  induction hs with
  | slnil => exact Nat.le_refl _
  | cons x _ ih => simp only [List.map_cons, List.sum_cons]; omega
  | cons_cons x _ ih => simp only [List.map_cons, List.sum_cons]; omega
theorem flat_sub {α : Type} {f : α → Str} {l l' : List α} (hs : l'.Sublist l) : (l'.map f).flatten.length ≤ (l.map f).flatten.length := by
  induction hs with
  | slnil => exact Nat.le_refl _
  | cons x _ ih => simp only [List.map_cons, List.flatten_cons, List.length_append]; omega
  | cons_cons x _ ih => simp only [List.map_cons, List.flatten_cons, List.length_append]; omega
theorem prgF_sub {p q : Prg} (hg : q.globals.Sublist p.globals) (hf : q.funcs.Sublist p.funcs) (h : (prgF p).1 = 0) : prgF q = (0, 0) := by
  have hs := prF_shape h
  have hl : ¬ 12000 < (prgT p).length := by
    rw [prgF, if_neg (by simpa using hs)] at h
    intro h2; rw [if_pos h2] at h; cases h
  have h1 := hg.length_le
  have h2 := hf.length_le
  have h3 := sum_sub (f := fun g : Glo => g.init.length) hg
  have h4 := flat_sub (f := gloT) hg
  have h5 := flat_sub (f := fncT) hf
  unfold shapeF at hs
  split at hs
  · cases hs
  rename_i h6
  split at hs
  · rename_i h7; exact absurd hs h7
  rename_i h7
  split at hs
  · cases hs
  rename_i h8
  have g0 := glF_zero (l := p.globals) (i := 0) (by simpa using h7)
  have hq : (shapeF q).1 = 0 := by
    rw [shapeF, if_neg O, glF_of (fun g hm => g0 g (hg.subset hm)), if_neg (by simp), if_neg O]
    exact fnF_sub hf (Nat.le_refl _) hs
  refine pr_ok (shapeF_00 hq) ?_
  rw [prgT, List.length_append] at hl ⊢
  omega
theorem namG_of : ∀ {l : List Glo} {seen : List Str} {i : Nat}, (seen ++ l.map Glo.name).Nodup → namG l seen i = (0, 0)
  | [], _, _, _ => rfl
  | g :: r, seen, i, h => by
    rw [namG, if_neg ?_]
    · exact namG_of (by simpa using h)
    · rw [List.nodup_append] at h
      intro hm; exact h.2.2 _ hm _ (by simp) rfl
theorem namF_of : ∀ {l : List Fnc} {seen : List Str} {i : Nat}, (seen ++ l.map Fnc.name).Nodup → (∀ x ∈ l, (x.params ++ x.locals).Nodup) → namF l seen i = (0, 0)
  | [], _, _, _, _ => rfl
  | g :: r, seen, i, h, h2 => by
    rw [namF, if_neg ?_]
    · exact namF_of (by simpa using h) fun x hx => h2 x (List.mem_cons_of_mem _ hx)
    · rw [List.nodup_append] at h
      rintro (hm | hm)
      · exact h.2.2 _ hm _ (by simp) rfl
      · exact hm (h2 g (List.mem_cons_self ..))
theorem ents_nm (p : Prg) : (ents p).map (·.1) = p.globals.map Glo.name ++ p.funcs.map Fnc.name := by
  rw [ents, List.map_append]
  congr 1 <;> (apply List.ext_getElem <;> simp)
theorem badF_of {p : Prg} : ∀ {l : List Fnc} {i : Nat}, (∀ x ∈ l, ∀ nd ∈ ndSs x.body 0, ndC p x nd = 0) → badF p l i = (0, 0)
  | [], _, _ => rfl
  | x :: r, i, h => by
    have hb : ∀ {l : List Nd}, (∀ nd ∈ l, ndC p x nd = 0) → badN p x l = 0 := by
      intro l
      induction l with
      | nil => intro _; rfl
      | cons n r ih => intro h; rw [badN, if_pos (h n (List.mem_cons_self ..))]; exact ih fun nd hm => h nd (List.mem_cons_of_mem _ hm)
    rw [badF, if_pos (hb (h x (List.mem_cons_self ..)))]
    exact badF_of fun y hy => h y (List.mem_cons_of_mem _ hy)
theorem chkF_of {p : Prg} (h1 : prgF p = (0, 0)) (h2 : nameF p = (0, 0)) (h3 : ∀ x ∈ p.funcs, ∀ nd ∈ ndSs x.body 0, ndC p x nd = 0) : chkF p = (0, 0) := by
  rw [chkF, h1, if_neg (by simp), h2, if_neg (by simp)]; exact badF_of h3
theorem keepB_sub {α : Type} : ∀ (B : List Bool) (l : List α), (keepB B l).Sublist l
  | [], l => by rw [keepB]; exact List.nil_sublist _
  | b :: B, [] => by rw [keepB]; exact List.nil_sublist _
  | b :: B, x :: l => by
    rw [keepB]; split
    · exact (keepB_sub B l).cons_cons x
    · exact (keepB_sub B l).cons x
def rankB : List Bool → Nat → Nat
  | _, 0 => 0
  | [], _ + 1 => 0
  | b :: B, i + 1 => rankB B i + (if b = true then 1 else 0)
theorem keepB_rank {α : Type} : ∀ {B : List Bool} {l : List α} {i : Nat} {x : α}, l[i]? = some x → B[i]? = some true → (keepB B l)[rankB B i]? = some x
  | [], l, i, x, _, h2 => by simp at h2
  | b :: B, [], i, x, h, _ => by simp at h
  | b :: B, y :: l, 0, x, h, h2 => by
    have h : y = x := by simpa using h
    have h2 : b = true := by simpa using h2
    subst h h2
    rw [keepB, rankB]; rfl
  | b :: B, y :: l, i + 1, x, h, h2 => by
    have ih := keepB_rank (B := B) (l := l) (i := i) (x := x) (by simpa using h) (by simpa using h2)
    rw [keepB, rankB]
    split
    · rw [List.getElem?_cons_succ]; exact ih
    · exact ih
theorem keepB_at {α : Type} : ∀ {B : List Bool} {l : List α} {k : Nat} {x : α}, (keepB B l)[k]? = some x → ∃ i, l[i]? = some x ∧ B[i]? = some true ∧ rankB B i = k
  | [], l, k, x, h => by rw [keepB] at h; cases h
  | b :: B, [], k, x, h => by rw [keepB] at h; cases h
  | b :: B, y :: l, k, x, h => by
    rw [keepB] at h
    split at h
    · rename_i hb
      cases k with
      | zero => exact ⟨0, h, by rw [hb]; rfl, rfl⟩
      | succ k =>
        obtain ⟨i, a, b1, c⟩ := keepB_at (B := B) (l := l) (by simpa using h)
        exact ⟨i + 1, by simpa using a, by simpa using b1, by rw [rankB, c, if_pos hb]⟩
    · rename_i hb
      obtain ⟨i, a, b1, c⟩ := keepB_at (B := B) (l := l) h
      exact ⟨i + 1, by simpa using a, by simpa using b1, by rw [rankB, c, if_neg hb]; rfl⟩
theorem keepB_all {α : Type} : ∀ {B : List Bool} {l : List α}, B.length = l.length → (∀ k : Nat, k < l.length → B[k]? = some true) → keepB B l = l
  | [], [], _, _ => rfl
  | [], y :: l, h, _ => by cases h
  | b :: B, [], _, _ => rfl
  | b :: B, y :: l, h, h2 => by
    have hb : b = true := by simpa using h2 0 (by simp)
    rw [keepB, if_pos hb, keepB_all (B := B) (l := l) (by simpa using h) fun k hk => by simpa using h2 (k + 1) (by simp; omega)]
theorem ents_find {p : Prg} {nm : Str} {e : Str × (Int × Int)} (h : ((ents p).find? fun e => decide (e.1 = nm)) = some e) : (∃ (i : Nat) (g : Glo), p.globals[i]? = some g ∧ g.name = nm ∧ e.2 = ((3 : Int), (i : Int))) ∨ ∃ (i : Nat) (f : Fnc), p.funcs[i]? = some f ∧ f.name = nm ∧ e.2 = ((4 : Int), (i : Int)) := by
  have hn : e.1 = nm := by simpa using List.find?_some h
  have hm := List.mem_of_find?_eq_some h
  rw [ents, List.mem_append] at hm
  rcases hm with hm | hm
  · obtain ⟨i, hi⟩ := List.getElem?_of_mem hm
    rw [List.getElem?_mapIdx] at hi
    cases hg : p.globals[i]? with
    | none => rw [hg] at hi; cases hi
    | some g => rw [hg] at hi; simp at hi; subst hi; exact .inl ⟨i, g, hg, hn, rfl⟩
  · obtain ⟨i, hi⟩ := List.getElem?_of_mem hm
    rw [List.getElem?_mapIdx] at hi
    cases hg : p.funcs[i]? with
    | none => rw [hg] at hi; cases hi
    | some g => rw [hg] at hi; simp at hi; subst hi; exact .inr ⟨i, g, hg, hn, rfl⟩
def renI (F G : List Bool) (m : Int × Int) : Int × Int := if m.1 = 3 then (3, (rankB G m.2.toNat : Int)) else if m.1 = 4 then (4, (rankB F m.2.toNat : Int)) else m
theorem mean_ren {p : Prg} {F G : List Bool} (hnd : ((ents ⟨keepB G p.globals, keepB F p.funcs⟩).map (·.1)).Nodup) {x : Fnc} {nm : Str} (h2 : (meanP p x nm).2 = true) (hg : ∀ g : Nat, (meanP p x nm).1 = ((3 : Int), (g : Int)) → G[g]? = some true) (hf : ∀ k : Nat, (meanP p x nm).1 = ((4 : Int), (k : Int)) → F[k]? = some true) : meanP ⟨keepB G p.globals, keepB F p.funcs⟩ x nm = (renI F G (meanP p x nm).1, true) := by
  unfold meanP at h2 hg hf ⊢
  split
  · rfl
  rename_i h3
  rw [if_neg h3] at h2 hg hf
  split
  · rfl
  rename_i h4
  rw [if_neg h4] at h2 hg hf
  cases hfd : (ents p).find? fun e => decide (e.1 = nm) with
  | none => rw [hfd] at h2; cases h2
  | some e =>
    rw [hfd] at hg hf
    simp only at hg hf ⊢
    rcases ents_find hfd with ⟨i, g, a, b, c⟩ | ⟨i, g, a, b, c⟩
    · have k1 := find_nd hnd (ents_g (p := ⟨keepB G p.globals, keepB F p.funcs⟩) (keepB_rank a (hg i c)))
      simp only [b] at k1
      rw [k1, c]; rfl
    · have k1 := find_nd hnd (ents_f (p := ⟨keepB G p.globals, keepB F p.funcs⟩) (keepB_rank a (hf i c)))
      simp only [b] at k1
      rw [k1, c]; rfl
theorem useC_zero {p : Prg} {x : Fnc} {u : Use} (h : useC p x u = 0) (hu : u.2.1 ≠ 0) : (meanP p x u.1).2 = true ∧ permP (gkOf p (meanP p x u.1).1.2) u.2.1 (meanP p x u.1).1.1 ∧ ¬ (u.2.1 = 4 ∧ u.2.2 ≠ (parN p (meanP p x u.1).1.2 : Int)) := by
  unfold useC at h
  rw [if_neg hu] at h
  split at h
  · cases h
  rename_i h1
  split at h
  · cases h
  rename_i h2
  split at h
  · cases h
  rename_i h3
  exact ⟨by simpa using h1, Decidable.not_not.1 h2, h3⟩
theorem ndC_zero {p : Prg} {x : Fnc} {nd : Nd} (h : ndC p x nd = 0) : useC p x nd.use = 0 ∧ ∀ q : Prg, useC q x nd.use = 0 → ndC q x nd = 0 := by
  cases nd with
  | ex y lp => exact ⟨h, fun q hq => hq⟩
  | st y lp =>
    rw [ndC] at h
    split at h
    · cases h
    rename_i h1
    exact ⟨h, fun q hq => by rw [ndC, if_neg h1]; exact hq⟩
theorem nat_case {m : Int × Int} {k : Nat} {c : Int} (h1 : m.1 = c) (h2 : m.2 = (k : Int)) : m = (c, (k : Int)) := Prod.ext h1 h2
section
variable {p : Prg} {F G : List Bool} (hnd : ((ents ⟨keepB G p.globals, keepB F p.funcs⟩).map (·.1)).Nodup) {x : Fnc} {nd : Nd} (h : ndC p x nd = 0) (hg : ∀ g : Nat, (g : Int) ∈ mnI p x 3 nd → G[g]? = some true) (hf : ∀ k : Nat, (k : Int) ∈ mnI p x 4 nd → F[k]? = some true)
theorem mnI_in {p : Prg} {x : Fnc} {nd : Nd} {c : Int} {k : Nat} (hu : nd.use.2.1 ≠ 0) (h : (meanP p x nd.use.1).1 = (c, (k : Int))) : (k : Int) ∈ mnI p x c nd := by
  rw [mnI, if_neg hu, h, if_pos rfl]; simp
include hnd h hg hf in
theorem use_ren (hu : nd.use.2.1 ≠ 0) : meanP ⟨keepB G p.globals, keepB F p.funcs⟩ x nd.use.1 = (renI F G (meanP p x nd.use.1).1, true) :=
  mean_ren hnd (useC_zero (ndC_zero h).1 hu).1 (fun g hm => hg g (mnI_in hu hm)) (fun k hm => hf k (mnI_in hu hm))
include hnd h hg hf in
theorem ndC_ren : ndC ⟨keepB G p.globals, keepB F p.funcs⟩ x nd = 0 := by
  refine (ndC_zero h).2 _ ?_
  by_cases hu : nd.use.2.1 = 0
  · rw [useC, if_pos hu]
  obtain ⟨a1, a2, a3⟩ := useC_zero (ndC_zero h).1 hu
  have hm := use_ren hnd h hg hf hu
  rw [useC, if_neg hu, hm, if_neg (by simp)]
  simp only
  rcases mean_kind a1 with k1 | ⟨k1, k, k2, k3⟩ | ⟨k1, k, k2, k3⟩
  · rw [show renI F G (meanP p x nd.use.1).1 = (meanP p x nd.use.1).1 by rw [renI, if_neg O, if_neg O]]
    have hp : (nd.use.2.1 = 1 ∨ nd.use.2.1 = 2) := by
      unfold permP at a2
      omega
    rw [if_neg (by unfold permP; omega), if_neg O]
  · have e := nat_case k1 k2
    rw [e] at a2 a3 ⊢
    obtain ⟨gl, hgl⟩ : ∃ gl, p.globals[k]? = some gl := ⟨_, List.getElem?_eq_getElem k3⟩
    have hq := keepB_rank hgl (hg k (mnI_in hu e))
    have e1 := gkOf_at hgl
    have e2 := gkOf_at (p := ⟨keepB G p.globals, keepB F p.funcs⟩) hq
    simp only [renI, if_true, Int.toNat_natCast] at e2 ⊢
    rw [e2, ← e1, if_neg (Decidable.not_not.2 a2), if_neg]
    unfold permP at a2
    simp only at a2
    omega
  · have e := nat_case k1 k2
    rw [e] at a2 a3 ⊢
    obtain ⟨gl, hgl⟩ : ∃ gl, p.funcs[k]? = some gl := ⟨_, List.getElem?_eq_getElem k3⟩
    have hq := keepB_rank hgl (hf k (mnI_in hu e))
    have e1 := parN_at (p := p) (i := (k : Int)) rfl hgl
    have e2 := parN_at (p := ⟨keepB G p.globals, keepB F p.funcs⟩) (i := ((rankB F k : Nat) : Int)) rfl hq
    have e3 : renI F G ((4 : Int), (k : Int)) = (4, (rankB F k : Int)) := by rw [renI, if_neg (by simp), if_pos rfl]; rfl
    rw [e3]
    simp only
    rw [e2, ← e1, if_neg, if_neg a3]
    unfold permP at a2 ⊢
    simp only at a2
    omega
end
theorem idxOf_neg {α : Type} {q : α → Bool} : ∀ {l : List α} {k : Nat}, idxOf q l k < 0 → ∀ x ∈ l, q x = false
  | [], _, _ => fun x hx => by cases hx
  | y :: r, k, h => fun x hx => by
    rw [idxOf] at h
    split at h
    · omega
    · rename_i h1
      rcases List.mem_cons.1 hx with rfl | hx
      · simpa using h1
      · exact idxOf_neg h x hx
theorem nameF_main {p : Prg} (h : nameF p = (0, 0)) : ∃ (mi : Nat) (x : Fnc), mainF p.funcs = (mi : Int) ∧ p.funcs[mi]? = some x ∧ x.name = mainW ∧ x.params = [] := by
  obtain ⟨mi, x, h1, h2, _⟩ := main_ok h
  obtain ⟨_, y, hy, hq⟩ := idxOf_get (show idxOf (fun x : Fnc => decide (x.name = mainW)) p.funcs 0 = (mi : Int) from h1)
  rw [Nat.sub_zero, h2] at hy
  obtain rfl : x = y := by simpa using hy
  refine ⟨mi, x, h1, h2, by simpa using hq, ?_⟩
  rw [nameF] at h
  split at h
  · rename_i h3; rw [h] at h3; exact absurd rfl h3
  split at h
  · rename_i h3; rw [h] at h3; exact absurd rfl h3
  rw [if_neg O, h1, Int.toNat_natCast, h2] at h
  simp only at h
  split at h
  · assumption
  · cases h
theorem funcs_inj {p : Prg} (hnd : ((ents p).map (·.1)).Nodup) {i j : Nat} {x y : Fnc} (hi : p.funcs[i]? = some x) (hj : p.funcs[j]? = some y) (hn : x.name = y.name) : i = j := by
  have a := find_nd hnd (ents_f hi)
  have b := find_nd hnd (ents_f hj)
  simp only [hn] at a b
  rw [a] at b
  simp at b
  omega
section
variable {p : Prg} {F G : List Bool} (hu : prU p) (h0 : (chkF p).1 = 0) (hM : marks p F G)
include hM in
theorem mark_c {i k : Nat} (hF : F[i]? = some true) (hc : cal p i k) : F[k]? = some true := by
  obtain ⟨_, _, mi, _, _, h3, _⟩ := hM
  have : ∀ a b, Rea p a b → ∀ c, cal p b c → Rea p a c := by
    intro a b hr
    induction hr with
    | refl => exact fun c hc => .step hc (.refl c)
    | step h _ ih => exact fun c hc => .step h (ih c hc)
  exact (h3 k).2 (this _ _ ((h3 i).1 hF) k hc)
include hM in
theorem mark_n {i : Nat} {x : Fnc} {nd : Nd} (hF : F[i]? = some true) (hx : p.funcs[i]? = some x) (hn : nd ∈ ndSs x.body 0) : (∀ g : Nat, (g : Int) ∈ mnI p x 3 nd → G[g]? = some true) ∧ ∀ k : Nat, (k : Int) ∈ mnI p x 4 nd → F[k]? = some true := by
  refine ⟨fun g hg => ?_, fun k hk => mark_c hM hF ⟨x, hx, ((msP_spec p x 4).2 _).2 ⟨nd, hn, hk⟩⟩⟩
  obtain ⟨_, _, mi, _, _, _, h4⟩ := hM
  exact (h4 g).2 ⟨i, hF, x, hx, ((msP_spec p x 3).2 _).2 ⟨nd, hn, hg⟩⟩
include hu h0 in
theorem trim_nd : ((ents ⟨keepB G p.globals, keepB F p.funcs⟩).map (·.1)).Nodup := by
  obtain ⟨⟨_, hn, _⟩, _⟩ := OKP.of hu h0
  have := (name_nd (p := p) (by rw [hn])).1
  rw [ents_nm] at this ⊢
  exact List.Nodup.sublist (List.Sublist.append ((keepB_sub G p.globals).map _) ((keepB_sub F p.funcs).map _)) this
include hu h0 hM in
theorem trim_good : chkF ⟨keepB G p.globals, keepB F p.funcs⟩ = (0, 0) := by
  obtain ⟨⟨hV, hn, hnd⟩, hz⟩ := OKP.of hu h0
  have hND := trim_nd (F := F) (G := G) hu h0
  have hp0 : (prgF p).1 = 0 := by
    unfold chkF at h0
    split at h0
    · rename_i h1; exact absurd h0 h1
    · rename_i h1; simpa using h1
  have hpl := (name_nd (p := p) (by rw [hn])).2
  refine chkF_of (prgF_sub (keepB_sub _ _) (keepB_sub _ _) hp0) ?_ ?_
  · have hND2 := hND
    rw [ents_nm] at hND2
    have e1 : namG (keepB G p.globals) [] 0 = (0, 0) := namG_of (by rw [List.nodup_append] at hND2; simpa using hND2.1)
    have e2 : namF (keepB F p.funcs) ((keepB G p.globals).map Glo.name) (keepB G p.globals).length = (0, 0) := namF_of hND2 fun x hx => hpl x ((keepB_sub F p.funcs).subset hx)
    rw [nameF, e1, if_neg (by simp), e2, if_neg (by simp)]
    obtain ⟨mi, x, m1, m2, m3, m4⟩ := nameF_main hn
    obtain ⟨_, _, mi', m5, m6, m7, _⟩ := hM
    obtain rfl : mi' = mi := by omega
    have hk := keepB_rank m2 ((m7 mi').2 (.refl _))
    have hge : ¬ mainF (keepB F p.funcs) < 0 := by
      intro hlt
      have := idxOf_neg hlt x (List.mem_of_getElem? hk)
      rw [m3] at this; simp at this
    rw [if_neg hge]
    obtain ⟨k, hkk⟩ := Int.eq_ofNat_of_zero_le (show 0 ≤ mainF (keepB F p.funcs) by omega)
    obtain ⟨_, y, hy, hq⟩ := idxOf_get (show idxOf (fun x : Fnc => decide (x.name = mainW)) (keepB F p.funcs) 0 = (k : Int) from hkk)
    rw [Nat.sub_zero] at hy
    have hkr := funcs_inj hND hk hy (by rw [m3]; exact (by simpa using hq : y.name = mainW).symm)
    rw [hkk, Int.toNat_natCast, ← hkr, hk]
    simp only
    rw [if_pos m4]
  · intro x hx nd hm
    obtain ⟨k, hk⟩ := List.getElem?_of_mem hx
    obtain ⟨i, h1, h2, h3⟩ := keepB_at hk
    have := mark_n hM h2 h1 hm
    exact ndC_ren hND (hnd x (List.mem_of_getElem? h1) nd hm) this.1 this.2
include hu h0 hM in
theorem trim_cal {i k : Nat} (hF : F[i]? = some true) (hc : cal p i k) : cal ⟨keepB G p.globals, keepB F p.funcs⟩ (rankB F i) (rankB F k) := by
  obtain ⟨⟨hV, hn, hnd⟩, hz⟩ := OKP.of hu h0
  have hND := trim_nd (F := F) (G := G) hu h0
  obtain ⟨x, hx, hk⟩ := hc
  obtain ⟨nd, hm, hi⟩ := ((msP_spec p x 4).2 _).1 hk
  obtain ⟨hu1, hmn⟩ := mnI_mem hi
  have hmk := mark_n hM hF hx hm
  have := use_ren hND (hnd x (List.mem_of_getElem? hx) nd hm) hmk.1 hmk.2 hu1
  refine ⟨x, keepB_rank hx hF, ((msP_spec _ x 4).2 _).2 ⟨nd, hm, mnI_in hu1 ?_⟩⟩
  rw [this, hmn, renI, if_neg (by simp), if_pos rfl]; rfl
include hu h0 hM in
theorem trim_glo {i g : Nat} (hF : F[i]? = some true) (hc : glo p i g) : glo ⟨keepB G p.globals, keepB F p.funcs⟩ (rankB F i) (rankB G g) := by
  obtain ⟨⟨hV, hn, hnd⟩, hz⟩ := OKP.of hu h0
  have hND := trim_nd (F := F) (G := G) hu h0
  obtain ⟨x, hx, hk⟩ := hc
  obtain ⟨nd, hm, hi⟩ := ((msP_spec p x 3).2 _).1 hk
  obtain ⟨hu1, hmn⟩ := mnI_mem hi
  have hmk := mark_n hM hF hx hm
  have := use_ren hND (hnd x (List.mem_of_getElem? hx) nd hm) hmk.1 hmk.2 hu1
  refine ⟨x, keepB_rank hx hF, ((msP_spec _ x 3).2 _).2 ⟨nd, hm, mnI_in hu1 ?_⟩⟩
  rw [this, hmn, renI, if_pos rfl]; rfl
include hu h0 hM in
theorem trim_same {r : Prg} (hr : TrimR ⟨keepB G p.globals, keepB F p.funcs⟩ r) : r = ⟨keepB G p.globals, keepB F p.funcs⟩ := by
  have hz := trim_good hu h0 hM
  have hND := trim_nd (F := F) (G := G) hu h0
  rcases hr with ⟨h1, _⟩ | ⟨_, F2, G2, hM2, rfl⟩
  · rw [hz] at h1; exact absurd rfl h1
  obtain ⟨⟨_, hn, _⟩, _⟩ := OKP.of hu h0
  obtain ⟨mi, x, m1, m2, m3, m4⟩ := nameF_main hn
  obtain ⟨q1, q2, mq, q3, q4, q5, q6⟩ := hM2
  have hmm : F[mi]? = some true ∧ ∀ j : Nat, F[j]? = some true → Rea p mi j := by
    obtain ⟨_, _, mi', m5, m6, m7, _⟩ := hM
    obtain rfl : mi' = mi := by omega
    exact ⟨(m7 mi').2 (.refl _), fun j hj => (m7 j).1 hj⟩
  have hk := keepB_rank m2 hmm.1
  obtain ⟨_, y, hy, hq⟩ := idxOf_get (show idxOf (fun x : Fnc => decide (x.name = mainW)) (keepB F p.funcs) 0 = (mq : Int) from q3)
  rw [Nat.sub_zero] at hy
  have hkr := funcs_inj hND hk hy (by rw [m3]; exact (by simpa using hq : y.name = mainW).symm)
  have hR : ∀ i j, Rea p i j → F[i]? = some true → Rea ⟨keepB G p.globals, keepB F p.funcs⟩ (rankB F i) (rankB F j) := by
    intro i j hr
    induction hr with
    | refl => exact fun _ => .refl _
    | step hc _ ih => exact fun hF => .step (trim_cal hu h0 hM hF hc) (ih (mark_c hM hF hc))
  have hF2 : ∀ k : Nat, k < (keepB F p.funcs).length → F2[k]? = some true := by
    intro k hk2
    obtain ⟨j, h1, h2, h3⟩ := keepB_at (List.getElem?_eq_getElem hk2)
    subst h3
    exact (q5 _).2 (hkr ▸ hR mi j (hmm.2 j h2) hmm.1)
  have hG2 : ∀ k : Nat, k < (keepB G p.globals).length → G2[k]? = some true := by
    intro k hk2
    obtain ⟨g, h1, h2, h3⟩ := keepB_at (List.getElem?_eq_getElem hk2)
    subst h3
    have hM0 := hM
    obtain ⟨_, _, _, _, _, _, m8⟩ := hM0
    obtain ⟨j, hj, hgl⟩ := (m8 g).1 h2
    have := trim_glo hu h0 hM hj hgl
    obtain ⟨x2, hx2, _⟩ := id this
    exact (q6 _).2 ⟨_, hF2 _ (List.getElem?_eq_some_iff.1 hx2).1, this⟩
  show Prg.mk (keepB G2 (keepB G p.globals)) (keepB F2 (keepB F p.funcs)) = _
  rw [keepB_all q2 hG2, keepB_all q1 hF2]
end
theorem trim_again {p q : Prg} (hu : prU p) (h0 : (chkF p).1 = 0) (hT : TrimR p q) : chkF q = (0, 0) ∧ ∀ r, TrimR q r → r = q := by
  rcases hT with ⟨h1, _⟩ | ⟨_, F, G, hM, rfl⟩
  · exact absurd h0 h1
  · exact ⟨trim_good hu h0 hM, fun r hr => trim_same hu h0 hM hr⟩
open Go.FL
attribute [local irreducible] JC JO JA JB thenQ blockQ retQ AC fill CellsAt QE Ev Mid
theorem exs_nil (d : Nat) (s : World) : Exs d s none 0 0 [] := ⟨rfl, Nat.le_refl _, by omega, fun i x h => by cases h⟩
theorem stms_nil (d : Nat) (s : World) : Stms d s none 0 0 [] := ⟨rfl, Nat.le_refl _, by omega, fun i x h => by cases h⟩
theorem strs_nil (s : World) : Strs s none 0 0 [] := ⟨rfl, Nat.le_refl _, by omega, fun i x h => by cases h⟩
theorem wds_nil (s : World) : Wds s none 0 0 [] := ⟨rfl, Nat.le_refl _, by omega, fun i x h => by cases h⟩
def getX : Ex := .mk 5 0 0 [] []
def nX : Ex := .mk 2 0 0 [110] []
def mulX : Ex := .mk 7 4 0 [] [nX, .mk 1 0 2 [] []]
def sumX : Ex := .mk 7 10 0 [] [getX, mulX]
def sumD : Ex := .mk 7 10 0 [] [getX, .mk 1 0 6 [] []]
def smallQ : Prg := ⟨smallP.globals, smallP.funcs ++ [⟨[102], [], [], []⟩]⟩
def smallM : Fnc := ⟨mainW, [], [], [.mk 7 [] [sumX] [] []]⟩
theorem ex_row {d : Nat} {s : World} {k o n : Int} {nm : Str} {A : Option Addr} {m c : Nat} {l : List Ex} (h : Exs d s A m c l) (hn : U32 n) (hl : nm.length ≤ 1000) : ([.int .i64 k, .int .i64 o, .int .u32 n, St nm, .slice A m c] : List Value).length = 5 ∧ ExR (d + 1) s (.mk k o n nm l) [.int .i64 k, .int .i64 o, .int .u32 n, St nm, .slice A m c] := ⟨rfl, A, m, c, rfl, h, hn, show nm.length ≤ 9223372036854775807 by omega⟩
theorem small_of {s : World} {b1 b2 b3 b4 b5 b6 : Nat} (h1 : CellsAt s b1 0 [.int .i64 2, .int .i64 0, .int .u32 0, St [110], .slice none 0 0, .int .i64 1, .int .i64 0, .int .u32 2, St [], .slice none 0 0])
    (h2 : CellsAt s b2 0 [.int .i64 5, .int .i64 0, .int .u32 0, St [], .slice none 0 0, .int .i64 7, .int .i64 4, .int .u32 0, St [], .slice (some ⟨b1, 0, none⟩) 2 2])
    (h3 : CellsAt s b3 0 [.int .i64 1, St [110], .int .u32 3, .slice none 0 0]) (h4 : CellsAt s b4 0 [.int .i64 7, .int .i64 10, .int .u32 0, St [], .slice (some ⟨b2, 0, none⟩) 2 2])
    (h5 : CellsAt s b5 0 [.int .i64 7, St [], .slice (some ⟨b4, 0, none⟩) 1 1, .slice none 0 0, .slice none 0 0]) (h6 : CellsAt s b6 0 [St mainW, .slice none 0 0, .slice none 0 0, .slice (some ⟨b5, 0, none⟩) 1 1]) :
    Glos s (some ⟨b3, 0, none⟩) 1 1 smallP.globals ∧ Fncs 5 s (some ⟨b6, 0, none⟩) 1 1 smallP.funcs := by
  have z : U32 0 := ⟨by decide, by decide⟩
  have e1 : Exs 2 s (some ⟨b1, 0, none⟩) 2 2 [nX, .mk 1 0 2 [] []] := Sl.lit [[_, _, _, _, _], [_, _, _, _, _]] h1 rfl (.cons (ex_row (exs_nil 1 s) z (by decide)) (.cons (ex_row (exs_nil 1 s) ⟨by decide, by decide⟩ (by decide)) .nil)) 2 rfl O
  have e2 : Exs 3 s (some ⟨b2, 0, none⟩) 2 2 [getX, mulX] := Sl.lit [[_, _, _, _, _], [_, _, _, _, _]] h2 rfl (.cons (ex_row (exs_nil 2 s) z (by decide)) (.cons (ex_row e1 z (by decide)) .nil)) 2 rfl O
  have e3 : Exs 4 s (some ⟨b4, 0, none⟩) 1 1 [sumX] := Sl.lit [[_, _, _, _, _]] h4 rfl (.cons (ex_row e2 z (by decide)) .nil) 1 rfl O
  have e4 : Stms 5 s (some ⟨b5, 0, none⟩) 1 1 [.mk 7 [] [sumX] [] []] := Sl.lit [[_, _, _, _, _]] h5 rfl (.cons ⟨rfl, _, _, _, _, _, _, _, _, _, rfl, e3, stms_nil 4 s, stms_nil 4 s, by decide⟩ .nil) 1 rfl O
  exact ⟨Sl.lit [[_, _, _, _]] h3 rfl (.cons ⟨rfl, _, _, _, rfl, wds_nil s, ⟨by decide, by decide⟩, by decide⟩ .nil) 1 rfl O,
    Sl.lit [[_, _, _, _]] h6 rfl (.cons ⟨rfl, _, _, _, _, _, _, _, _, _, rfl, strs_nil s, strs_nil s, e4, by decide⟩ .nil) 1 rfl O⟩
theorem sumD_of {s : World} {b1 b2 : Nat} (h1 : CellsAt s b1 0 [.int .i64 5, .int .i64 0, .int .u32 0, St [], .slice none 0 0, .int .i64 1, .int .i64 0, .int .u32 6, St [], .slice none 0 0]) (h2 : CellsAt s b2 0 [.int .i64 7, .int .i64 10, .int .u32 0, St [], .slice (some ⟨b1, 0, none⟩) 2 2]) : Exs 3 s (some ⟨b2, 0, none⟩) 1 1 [sumD] := by
  have e1 : Exs 2 s (some ⟨b1, 0, none⟩) 2 2 [getX, .mk 1 0 6 [] []] := Sl.lit [[_, _, _, _, _], [_, _, _, _, _]] h1 rfl (.cons (ex_row (exs_nil 1 s) ⟨by decide, by decide⟩ (by decide)) (.cons (ex_row (exs_nil 1 s) ⟨by decide, by decide⟩ (by decide)) .nil)) 2 rfl O
  exact Sl.lit [[_, _, _, _, _]] h2 rfl (.cons (ex_row e1 ⟨by decide, by decide⟩ (by decide)) .nil) 1 rfl O
theorem smallQ_of {s : World} {g c : Nat} {A1 A2 A3 : Option Addr} {n1 c1 n2 c2 n3 c3 : Nat} (h : CellsAt s g 0 [St mainW, .slice A1 n1 c1, .slice A2 n2 c2, .slice A3 n3 c3, St [102], .slice none 0 0, .slice none 0 0, .slice none 0 0]) (h1 : Strs s A1 n1 c1 []) (h2 : Strs s A2 n2 c2 []) (h3 : Stms 5 s A3 n3 c3 smallM.body) (hc : 2 ≤ c) (hc2 : c ≤ 9223372036854775807) : Fncs 5 s (some ⟨g, 0, none⟩) 2 c smallQ.funcs := by
  have := (Sl.lit (sz := 4) (R := FnR 5) (l := smallQ.funcs) [[_, _, _, _], [_, _, _, _]] h rfl (.cons ⟨rfl, _, _, _, _, _, _, _, _, _, rfl, h1, h2, h3, by decide⟩ (.cons ⟨rfl, _, _, _, _, _, _, _, _, _, rfl, strs_nil s, strs_nil s, stms_nil 5 s, by decide⟩ .nil)) 2 rfl O)
  exact ⟨this.1, hc, hc2, this.2.2.2⟩
theorem sm_K : chkF smallP = (0, 0) := by decide +kernel
theorem sm_KQ : chkF smallQ = (0, 0) := by decide +kernel
theorem sm_R : resP smallP 0 [110] = ((3, 0), (0, 0)) := by decide +kernel
theorem sm_C : callsP smallP = [smallM] := if_neg (by rw [sm_K]; decide)
theorem sm_M4 : msP smallP smallM 4 = [] := by
  refine List.eq_nil_iff_forall_not_mem.2 fun i hi => ?_
  obtain ⟨nd, h1, h2⟩ := ((msP_spec smallP smallM 4).2 i).1 hi
  have : ∀ nd ∈ ndSs smallM.body 0, mnI smallP smallM 4 nd = [] := by decide +kernel
  rw [this nd h1] at h2; cases h2
theorem sm_F : (foldR smallP).2 = (0, 0) := by decide +kernel
theorem sm_F1 : (foldR smallP).1.funcs = [⟨mainW, [], [], [.mk 7 [] [sumD] [] []]⟩] := by kernel_rfl
theorem sm_O : (oprF 11 2).1 = 0 ∧ (oprF 11 2).2 = 0 ∧ opP 11 1 2 = 4294967295 := by decide +kernel
theorem sm_Z : (oprF 6 0).1 = 26 ∧ (oprF 6 0).2 = -3 := by decide +kernel
theorem sm_T {q : Prg} (h : TrimR smallQ q) : q = smallP := by
  rcases h with ⟨h1, _⟩ | ⟨_, F, G, ⟨hF, hG, mi, hm, hmi, hj, hg⟩, rfl⟩
  · rw [sm_KQ] at h1; exact absurd rfl h1
  have h0 : mainF smallQ.funcs = 0 := by decide +kernel
  obtain rfl : 0 = mi := by omega
  obtain ⟨a, b, rfl⟩ : ∃ a b, F = [a, b] := by match F, hF with | [a, b], _ => exact ⟨a, b, rfl⟩
  obtain ⟨c, rfl⟩ : ∃ c, G = [c] := by match G, hG with | [c], _ => exact ⟨c, rfl⟩
  have ha : a = true := by simpa using (hj 0).2 (.refl 0)
  have hb : b = false := by
    cases hb : b with
    | false => rfl
    | true =>
      have := (hj 1).1 (by rw [hb]; rfl)
      cases this with
      | step hc _ =>
        obtain ⟨x, hx, hk⟩ := hc
        obtain ⟨nd, h1, h2⟩ := ((msP_spec smallQ x 4).2 _).1 hk
        obtain rfl : smallM = x := Option.some.inj hx
        have : ∀ nd ∈ ndSs smallM.body 0, mnI smallQ smallM 4 nd = [] := by decide +kernel
        rw [this nd h1] at h2; cases h2
  have hc : c = true := by
    have : ∃ nd ∈ ndSs smallM.body 0, (0 : Int) ∈ mnI smallQ smallM 3 nd := by decide +kernel
    simpa using (hg 0).2 ⟨0, by rw [ha]; rfl, smallM, rfl, ((msP_spec smallQ smallM 3).2 _).2 this⟩
  subst ha hb hc
  rfl
theorem fold_at {s : World} {A : Option Addr} {n c : Nat} (h : Fncs 5 s A n c [⟨mainW, [], [], [.mk 7 [] [sumD] [] []]⟩]) : n = 1 ∧ ∃ b off A1 n1 c1 A2 n2 c2 b2 o2 c3, A = some ⟨b, off, none⟩ ∧ CellsAt s b (off + 0 * 4) [St mainW, .slice A1 n1 c1, .slice A2 n2 c2, .slice (some ⟨b2, o2, none⟩) 1 c3] ∧
    ∃ A4 n4 c4 A5 n5 c5 A6 n6 c6, CellsAt s b2 (o2 + 0 * 5) [.int .i64 7, St [], .slice A4 n4 c4, .slice A5 n5 c5, .slice A6 n6 c6] ∧ Exs 4 s A4 n4 c4 [sumD] := by
  have hn : n = 1 := h.1
  subst hn
  obtain ⟨b, off, x, A1, n1, c1, A2, n2, c2, A3, n3, c3, rfl, hx, hc, _, _, hB, _⟩ := Fncs.at_ h (show 0 < 1 by decide)
  obtain rfl := Option.some.inj hx
  have hn3 : n3 = 1 := hB.1
  subst hn3
  obtain ⟨e, b2, o2, y, A4, n4, c4, A5, n5, c5, A6, n6, c6, he, rfl, hy, hc2, hE, _, _, _⟩ := Stms.at_ hB (show 0 < 1 by decide)
  obtain rfl := Option.some.inj hy
  obtain rfl : 4 = e := by omega
  exact ⟨rfl, b, off, A1, n1, c1, A2, n2, c2, b2, o2, c3, rfl, hc, A4, n4, c4, A5, n5, c5, A6, n6, c6, hc2, hE⟩
theorem num9_ac (D : Nat) (L : Hl) (s : World) (n : Int) : AC Tryz.prog D 27 [.int .u32 n] L s fun v L' _ => v = .agg #[.int .i64 1, .int .i64 0, .int .u32 n, St [], .slice none 0 0] ∧ L = L' := by
 refine AC_enter (TT := TT) (fn := Tryz.f27) TT_ok Tryz.func27 V Z Tryz.ntmps27 Z (rs := [.cell 2 61]) Z [(0, _)] Z <| Zs <| Zr <| JO_allocZ Z [_, _, _, _, _] Z Z ?_
 intro β1 s1 h1
 refine Zn <| Zt <| Zs <| Zr <| Zqm Z Z <| JO_q (QE_build [(_, _), (_, _)] [_, _, _, _, _] Z Z Z Z Z Z) Z <| JO_st 0 [_, _, _, _, _] Z Z Z Z Z Z Z Z Z <| Zn <| Zt <| Zo <| ?_
 refine retQ_mk [_] L (.inr Z) (.agg (us := [_, _, _, _, _]) 0 Z Z Z Z Z (.nil)) Z h1 (fun sR hS2 => ?_)
 exact ⟨rfl, rfl⟩
theorem smallO_ac (D : Nat) (L : Hl) (s : World) : AC Tryz.prog D 25 [] L s fun v L' s' => ∃ M', L' = M' ++ L ∧ ∀ s2, Le D s' s2 → Pub M' s2 → ∃ bg bf, v = .agg #[.slice (some ⟨bg, 0, none⟩) 1 1, .slice (some ⟨bf, 0, none⟩) 1 1] ∧ Glos s2 (some ⟨bg, 0, none⟩) 1 1 smallP.globals ∧ Fncs 5 s2 (some ⟨bf, 0, none⟩) 1 1 smallP.funcs := by
 refine AC_enter (TT := TT) (fn := Tryz.f25) TT_ok Tryz.func25 V Z Tryz.ntmps25 Z (rs := [.cell 0 25]) Z [] Z <| Zs <| Zr <| JO_allocZ Z [_, _] Z Z ?_
 intro β1 s1 h1
 refine Zn <| Zt <| Zs <| Zr <| JO_q (QE_build [(_, _), (_, _)] [_, _, _, _, _] Z Z Z Z Z Z) Z <| Jc Z Z Z (num9_ac D _ _ 2) ?_
 rintro _ _ s2 h2 ⟨rfl, rfl⟩
 refine JO_bs [(_, _), (_, _)] [_, _, _, _, _, _, _, _, _, _] Z Z Z Z Z Z Z Z Z ?_
 intro βa s3 h3 hca
 refine JO_q (QE_build [(_, _), (_, _), (_, _)] [_, _, _, _, _] Z Z Z Z Z Z) Z <| JO_allocZ Z [_, _, _, _, _] Z Z ?_
 intro β4 s4 h4
 refine JO_st 0 [_, _, _, _, _] Z Z Z Z Z Z Z Z Z <| Zn <| Zt <| Zs <| Zr <| JO_q (QE_build [(_, _)] [_, _, _, _, _] Z Z Z Z Z Z) Z <| JO_q (QE_ldA 0 [_, _, _, _, _] Z Z Z Z Z) Z <| JO_bs [(_, _), (_, _)] [_, _, _, _, _, _, _, _, _, _] Z Z Z Z Z Z Z Z Z ?_
 intro βb s5 h5 hcb
 refine JO_q (QE_build [(_, _), (_, _), (_, _)] [_, _, _, _, _] Z Z Z Z Z Z) Z <| JO_allocZ Z [_, _, _, _, _] Z Z ?_
 intro β6 s6 h6
 refine JO_st 0 [_, _, _, _, _] Z Z Z Z Z Z Z Z Z <| Zn <| Zt <| Zs <| Zr <| JO_q (QE_build [(_, _), (_, _), (_, _)] [_, _, _, _] Z Z Z Z Z Z) Z <| JO_bs [(_, _)] [_, _, _, _] Z Z Z Z Z Z Z Z Z ?_
 intro βc s7 h7 hcc
 refine JO_q (QE_ldA 0 [_, _, _, _, _] Z Z Z Z Z) Z <| JO_bs [(_, _)] [_, _, _, _, _] Z Z Z Z Z Z Z Z Z ?_
 intro βd s8 h8 hcd
 refine JO_q (QE_build [(_, _), (_, _)] [_, _, _, _, _] Z Z Z Z Z Z) Z <| JO_bs [(_, _)] [_, _, _, _, _] Z Z Z Z Z Z Z Z Z ?_
 intro βe s9 h9 hce
 refine JO_q (QE_build [(_, _), (_, _)] [_, _, _, _] Z Z Z Z Z Z) Z <| JO_bs [(_, _)] [_, _, _, _] Z Z Z Z Z Z Z Z Z ?_
 intro βf s10 h10 hcf
 refine JO_q (QE_build [(_, _), (_, _)] [_, _] Z Z Z Z Z Z) Z <| JO_st 2 [_, _] Z Z Z Z Z Z Z Z Z <| Zn <| Zt <| Zo <| ?_
 refine retQ_mk [_, _, _] _ (.inr Z) (.agg (us := [_, _]) 2 Z Z Z Z Z (.nil)) Z (h1.t h2|>.t h3|>.t h4|>.t h5|>.t h6|>.t h7|>.t h8|>.t h9|>.t h10) (fun sR hS2 => ?_)
 exact ⟨[], rfl, fun s2 hs2 hp => ⟨_, _, rfl, small_of (hca.le (h4.t h5|>.t h6|>.t h7|>.t h8|>.t h9|>.t h10|>.t (hS2.t hs2))) (hcb.le (h6.t h7|>.t h8|>.t h9|>.t h10|>.t (hS2.t hs2))) (hcc.le (h8.t h9|>.t h10|>.t (hS2.t hs2))) (hcd.le (h9.t h10|>.t (hS2.t hs2))) (hce.le (h10.t (hS2.t hs2))) (hcf.le ((Lr D).t (hS2.t hs2)))⟩⟩
theorem smallP_ac (D : Nat) (L : Hl) (s : World) : AC Tryz.prog D 25 [] L s fun v L' s' => L = L' ∧ ∃ bg bf, v = .agg #[.slice (some ⟨bg, 0, none⟩) 1 1, .slice (some ⟨bf, 0, none⟩) 1 1] ∧ Glos s' (some ⟨bg, 0, none⟩) 1 1 smallP.globals ∧ Fncs 5 s' (some ⟨bf, 0, none⟩) 1 1 smallP.funcs := AC.pubW (smallO_ac D L s)
theorem checked_ac (D : Nat) (L : Hl) (s : World) (hG : GP s) : AC Tryz.prog D 8 [] L s fun v L' _ => v = .bool true ∧ L = L' := by
 refine AC_enter (TT := TT) (fn := Tryz.f8) TT_ok Tryz.func8 V Z Tryz.ntmps8 Z (rs := [.tmp 0]) Z [] Z <| Zs <| Zr <| Zqa Z Z <| Zn <| Zt <| Zs <| Zr <| Jc Z Z Z (smallP_ac D _ _) ?_
 rintro _ _ s1 h1 ⟨rfl, bg1, bf1, rfl, hg1, hf1⟩
 refine Jc Z Z Z (resolve_ac D _ _ (hG.le h1) 5 smallP _ _ _ _ _ _ (hg1.le (Lr D)) (hf1.le (Lr D)) 0 [110]) ?_
 rintro _ _ s2 h2 ⟨rfl, rfl⟩
 refine Zqm Z Z <| Zqx Z Z Z <| Zqx Z Z Z <| JO_allocZ Z [_, _] Z Z ?_
 intro β3 s3 h3
 refine JO_allocZ Z [_, _] Z Z ?_
 intro β4 s4 h4
 refine JO_st 1 [_, _] Z Z Z Z Z Z Z Z Z <| JO_st 0 [_, _] Z Z Z Z Z Z Z Z Z <| Zn <| Zt <| Zs <| Zr <| Jc Z Z Z (smallP_ac D _ _) ?_
 rintro _ _ s5 h5 ⟨rfl, bg2, bf2, rfl, hg2, hf2⟩
 refine Jc Z Z Z (calls_ac D _ _ (hG.le (h1.t h2|>.t h3|>.t h4|>.t h5)) 5 smallP _ _ _ _ _ _ (hg2.le (Lr D)) (hf2.le (Lr D))) ?_
 rintro _ _ s6 h6 ⟨rfl, Ac, nc, cc, rfl, hCl⟩
 rw [sm_C] at hCl
 have hnc : nc = 1 := hCl.1
 subst hnc
 obtain ⟨bq, oq, xq, Aq, nq, cq, rfl, hxq, hcq, hIq⟩ := ClsR.at_ hCl (show 0 < 1 by decide)
 obtain rfl := Option.some.inj hxq
 rw [sm_M4] at hIq
 have hnq : nq = 0 := hIq.1
 subst hnq
 refine Zqm Z Z <| Zqx Z Z Z <| Zqx Z Z Z <| JO_allocZ Z [_, _] Z Z ?_
 intro β7 s7 h7
 refine Zqa Z Z <| JO_st 0 [_, _] Z Z Z Z Z Z Z Z Z <| Zn <| Zt <| Zs <| Zr <| Jc Z Z Z (smallP_ac D _ _) ?_
 rintro _ _ s8 h8 ⟨rfl, bg3, bf3, rfl, hg3, hf3⟩
 refine JO_q (QE_field Z Z Z Z Z Z Z Z Z) Z <| Jc Z Z Z (smallP_ac D _ _) ?_
 rintro _ _ s9 h9 ⟨rfl, bg4, bf4, rfl, hg4, hf4⟩
 obtain ⟨b4, off4, x4, B1, m1, d1, B2, m2, d2, B3, m3, d3, hA4, hx4, hc4, hp4, hl4, hb4, _⟩ := Fncs.at_ hf4 (show 0 < 1 by decide)
 cases hA4
 obtain rfl := Option.some.inj hx4
 refine JO_q (QE_field Z Z Z Z Z Z Z Z Z) Z <| JO_q (QE_build [(_, _)] [_, _, _, _] Z Z Z Z Z Z) Z <| JO_bs [(_, _)] [_, _, _, _] Z Z Z Z Z Z Z Z Z ?_
 intro βs s10 h10 hcs
 refine JO_appN (sz := 4) Z Z Z Z Z Z (hc4.le h10) Z (Row.of_cells (hcs.le (Lr D)) Z Z) (by decide) ⟨by decide +kernel, by decide⟩ Z ?_
 intro βv cv s11 h11 hcv hv1 hv2
 refine JO_q (QE_build [(_, _), (_, _)] [_, _] Z Z Z Z Z Z) Z <| Jc Z Z Z (trim_ac D _ _ (hG.le (h1.t h2|>.t h3|>.t h4|>.t h5|>.t h6|>.t h7|>.t h8|>.t h9|>.t h10|>.t h11)) 5 smallQ _ _ _ _ _ _ (hg3.le (h9.t h10|>.t h11)) (smallQ_of (hcv.le (Lr D)) (hp4.le (h10.t h11)) (hl4.le (h10.t h11)) (hb4.le (h10.t h11)) hv1 hv2)) ?_
 rintro _ _ s12 h12 ⟨rfl, qt, hTq, Dg, kg, jg, Df, kf, jf, rfl, hgt, hft⟩
 obtain rfl := sm_T hTq
 refine Zqm Z Z <| Zqx Z Z Z <| Zqx Z Z Z <| JO_allocZ Z [_, _] Z Z ?_
 intro β13 s13 h13
 refine JO_allocZ Z [_, _] Z Z ?_
 intro β14 s14 h14
 refine JO_st 1 [_, _] Z Z Z Z Z Z Z Z Z <| JO_st 0 [_, _] Z Z Z Z Z Z Z Z Z <| Zn <| Zt <| Zs <| Zr <| Jc Z Z Z (smallP_ac D _ _) ?_
 rintro _ _ s15 h15 ⟨rfl, bg5, bf5, rfl, hg5, hf5⟩
 refine Jc Z Z Z (fold_ac D _ _ (hG.le (h1.t h2|>.t h3|>.t h4|>.t h5|>.t h6|>.t h7|>.t h8|>.t h9|>.t h10|>.t h11|>.t h12|>.t h13|>.t h14|>.t h15)) 5 smallP _ _ _ _ _ _ (hg5.le (Lr D)) (hf5.le (Lr D))) ?_
 rintro _ _ s16 h16 ⟨rfl, Eg, ug, wg, Ef, uf, wf, rfl, hgo, hfo⟩
 rw [sm_F1] at hfo
 obtain ⟨rfl, bo, oo, C1, r1, e1, C2, r2, e2, bo2, oo2, e3, rfl, hco, C4, r4, e4, C5, r5, e5, C6, r6, e6, hco2, hxo⟩ := fold_at hfo
 refine Zqm Z Z <| Zqx Z Z Z <| Zqx Z Z Z <| JO_allocZ Z [_, _] Z Z ?_
 intro β17 s17 h17
 refine JO_allocZ Z [_, _] Z Z ?_
 intro β18 s18 h18
 refine JO_st 1 [_, _] Z Z Z Z Z Z Z Z Z <| JO_st 0 [_, _] Z Z Z Z Z Z Z Z Z <| Zn <| Zt <| Zs <| Zr <| Jc Z Z Z (operate_ac D _ _ 11 1 2 ⟨by decide, by decide⟩ ⟨by decide, by decide⟩) ?_
 rintro _ _ s19 h19 ⟨rfl, rfl⟩
 refine Zqm Z Z <| Zqx Z Z Z <| Zqx Z Z Z <| JO_allocZ Z [_, _] Z Z ?_
 intro β20 s20 h20
 refine Zqa Z Z <| JO_st 0 [_, _] Z Z Z Z Z Z Z Z Z <| Zn <| Zt <| Zs <| Zr <| Jc Z Z Z (operate_ac D _ _ 6 1 0 ⟨by decide, by decide⟩ ⟨by decide, by decide⟩) ?_
 rintro _ _ s21 h21 ⟨rfl, rfl⟩
 refine Zqm Z Z <| Zqx Z Z Z <| Zqx Z Z Z <| JO_allocZ Z [_, _] Z Z ?_
 intro β22 s22 h22
 refine Zqa Z Z <| JO_st 0 [_, _] Z Z Z Z Z Z Z Z Z <| Zn <| Zt <| Zs <| Zs <| Zr <| Zqf0 Z Z Z Z Z <| JO_q (QE_ld1 7 Z Z Z Z Z) Z <| JO_q (QE_cast (v' := .bool false) (QE_ne Z Z) (bF (by rw [sm_R]))) Z <| Zqm Z Z <| Zg Z Z <| Zqf0 Z Z Z Z Z <| Zg Z Z <| JO_q (QE_ld1 6 Z Z Z Z Z) Z <| Zg Z Z <| JO_q (QE_cast (v' := .bool false) (QE_ne Z Z) (bF (by rw [sm_K]))) Z <| ZqF Z Z Z <| Zqm Z Z <| Zg Z Z <| Zqf0 Z Z Z Z Z <| Zg Z Z <| Zql 4 Z Z Z Z Z Z <| Zg Z Z <| JO_q (QE_cast (v' := .bool false) (QE_ne Z Z) (bF (by rw [sm_KQ]))) Z ?_
 refine ZqF Z Z Z <| Zqm Z Z <| Zg Z Z <| Zqf0 Z Z Z Z Z <| Zg Z Z <| Zql 2 Z Z Z Z Z Z <| Zg Z Z <| JO_q (QE_cast (v' := .bool false) (QE_ne Z Z) (bF (by rw [sm_F]))) Z <| ZqF Z Z Z <| Zqm Z Z <| Zg Z Z <| Zqf0 Z Z Z Z Z <| Zg Z Z <| Zql 1 Z Z Z Z Z Z <| Zg Z Z <| JO_q (QE_cast (v' := .bool false) (QE_ne Z Z) (bF (by exact sm_O.1))) Z <| ZqF Z Z Z <| Zqm Z Z <| Zg Z Z <| Zqm Z Z <| Zg Z Z <| Zqls Z Z Z Z <| Zg Z Z <| JO_q (QE_cast (v' := .bool false) (QE_ne Z Z) (bF (by rfl))) Z ?_
 refine ZqF Z Z Z <| Zqm Z Z <| Zg Z Z <| ZqfB Z Z Z Z Z <| Zg Z Z <| Zql 3 Z Z Z Z Z Z <| Zg Z Z <| Zqls Z Z Z Z <| Zg Z Z <| JO_q (QE_cast (v' := .bool false) (QE_ne Z Z) (bF (by rfl))) Z <| ZqF Z Z Z <| Zqm Z Z <| Zg Z Z <| ZqfB Z Z Z Z Z <| Zg Z Z <| Zql 3 Z Z Z Z Z Z <| Zg Z Z <| JO_q (QE_iaN (j := 0) Z Z Z Z Z Z (by decide)) Z <| Zg Z Z <| JO_q (QE_fa Z Z Z Z) Z <| Zg Z Z <| JO_q (QE_ldsR 3 Z Z Z (hco.le (h17.t h18|>.t h19|>.t h20|>.t h21|>.t h22)) Z) Z <| Zg Z Z <| Zqls Z Z Z Z <| Zg Z Z <| JO_q (QE_cast (v' := .bool false) (QE_ne Z Z) (bF (by rfl))) Z ?_
 refine ZqF Z Z Z <| Zn <| Zt <| Zz Z <| Zk <| Zt <| Zs <| Zr <| JO_q (QE_build [(_, _)] [_, _, _, _, _] Z Z Z Z Z Z) Z <| Jc Z Z Z (num9_ac D _ _ 6) ?_
 rintro _ _ s23 h23 ⟨rfl, rfl⟩
 refine JO_bs [(_, _), (_, _)] [_, _, _, _, _, _, _, _, _, _] Z Z Z Z Z Z Z Z Z ?_
 intro βg s24 h24 hcg
 refine JO_q (QE_build [(_, _), (_, _), (_, _)] [_, _, _, _, _] Z Z Z Z Z Z) Z <| JO_allocZ Z [_, _, _, _, _] Z Z ?_
 intro β25 s25 h25
 refine JO_st 0 [_, _, _, _, _] Z Z Z Z Z Z Z Z Z <| Zn <| Zt <| Zs <| JC_draw drawsMixed 44 Z _ (fun _ h => h) ?_
 intro s26 h26
 refine JA_1 0 V <| Jb Z trivial Z Z Z (smallP_ac D _ _) ?_
 rintro _ _ s27 h27 ⟨rfl, bg6, bf6, rfl, hg6, hf6⟩
 refine ⟨fun _ _ h => h, ?_⟩
 refine JA_1 1 V <| Jb Z trivial Z Z Z (program_ac D _ _ (hG.le (h1.t h2|>.t h3|>.t h4|>.t h5|>.t h6|>.t h7|>.t h8|>.t h9|>.t h10|>.t h11|>.t h12|>.t h13|>.t h14|>.t h15|>.t h16|>.t h17|>.t h18|>.t h19|>.t h20|>.t h21|>.t h22|>.t h23|>.t h24|>.t h25|>.t h26|>.t h27)) 5 smallP _ _ _ _ _ _ (hg6.le (Lr D)) (hf6.le (Lr D))) ?_
 rintro _ _ s28 h28 ⟨rfl, rfl⟩
 refine ⟨fun _ _ h => h, ?_⟩
 refine za 2 Z (QE_field Z Z Z Z Z Z Z Z Z) Z <| za 3 Z (QE_cast (v' := .bool true) (QE_eq Z Z) (bT (by rw [sm_K]))) Z <| za 4 Z (QE_mv Z) Z <| zg 5 Z ⟨_, Z, Z⟩ (QE_ldA 9 [_, _] Z Z Z Z Z) Z <| zg 6 Z ⟨_, Z, Z⟩ (QE_build [(_, _)] [_, _] Z Z Z Z Z Z) Z <| zg 7 Z ⟨_, Z, Z⟩ (QE_cast (v' := .bool true) (QE_aeq Z Z (eqMean _ _ _ _)) (bT ⟨by rw [sm_R], by rw [sm_R]⟩)) Z <| za 8 Z (QE_pickT Z Z) Z <| za 9 Z (QE_mv Z) Z <| zg 10 Z ⟨_, Z, Z⟩ (QE_mv Z) Z <| zg 11 Z ⟨_, Z, Z⟩ (QE_iaN (j := 0) Z Z Z Z Z Z (by decide)) Z ?_
 refine zg 12 Z ⟨_, Z, Z⟩ (QE_ldsR0 Z Z Z (hcq.le (h7.t h8|>.t h9|>.t h10|>.t h11|>.t h12|>.t h13|>.t h14|>.t h15|>.t h16|>.t h17|>.t h18|>.t h19|>.t h20|>.t h21|>.t h22|>.t h23|>.t h24|>.t h25|>.t h26)) Z) Z <| zg 13 Z ⟨_, Z, Z⟩ (QE_lenS Z Z Z) Z <| zg 14 Z ⟨_, Z, Z⟩ (QE_cast (v' := .bool true) (QE_eq Z Z) (bT (by rfl))) Z <| za 15 Z (QE_pickT Z Z) Z <| za 16 Z (QE_mv Z) Z <| zg 17 Z ⟨_, Z, Z⟩ (QE_ldA 6 [_, _] Z Z Z Z Z) Z <| JA_1 18 V <| Jb Z ⟨_, Z, Z⟩ Z Z Z (smallP_ac D _ _) ?_
 rintro _ _ s29 h29 ⟨rfl, bg7, bf7, rfl, hg7, hf7⟩
 refine ⟨fun _ _ h => h, ?_⟩
 refine JA_1 19 V <| Jb Z ⟨_, Z, Z⟩ Z Z Z (sameP_ac D _ _ 5 smallP _ _ _ _ _ _ (hgt.le (h13.t h14|>.t h15|>.t h16|>.t h17|>.t h18|>.t h19|>.t h20|>.t h21|>.t h22|>.t h23|>.t h24|>.t h25|>.t h26|>.t h27|>.t h28|>.t h29)) (hft.le (h13.t h14|>.t h15|>.t h16|>.t h17|>.t h18|>.t h19|>.t h20|>.t h21|>.t h22|>.t h23|>.t h24|>.t h25|>.t h26|>.t h27|>.t h28|>.t h29)) 5 _ _ _ _ _ _ (hg7.le (Lr D)) (hf7.le (Lr D))) ?_
 rintro _ _ s30 h30 ⟨rfl, rfl⟩
 refine ⟨fun _ _ h => h, ?_⟩
 refine za 20 Z (QE_pickT Z Z) Z <| za 21 Z (QE_mv Z) Z <| zg 22 Z ⟨_, Z, Z⟩ (QE_faB Z Z Z Z) Z <| zg 23 Z ⟨_, Z, Z⟩ (QE_ld1 4 Z Z Z Z Z) Z <| zg 24 Z ⟨_, Z, Z⟩ (QE_iaN (j := 0) Z Z Z Z Z Z (by decide)) Z <| zg 25 Z ⟨_, Z, Z⟩ (QE_fa Z Z Z Z) Z <| zg 26 Z ⟨_, Z, Z⟩ (QE_ldsR 3 Z Z Z (hco.le (h17.t h18|>.t h19|>.t h20|>.t h21|>.t h22|>.t h23|>.t h24|>.t h25|>.t h26)) Z) Z <| zg 27 Z ⟨_, Z, Z⟩ (QE_iaN (j := 0) Z Z Z Z Z Z (by decide)) Z <| zg 28 Z ⟨_, Z, Z⟩ (QE_fa Z Z Z Z) Z ?_
 refine zg 29 Z ⟨_, Z, Z⟩ (QE_ldsR 2 Z Z Z (hco2.le (h17.t h18|>.t h19|>.t h20|>.t h21|>.t h22|>.t h23|>.t h24|>.t h25|>.t h26)) Z) Z <| zg 30 Z ⟨_, Z, Z⟩ (QE_ldA 0 [_, _, _, _, _] Z Z Z Z Z) Z <| JA_1 31 V <| JB_bs Z ⟨_, Z, Z⟩ [(_, _)] [_, _, _, _, _] Z Z Z Z Z Z Z Z Z ?_
 intro βh s31 h31 hch
 refine JA_1 32 V <| Jb Z ⟨_, Z, Z⟩ Z Z Z (sameX_ac D 4 _ _ 3 _ _ _ _ _ _ [sumD] (hxo.le (h17.t h18|>.t h19|>.t h20|>.t h21|>.t h22|>.t h23|>.t h24|>.t h25|>.t h26|>.t h27|>.t h28|>.t h29|>.t h30|>.t h31)) (sumD_of (hcg.le (h25.t h26|>.t h27|>.t h28|>.t h29|>.t h30|>.t h31)) (hch.le (Lr D)))) ?_
 rintro _ _ s32 h32 ⟨rfl, rfl⟩
 refine ⟨fun _ _ h => h, ?_⟩
 refine za 33 Z (QE_pickT Z Z) Z <| za 34 Z (QE_mv Z) Z <| zg 35 Z ⟨_, Z, Z⟩ (QE_mv Z) Z <| zg 36 Z ⟨_, Z, Z⟩ (QE_cast (v' := .bool true) (QE_eq Z Z) (bT (by rw [if_pos sm_O.1]; exact sm_O.2.2))) Z <| za 37 Z (QE_pickT Z Z) Z <| za 38 Z (QE_mv Z) Z <| zg 39 Z ⟨_, Z, Z⟩ (QE_ldA 1 [_, _] Z Z Z Z Z) Z <| JA_1 40 V <| Jb Z ⟨_, Z, Z⟩ Z Z Z (at_ac D _ _ _ _) ?_
 rintro _ _ s33 h33 ⟨rfl, rfl⟩
 refine ⟨fun _ _ h => h, ?_⟩
 refine zg 41 Z ⟨_, Z, Z⟩ (QE_cast (v' := .bool true) (QE_aeq Z Z (eqFault _ _ _ _)) (bT sm_Z)) Z <| za 42 Z (QE_pickT Z Z) Z <| za 43 Z (QE_as Z) Z <| JA_done V <| Zt <| Zo <| ?_
 refine retQ_mk [_, _, _, _, _, _, _, _, _, _] L (.inr Z) (.tmp Z (.nil)) Z (h1.t h2|>.t h3|>.t h4|>.t h5|>.t h6|>.t h7|>.t h8|>.t h9|>.t h10|>.t h11|>.t h12|>.t h13|>.t h14|>.t h15|>.t h16|>.t h17|>.t h18|>.t h19|>.t h20|>.t h21|>.t h22|>.t h23|>.t h24|>.t h25|>.t h26|>.t h27|>.t h28|>.t h29|>.t h30|>.t h31|>.t h32|>.t h33) (fun sR hS2 => ?_)
 exact ⟨rfl, rfl⟩
theorem lawLeaves_ac (D : Nat) (L : Hl) (s : World) (hG : GP s) (d : Nat) (p : Prg) (Ag Af : Option Addr) (ng cg nf cf : Nat) (hGl : Glos s Ag ng cg p.globals) (hFn : Fncs d s Af nf cf p.funcs) : AC Tryz.prog D 6 [.agg #[.slice Ag ng cg, .slice Af nf cf]] L s fun v L' _ => v = .bool true ∧ L = L' := by
 have hn1 := hGl.1
 have hn2 := hFn.1
 have hU : prU p := ⟨hGl.u, hFn.u⟩
 refine AC_enter (TT := TT) (fn := Tryz.f6) TT_ok Tryz.func6 V Z Tryz.ntmps6 Z (rs := [.tmp 2]) Z [(0, _)] Z <| Zs <| Zr <| JO_boxA Z Z ?_
 intro β1 s1 h1
 refine Zqa Z Z <| Zn <| Zt <| Zs <| Zs <| Zr <| Jc Z Z Z (checked_ac D _ _ (hG.le h1)) ?_
 rintro _ _ s2 h2 ⟨rfl, rfl⟩
 refine ZqnT Z Z <| Zn <| Zt <| Zz Z <| Zk <| Zt <| Zs <| Zr <| JO_q (QE_ldA 0 [_, _] Z Z Z Z Z) Z <| Jc Z Z Z (trim_ac D _ _ (hG.le (h1.t h2)) d p Ag Af ng cg nf cf (hGl.le (h1.t h2)) (hFn.le (h1.t h2))) ?_
 rintro _ _ s3 h3 ⟨rfl, qt, hTq, Xg, kXg, jXg, Xf, kXf, jXf, rfl, hXg, hXf⟩
 refine Zqm Z Z <| Zqx Z Z Z <| Zqx Z Z Z <| JO_allocZ Z [_, _] Z Z ?_
 intro β4 s4 h4
 refine JO_allocZ Z [_, _] Z Z ?_
 intro β5 s5 h5
 refine JO_st 1 [_, _] Z Z Z Z Z Z Z Z Z <| JO_st 0 [_, _] Z Z Z Z Z Z Z Z Z <| Zn <| Zt <| Zs <| Zs <| Zr <| Zqf0 Z Z Z Z Z <| Zql 0 Z Z Z Z Z Z <| Zqne Z Z Z <| Zn <| Zt <| ?_
 refine JC_ifN Z (fun c6 => ?_) (fun c6 => ?_)
 ·
  have g16 : (chkF p).1 ≠ 0 := c6
  have hkf : kXf = 0 := by
    rcases hTq with ⟨_, hq⟩ | ⟨h0, _⟩
    · rw [hq] at hXf; exact hXf.1
    · exact absurd h0 g16
  subst hkf
  refine Zs <| Zr <| ZqfB Z Z Z Z Z <| Zql 1 Z Z Z Z Z Z <| Zqls Z Z Z Z <| JO_q (QE_cast (v' := .bool true) (QE_eq Z Z) (bT (by rfl))) Z <| Zqa Z Z <| Zn <| Zt <| Zo <| Zu <| ?_
  refine retQ_mk [_, _, _] L (.inr Z) (.tmp Z (.nil)) Z (h1.t h2|>.t h3|>.t h4|>.t h5) (fun sR hS2 => ?_)
  exact ⟨rfl, rfl⟩
 have g16 : (chkF p).1 = 0 := c6
 obtain ⟨hz, hsame⟩ := trim_again hU g16 hTq
 refine Zk <| Zt <| Zs <| Zr <| JO_q (QE_ldA 1 [_, _] Z Z Z Z Z) Z <| Jc Z Z Z (trim_ac D _ _ (hG.le (h1.t h2|>.t h3|>.t h4|>.t h5)) d qt _ _ _ _ _ _ (hXg.le (h4.t h5)) (hXf.le (h4.t h5))) ?_
 rintro _ _ s7 h7 ⟨rfl, rt, hTr, Yg, kYg, jYg, Yf, kYf, jYf, rfl, hYg, hYf⟩
 rw [hsame _ hTr] at hYg hYf
 refine Zqm Z Z <| Zqx Z Z Z <| Zqx Z Z Z <| JO_allocZ Z [_, _] Z Z ?_
 intro β8 s8 h8
 refine JO_allocZ Z [_, _] Z Z ?_
 intro β9 s9 h9
 refine JO_st 1 [_, _] Z Z Z Z Z Z Z Z Z <| JO_st 0 [_, _] Z Z Z Z Z Z Z Z Z <| Zn <| Zt <| Zs <| Zr <| JO_q (QE_ldA 3 [_, _] Z Z Z Z Z) Z <| Jc Z Z Z (program_ac D _ _ (hG.le (h1.t h2|>.t h3|>.t h4|>.t h5|>.t h7|>.t h8|>.t h9)) d qt _ _ _ _ _ _ (hXg.le (h4.t h5|>.t h7|>.t h8|>.t h9)) (hXf.le (h4.t h5|>.t h7|>.t h8|>.t h9))) ?_
 rintro _ _ s10 h10 ⟨rfl, rfl⟩
 refine JO_q (QE_field Z Z Z Z Z Z Z Z Z) Z <| JO_q (QE_cast (v' := .bool true) (QE_eq Z Z) (bT (by rw [hz]))) Z <| Zqm Z Z <| Zg Z Z <| Zqf0 Z Z Z Z Z <| Zg Z Z <| Zql 0 Z Z Z Z Z Z <| Zg Z Z <| JO_q (QE_cast (v' := .bool true) (QE_eq Z Z) (bT (by rw [hz]))) Z <| ZqT Z Z Z <| Zqm Z Z <| Zg Z Z <| JO_q (QE_ldA 3 [_, _] Z Z Z Z Z) Z <| Zg Z Z <| JO_q (QE_ldA 1 [_, _] Z Z Z Z Z) Z <| Zg Z Z ?_
 refine Jc Z Z Z (sameP_ac D _ _ d qt _ _ _ _ _ _ (hXg.le (h4.t h5|>.t h7|>.t h8|>.t h9|>.t h10)) (hXf.le (h4.t h5|>.t h7|>.t h8|>.t h9|>.t h10)) d _ _ _ _ _ _ (hYg.le (h8.t h9|>.t h10)) (hYf.le (h8.t h9|>.t h10))) ?_
 rintro _ _ s11 h11 ⟨rfl, rfl⟩
 refine ZqT Z Z Z <| Zqa Z Z <| Zn <| Zt <| Zo <| ?_
 refine retQ_mk [_, _, _, _, _] L (.inr Z) (.tmp Z (.nil)) Z (h1.t h2|>.t h3|>.t h4|>.t h5|>.t h7|>.t h8|>.t h9|>.t h10|>.t h11) (fun sR hS2 => ?_)
 exact ⟨rfl, rfl⟩
end Go.Proofs.YtacajpepkfinoaaGreatDoor
namespace Go.Proofs.YtacajpepkfinoaaGreatDoor
open Go Go.FL Go.ChangeShapes Go.WideShapes Go.ChangeAt Go.RowKit Go.Deep
theorem own_knob : ownKnob Tryz.prog.godebug = none := by kernel_rfl
theorem laid_out : laidOutB Tryz.prog = true := by kernel_rfl
theorem mark_free (l : List Obj) : ∃ D, ∀ E, D ≤ E → ∀ o ∈ l, o ≠ dum E := by
  induction l with
  | nil => exact ⟨0, fun _ _ _ h => by cases h⟩
  | cons x l ih =>
    obtain ⟨D, hD⟩ := ih
    have hx : ∃ B, ∀ E, B ≤ E → x ≠ dum E := by
      cases x with
      | mapIter a n b c => exact ⟨n + 1, fun E hE h => by simp only [dum, Obj.mapIter.injEq] at h; omega⟩
      | _ => exact ⟨0, fun E _ h => by simp [dum] at h⟩
    obtain ⟨B, hB⟩ := hx
    refine ⟨max D B, fun E hE o ho => ?_⟩
    rcases List.mem_cons.1 ho with rfl | ho
    · exact hB E O
    · exact hD E O o ho
theorem mark_world (W : World) : ∃ D, ∀ k : Nat, W.heap[k]? ≠ some (dum D) := by
  obtain ⟨D, hD⟩ := mark_free W.heap.toList
  refine ⟨D, fun k hk => hD D (Nat.le_refl _) (dum D) ?_ Z⟩
  rw [← Array.getElem?_toList] at hk
  exact List.mem_of_getElem? hk
theorem below_of {D : Nat} {W W' : World} (hD : ∀ k : Nat, W.heap[k]? ≠ some (dum D)) (h : Le D W W') : Below W.heap.size W W' :=
  ⟨h.os, h.tape, h.output, h.size, fun k hk => (h.block k hk).resolve_left (hD k)⟩
theorem law_calls {P : Program} {f : FuncId} {args : List Value} {W : World} (h : ∀ D, AC P D f args [] W fun v L' _ => v = .bool true ∧ [] = L') :
    Calls P f args.toArray W fun e W' => e = .returned (.bool true) ∧ Below W.heap.size W W' := by
  obtain ⟨D, hD⟩ := mark_world W
  refine ((h D).2 ⟨by simp, fun x hx => by cases hx⟩).mono ?_
  rintro e w' ⟨v, L', s', h1, rfl, h3, h4, rfl, rfl⟩
  exact ⟨h1, below_of hD h4⟩
section
variable {H : Type} {enc : TypeId × Value → H} {P : Program}
theorem trodAll_stays {W W' : World} (hl : laidOutB P = true) (hb : Below W.heap.size W W') : ∀ {ts : List TypeId} {vs : List Value} {ds : List (DataW H)} {ps : List MemPlace}, (∀ t ∈ ts, P.readableRec t = true ∧ t < P.types.size) → (∀ x ∈ ps, x.block < W.heap.size) →
    DataW.TrodAll enc P W 0 (fun _ => true) true ts vs ds ps → DataW.TrodAll enc P W' 0 (fun b => decide (b < W.heap.size)) true ts vs ds ps
  | [], _, _, _, _, _, h => by
    obtain ⟨rfl, rfl, rfl⟩ := trodAll_nil h
    exact trodAll_mk0
  | t :: ts, _, _, _, hts, hp, h => by
    obtain ⟨v, vs, d, ds, a, b, rfl, rfl, rfl, h1, h2⟩ := trodAll_cons h
    have ht := hts t (List.mem_cons_self ..)
    exact trodAll_cons_mk (Below.trod hl ht.1 ht.2 h1 hb fun x hx => hp x (List.mem_append_left _ hx)) (trodAll_stays hl hb (fun t' h' => hts t' (List.mem_cons_of_mem _ h')) (fun x hx => hp x (List.mem_append_right _ hx)) h2)
theorem law_post {fn : Func} {s : ChangeSpec} {W W' : World} {args : Array Value} {ds gs : List (DataW H)} {before : List MemPlace} {tb : TypeId} (hl : laidOutB P = true) (hts : ∀ t ∈ fn.params.toList, P.readableRec t = true ∧ t < P.types.size) (hr : fn.resultTypes = #[tb]) (hb : P.underlying tb = some .bool)
    (hv : s.vars = []) (hW : DataW.Whole enc P fn.params.toList s.vars false W args.toList ds gs before) (hfn : s.fn H ds = { results := [.lit (.bool true)], args := ds }) (hB : Below W.heap.size W W') : s.post enc P fn false true false false W args (.bool true) W' := by
  have hlt : ∀ x ∈ before, x.block < W.heap.size := fun x hx => hW.lt x hx
  have hW' := hW
  obtain ⟨p, q, hA, hV, rfl, _, _⟩ := hW
  rw [hv] at hV
  obtain ⟨rfl, rfl⟩ := trodVars_none hV
  refine ⟨ds, [], p ++ [], [], p, [], hW', ?_, ?_, ?_, hB.frame _, fun h => by cases h⟩
  · rw [List.append_nil, hfn, hr]; exact trodAll_cons_mk (shut_bool hb _) trodAll_mk0
  · rw [List.append_nil, hfn]; exact trodAll_stays hl hB hts (fun x hx => hlt x (List.mem_append_left _ hx)) hA
  · rw [List.append_nil, hfn, hv]; rfl
end
def Rd (W : World) (t : TypeId) (cs : List Value) : Prop := ∃ (H : Type) (enc : TypeId × Value → H) (n : Nat) (x : DataW H × List MemPlace), DataW.trod enc Tryz.prog W 0 (fun _ => true) true n t cs = some x
section
variable {W : World} {t e : TypeId} {cs : List Value}
theorem rd_int {k : IntKind} (ht : Tryz.prog.underlying t = some (.int k)) (h : Rd W t cs) : ∃ n, cs = [.int k n] ∧ (Lit.int k n).wf = true := by
  obtain ⟨H, enc, n, x, h⟩ := h
  obtain ⟨i, h1, _, h2⟩ := DataW.trod_int ht h
  exact ⟨i, h1, h2⟩
theorem rd_str (ht : Tryz.prog.underlying t = some .string) (h : Rd W t cs) : ∃ l : List UInt8, cs = [St l] ∧ l.length ≤ 9223372036854775807 := by
  obtain ⟨H, enc, n, x, h⟩ := h
  obtain ⟨s, h1, _, h2⟩ := DataW.trod_string ht h
  refine ⟨s.data.toList, by rw [h1], ?_⟩
  have : s.data.toList.length = s.size := by rw [Array.length_toList]; rfl
  simp only [maxLen] at h2
  omega
theorem rd_field {fs : Array Field} (ht : Tryz.prog.underlying t = some (.struct fs)) (h : Rd W t cs) {sz : Nat} (hc : Tryz.prog.cellsOf t = sz) : cs.length = sz ∧ ∀ (i : Nat) (f : Field), fs[i]? = some f → ∀ (ty off n : Nat), f.type = ty → f.offset = off → Tryz.prog.cellsOf ty = n → Rd W ty ((cs.drop off).take n) := by
  obtain ⟨H, enc, n, x, h⟩ := h
  obtain ⟨xs, m, _, _, h1, h2, h3⟩ := DataW.trod_struct ht h
  refine ⟨h1.trans hc, fun i f hf ty off k e1 e2 e3 => ?_⟩
  have hi : i < xs.length := by rw [h2]; exact (Array.getElem?_eq_some_iff.1 hf).1
  have := h3 i f hf
  rw [List.getElem?_eq_getElem hi, e1, e2, e3] at this
  exact ⟨H, enc, m, _, this⟩
theorem rd_slice {sz : Nat} (ht : Tryz.prog.underlying t = some (.slice e)) (hc : Tryz.prog.cellsOf e = sz) (hp : 0 < sz) (h : Rd W t cs) : ∃ A n c, cs = [.slice A n c] ∧ n ≤ c ∧ c ≤ 9223372036854775807 ∧
    ∀ i, i < n → ∃ b off ds, A = some ⟨b, off, none⟩ ∧ CellsAt W b (off + i * sz) ds ∧ ds.length = sz ∧ Rd W e ds := by
  obtain ⟨H, enc, q, x, h⟩ := h
  rcases open_slice ht h with ⟨rfl, _⟩ | ⟨a, len, cap, m, k, D, Pl, rfl, _, h1, h2, h3, _, h4⟩
  · exact ⟨none, 0, 0, rfl, Nat.le_refl _, by omega, fun i hi => by omega⟩
  · simp only [maxLen] at h2
    refine ⟨some a, len, cap, Z, h1, by omega, fun i hi => ?_⟩
    obtain ⟨ds, k1, k2⟩ := h4 i (by simp at h3; omega)
    rw [hc] at k1
    obtain ⟨_, k3, k4⟩ := World.cells?_some k1
    obtain ⟨b, off, spot⟩ := a
    have hs : spot = none := by
      obtain ⟨ds0, j1, _⟩ := h4 0 (by simp at h3; omega)
      rw [hc, Nat.zero_mul] at j1
      obtain ⟨_, j3, j4⟩ := World.cells?_some j1
      have := j4 0 hp
      rw [List.getElem?_eq_getElem O] at this
      simpa [Addr.add] using World.cell?_spot this
    subst hs
    refine ⟨b, off, ds, Z, fun j v hj => ?_, k3, H, enc, k, _, k2⟩
    have hl : j < sz := by rw [← k3]; exact (List.getElem?_eq_some_iff.1 hj).1
    have := k4 j hl
    rw [hj, add_lit, add_lit] at this
    exact this
theorem sl_of {α : Type} [Inhabited α] {R : World → α → List Value → Prop} {sz : Nat} (ht : Tryz.prog.underlying t = some (.slice e)) (hc : Tryz.prog.cellsOf e = sz) (hp : 0 < sz) (h : Rd W t cs) (hel : ∀ ds, Rd W e ds → ∃ x : α, R W x ds) : ∃ A n c l, cs = [.slice A n c] ∧ Sl sz R W A n c l := by
  obtain ⟨A, n, c, h1, h2, h3, h4⟩ := rd_slice ht hc hp h
  obtain ⟨f, hf⟩ := choose_lt (α := α) (p := fun i x => ∃ b off ds, A = some ⟨b, off, none⟩ ∧ CellsAt W b (off + i * sz) ds ∧ ds.length = sz ∧ R W x ds) (n := n) (fun i hi => by
    obtain ⟨b, off, ds, k1, k2, k3, k4⟩ := h4 i hi
    obtain ⟨x, hx⟩ := hel ds k4
    exact ⟨x, b, off, ds, k1, k2, k3, hx⟩)
  refine ⟨A, n, c, (List.range n).map f, h1, by simp, h2, h3, fun i x hi => ?_⟩
  rw [List.getElem?_map] at hi
  cases hr : (List.range n)[i]? with
  | none => simp [hr] at hi
  | some j =>
    simp [hr] at hi
    obtain ⟨hi1, hi2⟩ := List.getElem?_eq_some_iff.1 hr
    simp at hi1 hi2
    subst hi2; subst hi
    exact hf i hi1
theorem len2 {l : List Value} (h : l.length = 2) : ∃ a b, l = [a, b] := by match l, h with | [a, b], _ => exact ⟨a, b, rfl⟩
theorem len4 {l : List Value} (h : l.length = 4) : ∃ a b c d, l = [a, b, c, d] := by match l, h with | [a, b, c, d], _ => exact ⟨a, b, c, d, rfl⟩
theorem one_eq {a b : Value} (h : [a] = [b]) : a = b := by injection h
theorem u32_wf {n : Int} (h : (Lit.int .u32 n).wf = true) : U32 n := by have := bounds_u32 h; exact ⟨by omega, by omega⟩
end
end Go.Proofs.YtacajpepkfinoaaGreatDoor
