/- A pair, plain: who claims above all, works and sends long enough, lets all out. -/
import Derived.Test.YtddkjgdfjkklcaaDoorPairN
set_option linter.all false
namespace Go.Proofs.YtddkjgdfjkklcaaDoor
open Go Go.Abs

variable {code : List Ins} {log L : List Int} {f g c k W K T : Nat} {v : Vm} {o : List Emit} {r s : Int} {n : Int} {p : Pair} {w E : Int} {x : Node}
theorem run_T (hT : (runM code 5000 (mac0 v0 log)).2 = T) : runM code T (mac0 v0 log) = runM code 5000 (mac0 v0 log) := by
  have := run_used (p := code) 5000 (mac0 v0 log)
  rw [hT, Int.toNat_natCast] at this
  exact this
theorem at_top (hT : (runM code 5000 (mac0 v0 log)).2 = T) (h5 : T < 5000) (h : At code log f v o r) : f ≤ T := by
  refine Nat.le_of_not_lt fun q => ?_
  have hs := run_less (p := code) 5000 (mac0 v0 log) (by omega)
  have ha := run_add (p := code) T (f - T) (mac0 v0 log)
  rw [show T + (f - T) = f by omega, run_T hT, run_stuck hs] at ha
  have h1 := h.1
  rw [ha, hT] at h1
  dsimp only at h1
  omega
theorem at_fin (hT : (runM code 5000 (mac0 v0 log)).2 = T) (h5 : T < 5000) (h : At code log f v o r) (hs : stuck code (runM code f (mac0 v0 log)).1) : f = T := by
  have q := at_top hT h5 h
  have ha := run_add (p := code) f (5000 - f) (mac0 v0 log)
  rw [show f + (5000 - f) = 5000 by omega, run_stuck hs] at ha
  have h1 := h.1
  rw [ha] at hT
  dsimp only at hT
  omega
theorem at_full (hT : (runM code 5000 (mac0 v0 log)).2 = T) (h : At code log T v o r) : o = (runM code 5000 (mac0 v0 log)).1.out := by
  rw [← run_T hT]; exact h.2.2.1.symm
theorem at_prog (h : At code log f v o r) : (runM code 50 (mac0 v ((log.drop r.toNat).take 1))).2 = 50 ∨ (((log.drop r.toNat).take 1).length : Int) - ((runM code 50 (mac0 v ((log.drop r.toNat).take 1))).1.inp.length : Int) = 1 ∨
    stuck code (runM code (f + (runM code 50 (mac0 v ((log.drop r.toNat).take 1))).2.toNat) (mac0 v0 log)).1 := by
  obtain ⟨r0, r1, ri⟩ := at_read h
  obtain ⟨a1, a2, a3, a4⟩ := h
  have hL1 : ((log.drop r.toNat).take 1).length ≤ 1 := by rw [List.length_take]; omega
  have hR : (log.drop r.toNat).take 1 = [] → (log.drop r.toNat).drop 1 = [] := fun q => by
    cases hd : log.drop r.toNat with
    | nil => rfl
    | cons x t => rw [hd] at q; cases q
  have hl : (log.drop r.toNat).take 1 ++ (log.drop r.toNat).drop 1 = (runM code f (mac0 v0 log)).1.inp := by rw [ri]; exact List.take_append_drop ..
  generalize (log.drop r.toNat).take 1 = L at *
  generalize (log.drop r.toNat).drop 1 = rest at *
  have bS := run_bd (p := code) 50 (mac0 v L)
  have us := run_used (p := code) 50 (mac0 v L)
  have e1 : runM code (runM code 50 (mac0 v L)).2.toNat (mac0 v (L ++ rest)) = _ := run_more (p := code) rest (runM code 50 (mac0 v L)).2.toNat (mac0 v L)
  rw [us, Nat.sub_self] at e1
  have z : ∀ m, runM code 0 m = (m, 0) := fun _ => rfl
  rw [z] at e1
  have e2 := run_on (p := code) (runM code 50 (mac0 v L)).2.toNat (runM code f (mac0 v0 log)).1 (runM code f (mac0 v0 log)).1.inp
  rw [a2, ← hl, e1, hl] at e2
  have e3 : ({ (runM code f (mac0 v0 log)).1 with inp := (runM code f (mac0 v0 log)).1.inp } : Mac) = (runM code f (mac0 v0 log)).1 := rfl
  rw [e3] at e2
  have ea := run_add (p := code) f (runM code 50 (mac0 v L)).2.toNat (mac0 v0 log)
  rw [e2] at ea
  rw [ea]
  by_cases k5 : (runM code 50 (mac0 v L)).2 = 50
  · exact .inl k5
  have hs := run_less (p := code) 50 (mac0 v L) (by omega)
  generalize runM code 50 (mac0 v L) = S at *
  rcases hs with hs | hs | hs
  · exact .inr (.inr (.inl hs))
  · exact .inr (.inr (.inr (.inl hs)))
  · by_cases hi : isIn code S.1
    · obtain ⟨g, g1, g2⟩ := step_in hi
      cases hp : S.1.inp with
      | cons x t =>
        have q := g2 x t S.1.out
        rw [← hp] at q
        have q : stepM code S.1 = _ := q
        rw [hs] at q; cases q
      | nil =>
        by_cases hL0 : L = []
        · refine .inr (.inr (.inr (.inr ?_)))
          dsimp only
          rw [hR hL0]
          exact g1 _
        · refine .inr (.inl ?_)
          have : L.length ≠ 0 := fun q => hL0 (List.length_eq_zero_iff.1 q)
          simp only [List.length_nil]
          omega
    · obtain ⟨m', h'⟩ := step_not hi
      have q := h' S.1.inp S.1.out
      have q : stepM code S.1 = _ := q
      rw [hs] at q; cases q
structure Own (code : List Ins) (n : Int) (c : Nat) (p : Pair) (w E : Int) (L : List Int) : Prop where
  ok : PrOk code n c p
  fe : p.fence = ⟨E, w⟩
  ne : (getN p w).epoch = E
  lg : p.log = L
  w0 : 0 ≤ w
  w1 : w < n
  e0 : 1 ≤ E
theorem Own.lt (h : Own code n c p w E L) : w < p.nodes.length := by have := h.ok.ln; have := h.w1; omega
theorem Own.nz (h : Own code n c p w E L) : ¬ (getN p w).epoch = 0 := by rw [h.ne]; have := h.e0; omega
theorem Own.pass (h : Own code n c p w E L) (hn : n ≤ 4) : (passS p.fence w (getN p w).epoch).1 = true := by
  have t : passS p.fence w (getN p w).epoch = _ := (h.ok.pass (a := ⟨3, w, 0⟩) hn h.w0 h.lt h.nz).2
  rw [t]
  show (p.fence.epoch == (getN p w).epoch && p.fence.owner == w) = true
  rw [h.fe, h.ne]; simp
theorem get_set {p : Pair} {y : Node} {l : List Int} {fe : Fence} {sv : List Node} {ga : Gate} (h0 : 0 ≤ w) (h1 : w < p.nodes.length) : getN ⟨l, fe, p.nodes.set w.toNat y, sv, ga⟩ w = y := by
  show (p.nodes.set _ _).getD _ _ = _
  rw [getD_setN, if_pos ⟨rfl, by omega⟩]
theorem own_claim (h : PrOk code n c p) (hc : checkP code = 0) (hn : n ≤ 4) (hcc : c < 100) (w0 : 0 ≤ w) (w1 : w < n) (hE : p.fence.epoch < E) (e0 : 1 ≤ E) (e1 : E ≤ 2147483647) :
    Own code n (c + 1) (actA code p ⟨2, w, E⟩).1 w E p.log ∧ (getN (actA code p ⟨2, w, E⟩).1 w).sent = 0 := by
  have hl := h.ln
  have h1 : w < p.nodes.length := by omega
  have A := (h.act (a := ⟨2, w, E⟩) hc hn hcc).1
  have hm : mayV p.fence w E = 0 := may0 h.fc (by unfold whoB; rw [decide_eq_true w0, decide_eq_true (show w ≤ 255 by omega)]; rfl) (by unfold epB; rw [decide_eq_true e0, decide_eq_true e1]; rfl)
  have es : claimS p.fence w E = (⟨E, w⟩, true, 0) := by rw [claimS, if_pos hm, if_pos hE]
  have eg : claimG p.gate w E = (⟨⟨E, w⟩, p.gate.out⟩, true, 0) := by unfold claimG; rw [if_pos (h.gc (by omega)), h.fg, es]; rfl
  have e := (act_2 (code := code) (p := p) (a := ⟨2, w, E⟩) rfl w0 h1).trans (claim_3 (by show (claimS p.fence w E).2.2 = 0; rw [es]) (by show (claimS p.fence w E).2.1 = true; rw [es]) (by show (claimG p.gate w E).2.1 = true; rw [eg]))
  dsimp only at e
  rw [es, eg] at e
  rw [e] at A ⊢
  have G := fun y => get_set (p := p) (w := w) (y := y) (l := p.log) (fe := ⟨E, w⟩) (sv := p.saved) (ga := ⟨⟨E, w⟩, p.gate.out⟩) w0 h1
  exact ⟨⟨A, rfl, by dsimp only; rw [G], rfl, w0, w1, e0⟩, by dsimp only; rw [G]⟩
theorem own_work (h : Own code n c p w E L) (hc : checkP code = 0) (hn : n ≤ 4) (hcc : c < 100) : Own code n (c + 1) (actA code p ⟨3, w, 0⟩).1 w E L ∧
    getN (actA code p ⟨3, w, 0⟩).1 w = ⟨E, (wrkA code p (getN p w)).1, (getN p w).read + (wrkA code p (getN p w)).2.2.1, (getN p w).outs ++ (wrkA code p (getN p w)).2.1, (getN p w).sent⟩ := by
  have h1 := h.lt
  have A := (h.ok.act (a := ⟨3, w, 0⟩) hc hn hcc).1
  have he := h.ok.errN hc (h.ok.at h.w0 h1) (by omega)
  have ez : (wrkA code p (getN p w)).2.2.2.2 = 0 := by rw [wrk_of he]
  have e := (act_3 (code := code) (p := p) (a := ⟨3, w, 0⟩) rfl h.w0 h1).trans (work_3 h.nz (h.pass hn) ez)
  have G : getN (actA code p ⟨3, w, 0⟩).1 w = ⟨(getN p w).epoch, (wrkA code p (getN p w)).1, (getN p w).read + (wrkA code p (getN p w)).2.2.1, (getN p w).outs ++ (wrkA code p (getN p w)).2.1, (getN p w).sent⟩ := by rw [e]; exact get_set h.w0 h1
  refine ⟨⟨A, by rw [e]; exact h.fe, by rw [G]; exact h.ne, by rw [e]; exact h.lg, h.w0, h.w1, h.e0⟩, ?_⟩
  rw [G, h.ne]
def Pot (code : List Ins) (L : List Int) (T k : Nat) (x : Node) : Prop := ∃ f : Nat, At code L f x.vm x.outs x.read ∧ (f = T ∨ ∃ a b : Nat, k ≤ a + b ∧ 50 * a ≤ f ∧ (b : Int) ≤ x.read)
theorem pot_next (hT : (runM code 5000 (mac0 v0 p.log)).2 = T) (h5 : T < 5000) (he : errV code x.vm (inA p x) 50 = 0) (h : Pot code p.log T k x) :
    Pot code p.log T (k + 1) ⟨E, (wrkA code p x).1, x.read + (wrkA code p x).2.2.1, x.outs ++ (wrkA code p x).2.1, s⟩ := by
  obtain ⟨f, q, hh⟩ := h
  have X := wrk_ok he q
  have ft := at_top hT h5 X
  have P : (runM code 50 (mac0 x.vm (inA p x))).2 = 50 ∨ ((inA p x).length : Int) - ((runM code 50 (mac0 x.vm (inA p x))).1.inp.length : Int) = 1 ∨ stuck code (runM code (f + (runM code 50 (mac0 x.vm (inA p x))).2.toNat) (mac0 v0 p.log)).1 := at_prog q
  have il : (runM code 50 (mac0 x.vm (inA p x))).1.inp.length ≤ (inA p x).length := (run_inp (p := code) 50 (mac0 x.vm (inA p x))).1
  have ec : (wrkA code p x).2.2.1 = ((inA p x).length : Int) - ((runM code 50 (mac0 x.vm (inA p x))).1.inp.length : Int) := by rw [wrk_of he]
  refine ⟨_, X, ?_⟩
  dsimp only
  rcases hh with hh | ⟨a, b, q1, q2, q3⟩
  · exact .inl (by omega)
  rcases P with P | P | P
  · exact .inr ⟨a + 1, b, by omega, by omega, by omega⟩
  · exact .inr ⟨a, b + 1, by omega, by omega, by omega⟩
  · exact .inl (at_fin hT h5 X P)
theorem pot_done (hT : (runM code 5000 (mac0 v0 L)).2 = T) (h5 : T < 5000) (h : Pot code L T W x) (hW : T + 50 * L.length < 50 * W) : x.outs = (runM code 5000 (mac0 v0 L)).1.out := by
  obtain ⟨f, q, hh⟩ := h
  have ft := at_top hT h5 q
  have rd := at_read q
  rcases hh with hh | ⟨a, b, q1, q2, q3⟩
  · subst hh; exact at_full hT q
  · omega
theorem own_works (hc : checkP code = 0) (hn : n ≤ 4) (hT : (runM code 5000 (mac0 v0 L)).2 = T) (h5 : T < 5000) : ∀ (k : Nat) {c : Nat} {p : Pair} {j : Nat}, Own code n c p w E L → c + k ≤ 100 → Pot code L T j (getN p w) → (getN p w).sent = 0 →
    Own code n (c + k) (runA code p (List.replicate k ⟨3, w, 0⟩)) w E L ∧ Pot code L T (j + k) (getN (runA code p (List.replicate k ⟨3, w, 0⟩)) w) ∧ (getN (runA code p (List.replicate k ⟨3, w, 0⟩)) w).sent = 0
  | 0, _, _, _, h, _, hp, hs => ⟨h, hp, hs⟩
  | k + 1, c, p, j, h, hk, hp, hs => by
    obtain ⟨g1, g2⟩ := own_work h hc hn (by omega)
    have he := h.ok.errN hc (h.ok.at h.w0 h.lt) (by omega)
    have pn : Pot code L T (j + 1) (getN (actA code p ⟨3, w, 0⟩).1 w) := by
      rw [g2]
      have hl := h.lg
      subst hl
      exact pot_next hT h5 he hp
    have := own_works hc hn hT h5 k (j := j + 1) g1 (by omega) pn (by rw [g2]; exact hs)
    rw [show c + (k + 1) = c + 1 + k by omega, show j + (k + 1) = j + 1 + k by omega]
    exact this
theorem text_short {e : Emit} (h : okE e) : longB (textV e) = false := by
  have h1 := itoaB_size h.1
  have h2 := itoaB_size h.2
  have : (textV e).size ≤ 43 := by unfold textV; rw [ByteArray.size_append, ByteArray.size_append, sp_size]; omega
  exact decide_eq_false (by omega)
theorem own_send (h : Own code n c p w E L) (hc : checkP code = 0) (hn : n ≤ 4) (hcc : c < 100) (hs : (getN p w).sent < (getN p w).outs.length) (hg : (getN p w).sent ≤ p.gate.out.length) (hO : ∀ e ∈ (getN p w).outs, okE e) :
    Own code n (c + 1) (actA code p ⟨4, w, 0⟩).1 w E L ∧ getN (actA code p ⟨4, w, 0⟩).1 w = ⟨E, (getN p w).vm, (getN p w).read, (getN p w).outs, (getN p w).sent + 1⟩ ∧ (getN p w).sent + 1 ≤ (actA code p ⟨4, w, 0⟩).1.gate.out.length := by
  have h1 := h.lt
  have A := (h.ok.act (a := ⟨4, w, 0⟩) hc hn hcc).1
  have N := (h.ok.at h.w0 h1).2
  have k2 : ¬ (getN p w).sent = (getN p w).outs.length := by omega
  have k3 : (handG p.gate (giveA p ⟨4, w, 0⟩)).2.2 = 0 := (h.ok.wrong (a := ⟨4, w, 0⟩) hn h.w0 h1 h.nz k2 hcc).2.2 (by rw [h.fe]; show _ = Fence.mk (getN p w).epoch w; rw [h.ne]) hg (by
    show longB (textV ((getN p w).outs.getD (getN p w).sent.toNat Dat.d0)) = false
    refine text_short (hO _ ?_)
    rw [List.getD_eq_getElem?_getD, List.getElem?_eq_getElem (show (getN p w).sent.toNat < (getN p w).outs.length by omega)]; exact List.getElem_mem _)
  have e := (act_4 (code := code) (p := p) (a := ⟨4, w, 0⟩) rfl h.w0 h1).trans (send_4 h.nz k2 k3)
  have G : getN (actA code p ⟨4, w, 0⟩).1 w = ⟨(getN p w).epoch, (getN p w).vm, (getN p w).read, (getN p w).outs, (getN p w).sent + 1⟩ := by rw [e]; exact get_set h.w0 h1
  refine ⟨⟨A, by rw [e]; exact h.fe, by rw [G]; exact h.ne, by rw [e]; exact h.lg, h.w0, h.w1, h.e0⟩, by rw [G, h.ne], ?_⟩
  rw [e]
  show (getN p w).sent + 1 ≤ ((handG p.gate (giveA p ⟨4, w, 0⟩)).1.out.length : Nat)
  obtain ⟨-, -, g3⟩ := handG_ok k3
  rcases g3 with ⟨g3, g10⟩ | ⟨g3, g10⟩
  · rw [g10]
    have g3 : (getN p w).sent < p.gate.out.length := g3
    dsimp only; omega
  · rw [g10]
    have g3 : (getN p w).sent = p.gate.out.length := g3
    dsimp only
    rw [List.length_append, List.length_singleton]; omega
theorem own_sends (hc : checkP code = 0) (hn : n ≤ 4) {O : List Emit} (hO : ∀ e ∈ O, okE e) : ∀ (k : Nat) {c : Nat} {p : Pair}, Own code n c p w E L → c + k ≤ 100 → (getN p w).outs = O → (getN p w).sent = (O.length : Int) - k → (getN p w).sent ≤ p.gate.out.length →
    Own code n (c + k) (runA code p (List.replicate k ⟨4, w, 0⟩)) w E L ∧ O.length ≤ (runA code p (List.replicate k ⟨4, w, 0⟩)).gate.out.length
  | 0, _, p, h, _, hs, ht, hg => ⟨h, by show O.length ≤ p.gate.out.length; omega⟩
  | k + 1, c, p, h, hk, hs, ht, hg => by
    obtain ⟨g1, g2, g3⟩ := own_send h hc hn (by omega) (by rw [hs, ht]; omega) hg (by rw [hs]; exact hO)
    have := own_sends hc hn hO k g1 (by omega) (by rw [g2]; exact hs) (by rw [g2]; show (getN p w).sent + 1 = _; omega) (by rw [g2]; exact g3)
    rw [show c + (k + 1) = c + 1 + k by omega]
    exact this
theorem told_fin (h : (toldV code log).2 = true) : (runV code v0 log 5000).2.2.2.2 = 0 ∧ (runV code v0 log 5000).2.2.2.1 < 5000 := by
  unfold toldV at h
  simp at h
  exact h
theorem all_law {l pre more : List PairAct} (h : (playA code n l).2.2 = 0) (w0 : 0 ≤ w) (w1 : w < n) (hE : (playA code n l).1.fence.epoch < E) (e0 : 1 ≤ E) (e1 : E ≤ 2147483647) (ht : (toldV code (playA code n l).1.log).2 = true)
    (hW : (runV code v0 (playA code n l).1.log 5000).2.2.2.1 + 50 * (playA code n l).1.log.length < 50 * W) (hp : pre = [] ∨ pre = [⟨7, w, 0⟩])
    (hm : more = l ++ pre ++ [⟨2, w, E⟩] ++ List.replicate W ⟨3, w, 0⟩ ++ List.replicate (toldV code (playA code n l).1.log).1.length ⟨4, w, 0⟩) (hl : more.length ≤ 100) :
    (playA code n more).2.2 = 0 ∧ (playA code n more).1.gate.out = (toldV code (playA code n l).1.log).1 := by
  obtain ⟨h1, h2, h3, h4, h5⟩ := play_ok h
  have P := play_st h
  obtain ⟨t1, t2⟩ := told_fin ht
  generalize hq : (playA code n l).1 = q at *
  have hll := P.ll
  have er : runV code v0 q.log 5000 = _ := runV_of (err_v0 (fuel := 5000) h1 P.lg (by omega) (by omega) (by omega))
  have eT : (toldV code q.log).1 = (runM code 5000 (mac0 v0 q.log)).1.out.map textV := told_out h1 P.lg (by omega)
  have hb := run_bd (p := code) 5000 (mac0 v0 q.log)
  rw [er] at hW t2
  dsimp only at hW t2
  rw [show (5000 : Int).toNat = 5000 from rfl] at hW t2
  obtain ⟨T, hT⟩ : ∃ T : Nat, (runM code 5000 (mac0 v0 q.log)).2 = T := ⟨(runM code 5000 (mac0 v0 q.log)).2.toNat, by omega⟩
  rw [hT] at hW t2
  have hO : ∀ e ∈ (runM code 5000 (mac0 v0 q.log)).1.out, okE e := by
    have := runV_okE (code := code) (v := v0) (log := q.log) (f := 5000)
    rw [er] at this
    exact this
  have hlen := congrArg List.length hm
  simp only [List.length_append, List.length_replicate, List.length_singleton] at hlen
  have B : ∃ c, c ≤ l.length + pre.length ∧ PrOk code n c (runA code q pre) ∧ (runA code q pre).log = q.log ∧ (runA code q pre).fence = q.fence := by
    rcases hp with hp | hp
    · subst hp; exact ⟨l.length, by simp, P, rfl, rfl⟩
    · subst hp
      have hn := P.ln
      have e : actA code q ⟨7, w, 0⟩ = (putN q w nd0, 0) := act_7 (show ¬ (7 : Int) = 1 by decide) (show 1 ≤ (7 : Int) ∧ (7 : Int) ≤ 7 by decide) rfl (show ¬ (7 : Int) = 5 by decide) w0 (by show w < _; omega)
      have A := (P.act (a := ⟨7, w, 0⟩) h1 h3 (by simp at hlen; omega)).1
      refine ⟨l.length + 1, by simp, A, ?_, ?_⟩
      · show (actA code q ⟨7, w, 0⟩).1.log = _
        rw [e]; rfl
      · show (actA code q ⟨7, w, 0⟩).1.fence = _
        rw [e]; rfl
  obtain ⟨c, hc, B1, B2, B3⟩ := B
  obtain ⟨C1, C2⟩ := own_claim (E := E) B1 h1 h3 (by omega) w0 w1 (by rw [B3]; exact hE) e0 e1
  rw [B2] at C1
  have N := C1.ok.at C1.w0 C1.lt
  obtain ⟨⟨f, -, N⟩, -⟩ := N
  rw [C1.lg] at N
  obtain ⟨D1, D2, D3⟩ := own_works h1 h3 hT (by omega) W (j := 0) C1 (by omega) ⟨f, N, .inr ⟨0, 0, Nat.le_refl _, Nat.zero_le _, (at_read N).1⟩⟩ C2
  rw [Nat.zero_add] at D2
  have D4 := pot_done hT (by omega) D2 (by omega)
  rw [eT, List.length_map] at hm hlen
  obtain ⟨F1, F2⟩ := own_sends h1 h3 hO (runM code 5000 (mac0 v0 q.log)).1.out.length D1 (by omega) D4 (by rw [D3]; omega) (by rw [D3]; omega)
  have em : playA code n more = (runA code (p0 n) more, ansA code (p0 n) more, 0) := by
    unfold playA
    rw [if_neg (fun q => q h1), if_neg (by omega), if_neg (by omega)]
  have eR : runA code (p0 n) more = runA code (runA code (actA code (runA code q pre) ⟨2, w, E⟩).1 (List.replicate W ⟨3, w, 0⟩)) (List.replicate (runM code 5000 (mac0 v0 q.log)).1.out.length ⟨4, w, 0⟩) := by
    have hq2 : q = runA code (p0 n) l := by rw [← hq, h5]
    rw [hm, runA_app, runA_app, runA_app, runA_app, ← hq2]; rfl
  rw [em]
  refine ⟨rfl, ?_⟩
  show (runA code (p0 n) more).gate.out = _
  rw [eR, eT]
  obtain ⟨f2, v2, o2, r2, g1, g2, g3⟩ := F1.ok.ge
  rw [F1.lg] at g2
  have := at_top hT (by omega) g2
  refine List.IsPrefix.eq_of_length_le (g3.trans ((at_pre g2 (by omega)).map _)) ?_
  rw [List.length_map]; exact F2

end Go.Proofs.YtddkjgdfjkklcaaDoor
