/- Parts that live. -/
import Derived.Test.YtbnpacdkllmblaaPartE
set_option linter.all false
namespace Go.Proofs.Ytbnpacdkllmblaa
open Go Go.Abs

theorem lowDL_live {h : Hp} {g : AV → Option (List (Th Prop) × List Nat × AV)} (hg : ∀ x q d y, g x = some (q, d, y) → ∀ b ∈ d, ∃ o, h[b]? = some o ∧ o.live = true) : ∀ l q d l', lowDL g l = some (q, d, l') → ∀ b ∈ d, ∃ o, h[b]? = some o ∧ o.live = true
  | [], q, d, l', hl, b, hb => by
    simp only [lowDL, Option.some.injEq, Prod.mk.injEq] at hl
    obtain ⟨_, rfl, _⟩ := hl
    cases hb
  | x :: r, q, d, l', hl, b, hb => by
    simp only [lowDL] at hl
    split at hl
    · rename_i q1 d1 y q2 d2 l2 h1 h2
      simp only [Option.some.injEq, Prod.mk.injEq] at hl
      obtain ⟨_, rfl, _⟩ := hl
      rcases List.mem_append.1 hb with hb | hb
      · exact hg x _ _ _ h1 b hb
      · exact lowDL_live hg r _ _ _ h2 b hb
    · cases hl
theorem lowD_live {h : Hp} : ∀ e x q d y, lowD e h x = some (q, d, y) → ∀ b ∈ d, ∃ o, h[b]? = some o ∧ o.live = true
  | 0, x, q, d, y, hl => lower_live x q d y hl
  | e + 1, x, q, d, y, hl => by
    have ih := lowDL_live fun x q d y => lowD_live (h := h) e x q d y
    unfold lowD at hl
    split at hl
    · rename_i b n
      split at hl
      · rename_i cs hb
        split at hl
        · rename_i q' d' cs' hlow
          split at hl
          · simp only [Option.some.injEq, Prod.mk.injEq] at hl
            obtain ⟨_, rfl, _⟩ := hl
            intro c hc
            rcases List.mem_cons.1 hc with rfl | hc
            · exact ⟨_, nth_some hb rfl, rfl⟩
            · exact ih cs _ _ _ hlow c hc
          · cases hl
        · cases hl
      · exact lower_live _ _ _ _ hl
    · rename_i l
      split at hl
      · rename_i q' d' l' hlow
        simp only [Option.some.injEq, Prod.mk.injEq] at hl
        obtain ⟨_, rfl, _⟩ := hl
        exact ih l _ _ _ hlow
      · cases hl
    · exact lower_live _ _ _ _ hl
theorem frozD {P : Program} {f : FuncId} {A : List AV} {K : Kont} {r0 : AV} {H0 : Hp} (hf : FnOk P f A [] (outLe 0 r0 H0 [])) {q : List (Th Prop)} {d : List Nat} {r1 : AV} (hl : lowD 3 H0 r0 = some (q, d, r1)) (hq : ∀ p ∈ q, p ()) (hc : closed r1 = true) (hK : K r1 [] []) : FnOk P f A [] K := by
  intro w M β cp vs hh hA
  refine ((FnOk.le (K := fun r H kl => r = r0 ∧ H = H0 ∧ kl = []) hf rfl ⟨rfl, rfl, rfl⟩) w M β cp vs hh hA).mono ?_
  rintro e w' ⟨v, r, H', kl, M', β', cp', rfl, ⟨rfl, rfl, rfl⟩, hh', hak, hrep⟩
  have hr := lowD_rep hh' 3 _ q d r1 hl hq (fun _ h => h) v hrep
  have hlv := lowD_live 3 _ q d r1 hl
  refine ⟨v, r1, [], [], fun k => M' k ∧ ¬ Lent w' H' β' d k, fun _ => none, fun _ => 0, rfl, hK, ⟨fun _ _ => rfl, fun b o hb => by simp at hb, fun b b' o o' g g' k hb => by simp at hb, hh'.dom.less fun k hk => hk.1⟩,
    ⟨fun k hk hM => ⟨(hak.keep k hk hM).1, fun h => (hak.keep k hk hM).2 h.1⟩, fun b _ hb => absurd (hh.out b (Nat.zero_le _)) hb, ⟨hak.ext.os, hak.ext.tape, hak.ext.output, hak.ext.size, hak.ext.block, fun k hs hB hk => ⟨hak.ext.sub k hs hB hk, ?_⟩, fun k hk => hak.ext.new k hk.1⟩, ?_⟩, .c (closed_rep hr hc)⟩
  · rintro ⟨b, hb, g, hg, hft⟩
    obtain ⟨o, ho, hol⟩ := hlv b hb
    have e9 : nth .dead H' b = o := by rw [nth_eq, List.getD_eq_getElem?_getD, ho]; rfl
    rw [e9] at hft
    rcases hak.own k ⟨b, o, g, ho, hol, hg, hft⟩ with ⟨b', o', _, hb', _⟩ | h1
    · simp at hb'
    · have := hh.dom.lt k hk; omega
  · rintro g ⟨b, o, _, hb, _⟩
    simp at hb
def twoH : Hp := [.dead, .vec 48 3 (fun _ => 3) (rowN 3 [.i .i64 fun _ => 9, .i .i64 fun _ => 1, .i .i64 fun _ => 0, .i .i64 fun _ => 10, .i .i64 fun _ => 1, .i .i64 fun _ => 0, .i .i64 fun _ => 6, .i .i64 fun _ => 0, .i .i64 fun _ => 0]),
  .vec 3 1 (fun _ => 8) fun _ => [.i .i64 fun _ => 0], .dead, .vec 63 3 (fun _ => 2) (rowN 3 [.i .i64 fun _ => 0, .i .i64 fun _ => 2, .i .i64 fun _ => 0, .i .i64 fun _ => 2, .i .i64 fun _ => 1, .i .i64 fun _ => 1]), .vec 3 1 (fun _ => 1) fun _ => [.i .i64 fun _ => 5],
  .blk [.own 1 fun _ => 3, .i .i64 fun _ => 0, .own 2 fun _ => 8, .bc false, .bc false, .own 5 fun _ => 1, .own 1 fun _ => 1, .i .i64 fun _ => 0, .own 2 fun _ => 8, .bc false, .bc false, .nil], .vec 39 3 (fun _ => 1) fun _ => [.i .i64 fun _ => 0, .i .i64 fun _ => 0, .i .i64 fun _ => 1]]
def twoA : AV := .agg [.i .i64 fun _ => 4, .own 4 fun _ => 2, .own 6 fun _ => 2, .own 7 fun _ => 1, .i .i64 fun _ => 0, .i .i64 fun _ => 0]
set_option maxRecDepth 100000 in
set_option maxHeartbeats 4000000 in
theorem two_vc : FnOk Try.prog 33 [] [] (outLe 0 twoA twoH []) := by
  refine fn_ok envOk zl noCon_ok (drawsN_ok envOk zl dSe_ok mixed) (keep := [0, 1, 2]) Try.func33 rfl ?_
  cbv
  repeat' first | (refine Stp.mk ?_; cbv) | (refine Gen.mk fun r hr => ?_; (try simp only [Dat.ok, Dat.dec, Leaf.ok, Leaf.val, Z0, Z1, Z2, Z3, Z4, Z5, Z6, Z7, val_sl, val_nil] at hr); cbv) | exact trivial | rfl | refine Both.mk ?_ ?_ | (refine Imp.mk fun h => ?_; (try dsimp only at h); (try simp only [nc, Int.toNat_natCast, ne_eq, zz] at h); (try simp only [nc] at h)) | refine Ob.mk ?_ ?_ | refine Chk.mk (by kernel_rfl) ?_ | refine Eq'.mk ?_ | (refine AllN.mk fun i hi => ?_; cbv) | (refine AllC.mk fun c hc hcm => ?_; (try dsimp only at hc); cbv) | (refine AllS.mk fun r hr => ?_; (try simp only [Dat.ok, Dat.dec, Leaf.ok, Leaf.val, Z0, Z1, Z2, Z3, Z4, Z5, Z6, Z7, val_sl] at hr); cbv)
  all_goals try first
    | exact ⟨rfl, by decide, by decide⟩
    | exact ⟨by decide, by decide, by decide, by decide⟩
    | exact rfl
  all_goals (
    rcases i with _ | _ | _ | i
    all_goals try (exfalso; omega)
    all_goals cbv
    repeat' first | (refine Stp.mk ?_; cbv) | (refine Gen.mk fun r hr => ?_; (try simp only [Dat.ok, Dat.dec, Leaf.ok, Leaf.val, Z0, Z1, Z2, Z3, Z4, Z5, Z6, Z7, val_sl, val_nil] at hr); cbv) | exact trivial | rfl | refine Both.mk ?_ ?_ | (refine Imp.mk fun h => ?_; (try dsimp only at h); (try simp only [nc, Int.toNat_natCast, ne_eq, zz] at h); (try simp only [nc] at h)) | refine Ob.mk ?_ ?_ | refine Chk.mk (by kernel_rfl) ?_ | refine Eq'.mk ?_ | (refine AllN.mk fun i hi => ?_; cbv) | (refine AllC.mk fun c hc hcm => ?_; (try dsimp only at hc); cbv) | (refine AllS.mk fun r hr => ?_; (try simp only [Dat.ok, Dat.dec, Leaf.ok, Leaf.val, Z0, Z1, Z2, Z3, Z4, Z5, Z6, Z7, val_sl] at hr); cbv))
def twoP : Module := ⟨⟨4, [⟨0, 2, 0⟩, ⟨2, 1, 1⟩]⟩, [⟨[⟨9, 1, 0⟩, ⟨10, 1, 0⟩, ⟨6, 0, 0⟩], ⟨0, List.replicate 8 0, false, false⟩, [5]⟩, ⟨[⟨9, 1, 0⟩], ⟨0, List.replicate 8 0, false, false⟩, []⟩], [⟨0, 0, 1⟩], 0, 0⟩
def twoC_R (r : Th (Module)) : AV := .agg [.i .i64 fun _ => (r ()).table.frame, Leaf.av fun _ => (r ()).table.windows, Leaf.av fun _ => (r ()).parts, Leaf.av fun _ => (r ()).wires, .i .i64 fun _ => (r ()).now, .i .i64 fun _ => (r ()).lost]
def twoC_D : Det := fun A => match A with
  | [] => some (fun _ => True, twoC_R fun _ => twoP )
  | _ => none
theorem twoC_vc : FnOk Try.prog 33 [] [] (outA (twoC_R fun _ => twoP) []) := by
  refine frozD two_vc (q := _) (d := _) (r1 := _) rfl ?_ rfl ?_
  · intro p hp
    repeat (first | (cases hp; done) | (rcases List.mem_cons.1 hp with rfl | hp; · first | exact Nat.le_refl _ | decide | rfl))
  cbv
  repeat' first
    | exact trivial
    | exact rfl
    | refine Both.mk ?_ ?_
    | refine Eq'.mk ?_
    | (refine AllN.mk fun i hi => ?_
       rcases i with _ | _ | _ | _ | _ | _ | _ | _ | i
       all_goals first
         | exact absurd hi (by decide)
         | exact absurd hi (Nat.not_lt.2 (Nat.le_trans (by decide) (Nat.le_add_left 8 i)))
         | cbv)
    | (refine Imp.mk fun h => ?_
       first
         | exact absurd h (by decide)
         | skip)
    | (refine Stp.mk ?_; cbv)
  all_goals fail
theorem twoC_ok : PcOk Try.prog 33 (detPC twoC_D) := det_okA fun A p r h hp0 => by
  unfold twoC_D at h
  split at h
  · cases h
    exact ⟨rfl, FnOk.pre (A' := []) (twoC_vc ) (trivial)⟩
  · cases h
def runG_R (r : Th (Module × Int)) : AV := .tup [.agg [.i .i64 fun _ => (r ()).1.table.frame, Leaf.av fun _ => (r ()).1.table.windows, Leaf.av fun _ => (r ()).1.parts, Leaf.av fun _ => (r ()).1.wires, .i .i64 fun _ => (r ()).1.now, .i .i64 fun _ => (r ()).1.lost], .i .i64 fun _ => (r ()).2]
def runG_H (r : Th (Module × Int)) : Hp := []
def runG_P (m : Module) (n : Int) : Prop := mchkC_P m
def runG_C : PC := fun A K => match A with
  | [.agg m, .i .i64 n] => Ob (fun _ => Dat.ok Module m ∧ runG_P (Dat.dec m) (n ())) (Gen (α := Module × Int) (fun _ => runPV (Dat.dec m) (n ())) fun r => K (runG_R fun _ => r) (runG_H fun _ => r))
  | _ => Bad 1002
theorem runG_vc (m : Module) (n : Int) (hp : mchkC_P m) : FnOk Try.prog 18 [.agg (Dat.enc fun _ => m), .i .i64 fun _ => n] [] (outA (runG_R fun _ => runPV m n) []) := runC_vc m n hp
theorem runG_ok : PcOk Try.prog 18 (runG_C) := fun A K h => by
  unfold runG_C at h
  split at h
  · rename_i m n
    cases h with
    | mk h1 h2 =>
      obtain ⟨g0, hp⟩ := h1
      refine FnOk.pre ?_ (A' := [.agg (Dat.enc fun _ => (Dat.dec m : Module)), .i .i64 fun _ => n ()]) (.mk (Dat.hle _ g0) (.mk (.mk (.mk rfl) (.mk rfl)) (trivial)))
      exact FnOk.out (K := fun r H _ => K r H) (runG_vc (Dat.dec m) (n ()) hp) rfl h2.out
  · cases h
noncomputable def cPL : FuncId → Con := fun f => match f with
  | 33 => pureCon (detPC twoC_D)
  | 18 => pureCon runG_C
  | 17 => pureCon (detPC eqInt_D)
  | _ => fun _ _ _ => Bad 1001
theorem cPL_ok : ConOk Try.prog cPL := fun f A H K h => by
  unfold cPL at h
  split at h
  · exact ⟨⟨Try.f33, Try.func33, by kernel_rfl, by kernel_rfl⟩, pureCon_ok twoC_ok h⟩
  · exact ⟨⟨Try.f18, Try.func18, by kernel_rfl, by kernel_rfl⟩, pureCon_ok runG_ok h⟩
  · exact ⟨⟨Try.f17, Try.func17, by kernel_rfl, by kernel_rfl⟩, pureCon_ok eqInt_ok h⟩
  · cases h
theorem plive2 : runPV twoP 2 = (⟨⟨4, [⟨0, 2, 0⟩, ⟨2, 1, 1⟩]⟩, [⟨[⟨9, 1, 0⟩, ⟨10, 1, 0⟩, ⟨6, 0, 0⟩], ⟨2, [0, 5, 0, 0, 0, 0, 0, 0], false, false⟩, []⟩, ⟨[⟨9, 1, 0⟩], ⟨0, [0, 0, 0, 0, 0, 0, 0, 0], false, false⟩, [5]⟩], [⟨0, 0, 1⟩], 2, 0⟩, 0) := by decide +kernel
theorem plive3 : runPV twoP 3 = (⟨⟨4, [⟨0, 2, 0⟩, ⟨2, 1, 1⟩]⟩, [⟨[⟨9, 1, 0⟩, ⟨10, 1, 0⟩, ⟨6, 0, 0⟩], ⟨2, [0, 5, 0, 0, 0, 0, 0, 0], false, false⟩, []⟩, ⟨[⟨9, 1, 0⟩], ⟨1, [0, 5, 0, 0, 0, 0, 0, 0], false, false⟩, []⟩], [⟨0, 0, 1⟩], 3, 0⟩, 0) := by decide +kernel
attribute [local irreducible] runPV
def ptLives_R (r : Th (Bool)) : AV := .bc true
def ptLives_D : Det := fun A => match A with
  | [] => some (fun _ => True, ptLives_R fun _ => true )
  | _ => none
set_option maxRecDepth 100000 in
set_option maxHeartbeats 4000000 in
theorem ptLives_vc  : FnOk Try.prog 10 [] [] (outA (ptLives_R fun _ => true ) []) := by
  refine fn_ok envOk zl cPL_ok noDraws_ok (keep := [0, 1, 2, 3, 4]) Try.func10 rfl ?_
  cbv
  repeat' first | (refine Stp.mk ?_; cbv) | (refine Gen.mk fun r hr => ?_; (try simp only [Dat.ok, Dat.dec, Leaf.ok, Leaf.val, Z0, Z1, Z2, Z3, Z4, Z5, Z6, Z7, val_sl, val_nil] at hr); cbv) | exact trivial | rfl | refine Both.mk ?_ ?_ | (refine Imp.mk fun h => ?_; (try dsimp only at h); (try simp only [nc, Int.toNat_natCast, ne_eq, zz] at h); (try simp only [nc] at h)) | refine Ob.mk ?_ ?_ | refine Chk.mk (by kernel_rfl) ?_ | refine Eq'.mk ?_ | (refine AllN.mk fun i hi => ?_; cbv) | (refine AllC.mk fun c hc hcm => ?_; (try dsimp only at hc); cbv) | (refine AllS.mk fun r hr => ?_; (try simp only [Dat.ok, Dat.dec, Leaf.ok, Leaf.val, Z0, Z1, Z2, Z3, Z4, Z5, Z6, Z7, val_sl] at hr); cbv)
  all_goals try (rename (_ = runPV _ 2) => z1; have z1' := z1.trans plive2; clear z1; subst z1')
  all_goals try (rename (_ = runPV _ 3) => z1; have z1' := z1.trans plive3; clear z1; subst z1')
  all_goals try first
    | exact ⟨Dat.hok fun _ => twoP, by decide, by decide, by decide, by decide⟩
    | exact Nat.le_refl _
    | decide +kernel
    | (exfalso; revert h; decide +kernel)
    | (exfalso; rename (¬ _) => z; revert z; decide +kernel)
    | (exfalso; rename (eqInt_S _ _ = false) => z; revert z; decide +kernel)
    | exact ⟨⟨rfl, fun i _ => Dat.hok _⟩, ⟨rfl, fun i (hi : i < 1) => trivial⟩, by show (_ : Nat) ≤ _; decide⟩
  all_goals fail
theorem ptLives_ok : PcOk Try.prog 10 (detPC ptLives_D) := det_okA fun A p r h hp0 => by
  unfold ptLives_D at h
  split at h
  · cases h
    exact ⟨rfl, FnOk.pre (A' := []) (ptLives_vc ) (trivial)⟩
  · cases h

end Go.Proofs.Ytbnpacdkllmblaa
