/- Who stands there more often than half is told, and no one else; whatever others say; for all inputs. -/
import Derived.Test.YtpofgnocliaahaaMedP
import Derived.Test.YtpofgnocliaahaaRev
import Derived.Test.YtpofgnocliaahaaRepeat
set_option linter.all false
namespace Go.Proofs.Ytpofgnocliaahaa
open Go Go.Abs

noncomputable def cMB : FuncId → Con := fun f => match f with
  | 8 => pureCon (detPC most_D)
  | 9 => pureCon (detPC mlives_D)
  | 17 => pureCon rpStr_C
  | 18 => rvStr_K
  | _ => fun _ _ _ => Bad 1001
theorem cMB_ok : ConOk Try.prog cMB := fun f A H K h => by
  unfold cMB at h
  split at h
  · exact ⟨⟨Try.f8, Try.func8, by kernel_rfl, by kernel_rfl⟩, pureCon_ok most_ok h⟩
  · exact ⟨⟨Try.f9, Try.func9, by kernel_rfl, by kernel_rfl⟩, pureCon_ok mlives_ok h⟩
  · exact ⟨⟨Try.f17, Try.func17, by kernel_rfl, by kernel_rfl⟩, pureCon_ok rpStr_ok h⟩
  · exact ⟨⟨Try.f18, Try.func18, by kernel_rfl, by kernel_rfl⟩, rvStr_ok h⟩
  · cases h
def dMB : FuncId → Option Dt := fun f => match f with
  | _ => none
theorem dMB_ok : DetOk Try.prog dMB := fun f d h => by
  unfold dMB at h
  split at h
  · cases h
set_option maxRecDepth 100000 in
set_option maxHeartbeats 4000000 in
theorem mbest_vc (s : ByteArray) (n : Int) (o : (List ByteArray)) (fit_s : Siz.fit s) (fit_n : Siz.fit n) (fit_o : Siz.fit o) (hB : Siz.bulk s + Siz.bulk n + Siz.bulk o ≤ 1048576) : FnOk Try.prog 7 [.s fun _ => s, .i .i64 fun _ => n, Leaf.av fun _ => o] [] (outA (.bc true) []) := by
  refine fn_ok envOk zl cMB_ok (draws_ok envOk zl dMB_ok mixed) (keep := [0, 1, 2, 6, 7, 8, 9, 10, 11, 22, 44, 48]) Try.func7 rfl ?_
  have fin := @fin_b
  have finc := @fin_t
  have hl : o.length ≤ 1048576 := by
    have h2 := bulk_len (α := ByteArray) (fun _ => Nat.le_add_left _ _) o
    simp only [Siz.bulk] at hB h2
    omega
  generalize outA (.bc true) [] = K at fin finc
  cbv
  repeat' first | (show Stp _; exfalso; first | omega | (exact h ‹_›) | (exact absurd ‹_› h) | (exact Bool.false_ne_true (h.symm.trans (show _ = true by assumption)))) | (refine Stp.mk ?_; cbv) | (refine Gen.mk fun r hr => ?_; (try simp only [Dat.ok, Dat.dec, Leaf.ok, Leaf.val, val_sl, val_nil] at hr); cbv) | exact trivial | rfl | refine Both.mk ?_ ?_ | (refine Imp.mk fun h => ?_; (try dsimp only at h); (try simp only [nc, Int.toNat_natCast, Bool.not_eq_true', Bool.not_eq_false', decide_eq_true_eq, decide_eq_false_iff_not, beq_iff_eq, beq_eq_false_iff_ne, ba_inj, bne_iff_ne, ne_eq, Bool.and_eq_true, Bool.or_eq_true, Bool.and_eq_false_iff, Bool.or_eq_false_iff, Int.not_le, Int.not_lt, Nat.not_le, Nat.not_lt] at h); (try simp only [nc] at h)) | refine Ob.mk ?_ ?_ | refine Chk.mk (by kernel_rfl) ?_ | refine Eq'.mk ?_ | (refine AllN.mk fun i hi => ?_; cbv) | (refine AllS.mk fun r hr => ?_; (try simp only [Dat.ok, Dat.dec, Leaf.ok, Leaf.val, val_sl] at hr); cbv)
  all_goals ((try dsimp only at *); (try simp only [nc, Int.toNat_natCast, Bool.not_eq_true', Bool.not_eq_false', decide_eq_true_eq, decide_eq_false_iff_not, beq_iff_eq, beq_eq_false_iff_ne, ba_inj, bne_iff_ne, ne_eq, Bool.and_eq_true, Bool.or_eq_true, Bool.and_eq_false_iff, Bool.or_eq_false_iff, Int.not_le, Int.not_lt, Nat.not_le, Nat.not_lt] at *); (try simp only [nc] at *))
  all_goals have v1 : (slV (.sl 1 (fun _ => 1) fun _ => [.s fun _ => s]) : List ByteArray) = [s] := rfl
  all_goals try simp only [Leaf.val, val_sl, val_app (α := ByteArray) _ _ 1 _ _ rfl rfl rfl, v1] at *
  all_goals try (rename (_ = rpStr_S _ _) => hr; have hr2 := hr.symm; clear hr; subst hr2)
  all_goals try (rename (_ = rpStr_S _ _) => hr; have hr2 := hr.symm; clear hr; subst hr2)
  all_goals have er : rpStr_S [s] n = List.replicate n.toNat s := rfl
  all_goals try simp only [er] at *
  all_goals have vr := (val_len (α := ByteArray) (l := rvStr_F (List.replicate n.toNat s ++ o)) (n := (List.replicate n.toNat s).length + o.length) 1 (show _ = ((List.replicate n.toNat s ++ o).reverse).length by rw [List.length_reverse, List.length_append])).trans (show _ = (List.replicate n.toNat s ++ o).reverse from rfl)
  all_goals try simp only [vr] at *
  all_goals have hrl : (List.replicate n.toNat s).length = n.toNat := List.length_replicate
  all_goals first
    | exact finc
    | exact Nat.le_refl _
    | exact ⟨rfl, fun i _ => Dat.hok _⟩
    | exact ⟨⟨rfl, fun i _ => Dat.hok _⟩, show _ ≤ _ by omega⟩
    | exact ⟨Nat.le_refl _, trivial, by omega, by omega⟩
    | exact ⟨rfl, fun i _ => ok_row rfl (Dat.hok _) (Dat.hok _)⟩
    | exact ⟨⟨rfl, fun i _ => trivial⟩, show 1 = 1 ∧ 0 ≤ n ∧ n ≤ 1000000 by omega⟩
    | exact ⟨rfl, trivial, fun i _ => ok_row rfl (Dat.hok _) (Dat.hok _), show (List.replicate n.toNat s ++ o).length ≤ _ by rw [List.length_append]; omega⟩
    | exact ⟨⟨rfl, fun i _ => Dat.hok _⟩, show (List.replicate n.toNat s ++ o).reverse.length ≤ _ by rw [List.length_reverse, List.length_append]; omega⟩
    | (show _ ≤ ((List.replicate n.toNat s ++ o).reverse).length; simp; omega)
    | skip
  all_goals have hlr : (List.replicate n.toNat s ++ o).reverse.length = n.toNat + o.length := by rw [List.length_reverse, List.length_append, hrl]
  all_goals first
    | (exfalso; exact h (most_err.2 (by omega)))
    | (have hb := best_ok (s := s) (n := n) (o := o) (by omega) (by omega) (by omega) (by omega)
       first
         | exact fin (decide_eq_true hb.2.2)
         | (exfalso; exact h hb.2.1)
         | (exfalso; rw [hb.1] at h; exact Bool.noConfusion h))
    | (have q : ¬ (mostV (List.replicate n.toNat s ++ o).reverse).2.2.1 = true := fun e => by
         first
           | exact Bool.noConfusion (e.symm.trans h)
           | exact Bool.noConfusion (e.symm.trans (by assumption))
       have hn := most_none q
       first
         | exact fin (by rw [hn.2]; rfl)
         | (exfalso; exact h hn.1)
         | (exfalso; exact h hn.2)
         | (exfalso; exact absurd hn.2 (by assumption))
         | (exfalso; exact absurd (show (mostV (List.replicate n.toNat s ++ o).reverse).1 = (⟨⟨[]⟩⟩ : ByteArray) from hn.1) (by assumption)))
    | (have m1 := most_tell (l := (List.replicate n.toNat s ++ o).reverse) (by assumption)
       have c1 := cntS_bd (mostV (List.replicate n.toNat s ++ o).reverse).1 (List.replicate n.toNat s ++ o).reverse
       first
         | (unfold InR; omega)
         | (refine fin (decide_eq_true ?_); omega))
    | fail
section
open Go.ChangeShapes Go.WideShapes Go.ChangeAt Go.RowKit Go.Joins Go.Deep
set_option linter.unusedVariables false
theorem mbest_own : ownKnob Try.prog.godebug = none := by kernel_rfl
theorem mbest_laidOut : laidOutB Try.prog = true := by kernel_rfl
theorem mbest_readOk {ts : Array TypeId} (h : ts.toList.all (fun t => Try.prog.readableRec t && decide (t < Try.prog.types.size)) = true) : ∀ t ∈ ts.toList, Try.prog.readableRec t = true ∧ t < Try.prog.types.size := fun t ht => by
  have := List.all_eq_true.1 h t ht
  simpa using this
mutual
theorem mbest_bD {H : Type} : ∀ d : DataW H, Rows.uptoBulk d = bulkD d
  | .lit l => by cases l <;> simp [Rows.uptoBulk, bulkD]
  | .nil => by simp [Rows.uptoBulk, bulkD]
  | .ptr d => by simp [Rows.uptoBulk, bulkD, mbest_bD d]
  | .slice a b => by simp [Rows.uptoBulk, bulkD, mbest_bL a, mbest_bL b]
  | .agg a => by simp [Rows.uptoBulk, bulkD, mbest_bL a]
  | .iface _ d => by simp [Rows.uptoBulk, bulkD, mbest_bD d]
  | .map e => by simp [Rows.uptoBulk, bulkD, mbest_bE e]
  | .held _ => by simp [Rows.uptoBulk, bulkD]
theorem mbest_bL {H : Type} : ∀ d : List (DataW H), Rows.uptoBulkAll d = bulkL d
  | [] => by simp [Rows.uptoBulkAll, bulkL]
  | d :: r => by simp [Rows.uptoBulkAll, bulkL, mbest_bD d, mbest_bL r]
theorem mbest_bE {H : Type} : ∀ d : List (Lit × DataW H), Rows.uptoBulkEntries d = bulkE d
  | [] => by simp [Rows.uptoBulkEntries, bulkE]
  | d :: r => by simp [Rows.uptoBulkEntries, bulkE, mbest_bX d, mbest_bE r]
theorem mbest_bX {H : Type} : ∀ d : Lit × DataW H, Rows.uptoBulkEntry d = bulkX d
  | (l, d) => by cases l <;> simp [Rows.uptoBulkEntry, bulkX, mbest_bD d]
end
set_option maxRecDepth 100000 in
theorem mbest_lifted (os : Os) (started : os.Started) (H : Type) (enc : TypeId × Value → H) (F : Stop.Interp) :
    ReturnsInHanded {} Try.checked os 7 .any ((Rows.OpenSpec.upto Rows.medianBestSpec).pre6 enc Try.prog Try.f7 Rows.medianBestUptoRow.domain false) (((Rows.OpenSpec.upto Rows.medianBestSpec).at F).post enc Try.prog Try.f7 false true false false) := by
  refine returnsInHanded_of_cond (C := Try.checked) (s := Rows.OpenSpec.upto Rows.medianBestSpec) (k := Rows.uptoSmall) rfl mbest_own started (by kernel_rfl) Try.func7
    (OpenSpec.witness (enc := enc) (C := Try.checked) (s := Rows.OpenSpec.upto Rows.medianBestSpec) (k := Rows.uptoSmall) rfl false ⟨#[], #[.string .empty, .int .i64 0, .slice none 0 0], []⟩ 8 (by kernel_rfl) (by kernel_rfl) (by kernel_rfl)
      (x := ([.lit (.string []), .lit (.int .i64 0), .nil], [], [])) (by kernel_rfl) rfl (by kernel_rfl)) ?_
  intro W base args ds gs before hval0 hW _ hk _
  show Calls Try.prog 7 args W fun e W' => ∃ v, e = .returned v ∧ Rows.medianBestSpec.post enc Try.prog Try.f7 false true false false W args v W'
  have hval : ∀ (j : Nat) t v, Try.f7.params[j]? = some t → args[j]? = some v → Value.okWide Try.prog W .any base t v := hval0
  have hW' := hW
  have hlt := hW.lt
  obtain ⟨p, q, hA0, hV, rfl, hfz, hnd⟩ := hW
  have hA : DataW.TrodAll enc Try.prog W 0 (fun _ => true) true Try.f7.params.toList args.toList ds p := hA0
  have hA1 := hA
  rw [Try.params7] at hA hval
  obtain ⟨v0, vs0, d0, ds0, p0, q0, hargs, rfl, rfl, h0, r0⟩ := trodAll_cons hA
  obtain ⟨v1, vs1, d1, ds1, p1, q1, rfl, rfl, rfl, h1, r1⟩ := trodAll_cons r0
  obtain ⟨v2, vs2, d2, ds2, p2, q2, rfl, rfl, rfl, h2, r2⟩ := trodAll_cons r1
  obtain ⟨rfl, rfl, rfl⟩ := trodAll_nil r2
  obtain rfl : args = #[v0, v1, v2] := by cases args; simp_all
  obtain ⟨rfl, rfl⟩ := trodVars_none hV
  obtain ⟨z0, rfl⟩ := okWide_string Try.underlying9 (hval 0 9 v0 rfl rfl)
  obtain ⟨y0, u0, b0, e0⟩ := arg_leaf (α := ByteArray) (opn_str Try.underlying9) rfl h0
  obtain ⟨z1, rfl⟩ := okWide_int Try.underlying3 (hval 1 3 v1 rfl rfl)
  obtain ⟨y1, u1, b1, e1⟩ := arg_leaf (α := Int) (opn_int Try.underlying3) rfl h1
  obtain ⟨z2, z'2, z''2, rfl⟩ := okWide_slice Try.underlying22 (hval 2 22 v2 rfl rfl)
  obtain ⟨y2, u2, b2, e2⟩ := arg_leaf (α := (List ByteArray)) (opn_slice Try.underlying22 (by kernel_rfl) (by decide) (opn_str Try.underlying9)) rfl h2
  have hB : Siz.bulk y0 + Siz.bulk y1 + Siz.bulk y2 ≤ 1048576 := by
    have h := of_decide_eq_true hk
    rw [mbest_bL] at h
    simp only [List.append_nil, bulkL] at h
    omega
  have hR := repL_cons (M := fun _ => False) (β := fun _ => none) (cp := fun _ => 0) (.c e0) (repL_cons (M := fun _ => False) (β := fun _ => none) (cp := fun _ => 0) (.c e1) (repL_cons (M := fun _ => False) (β := fun _ => none) (cp := fun _ => 0) (.c e2) (repL_nil)))
  refine (law_callsA (mbest_vc y0 y1 y2 u0 u1 u2 hB) hR).mono fun e W' ⟨he, bel⟩ => ?_
  subst he
  exact ⟨_, rfl, _, _, _, [], _, [], hW', trodAll_mk1 (shut_bool Try.underlying4 _), trodAll_below mbest_laidOut bel (mbest_readOk (by kernel_rfl)) (fun x hx => hlt x (List.mem_append_left _ hx)) hA1, rfl, bel.frame _, fun h => by cases h⟩
theorem MedianBest_proved : Rows.MedianBestUptoSaid :=
  OpenClaim.holds_of_cond 7 Try.f7 rfl rfl rfl rfl rfl rfl rfl ⟨rfl, rfl, rfl, rfl, rfl⟩ rfl rfl rfl rfl rfl (by kernel_rfl) Try.func7 (by kernel_rfl)
    (of_decide_eq_true (by kernel_rfl)) (by unfold Func.isWrapper; first | (rw [if_pos (by decide +kernel)]; kernel_rfl) | (rw [if_neg (by decide +kernel)]; exact ⟨rfl, rfl⟩))
    (fun os started H enc _ F => mbest_lifted os started H enc F)
end

end Go.Proofs.Ytpofgnocliaahaa
