/- AUDSLEY: what is found is good; and if any order is good, one is found; for all inputs. -/
import Derived.Test.YtabchkekhpmpiaaRankL
set_option linter.all false
namespace Go.Proofs.Ytabchkekhpmpiaa
open Go Go.Abs

theorem find_len (l : List Task) (s : Set) : (findV l s).1.length ≤ l.length := by
  rcases find_cases l s with ⟨a, e, h⟩ | ⟨e, h⟩ | ⟨e, h⟩
  · rw [e]; exact Nat.le_of_eq h.ord.len
  · rw [e]; exact Nat.zero_le _
  · rw [e]; exact Nat.zero_le _
noncomputable def cRkA : FuncId → Con := fun f => match f with
  | 27 => pureCon find_C
  | 21 => pureCon (detPC rklives_D)
  | 28 => pureCon (detPC good_D)
  | _ => fun _ _ _ => Bad 1001
theorem cRkA_ok : ConOk Try.prog cRkA := fun f A H K h => by
  unfold cRkA at h
  split at h
  · exact ⟨⟨Try.f27, Try.func27, by kernel_rfl, by kernel_rfl⟩, pureCon_ok find_ok h⟩
  · exact ⟨⟨Try.f21, Try.func21, by kernel_rfl, by kernel_rfl⟩, pureCon_ok rklives_ok h⟩
  · exact ⟨⟨Try.f28, Try.func28, by kernel_rfl, by kernel_rfl⟩, pureCon_ok good_ok h⟩
  · cases h
def dRkA : FuncId → Option Dt := fun f => match f with
  | _ => none
theorem dRkA_ok : DetOk Try.prog dRkA := fun f d h => by
  unfold dRkA at h
  split at h
  · cases h
set_option maxRecDepth 100000 in
set_option maxHeartbeats 4000000 in
theorem rkaud_vc (l : (List Task)) (o : (List Int)) (s : Set) (fit_l : Siz.fit l) (fit_o : Siz.fit o) (fit_s : Siz.fit s) (hB : Siz.bulk l + Siz.bulk o + Siz.bulk s ≤ 1048576) : FnOk Try.prog 5 [Leaf.av fun _ => l, Leaf.av fun _ => o, .agg (Dat.enc fun _ => s)] [] (outA (.bc true) []) := by
  refine fn_ok envOk zl cRkA_ok noDraws_ok (keep := [0, 1, 2, 5, 6, 7, 8, 9, 10, 11, 12, 28, 43]) Try.func5 rfl ?_
  have fin := @fin_b
  have finc := @fin_t
  have hl : l.length ≤ 1048576 ∧ o.length ≤ 1048576 ∧ s.spans.length ≤ 1048576 := by
    have h1 := bulk_len (α := Task) Task.one_le l
    have h2 := bulk_len (α := Int) (fun _ => Nat.le_refl _) o
    have h3 := bulk_len Span.one_le s.spans
    simp only [Siz.bulk] at hB h1 h2 h3
    omega
  generalize outA (.bc true) [] = K at fin finc
  cbv
  repeat' first | (show Stp _; exfalso; first | omega | (exact h ‹_›) | (exact absurd ‹_› h) | (exact Bool.false_ne_true (h.symm.trans (show _ = true by assumption)))) | (refine Stp.mk ?_; cbv) | (refine Gen.mk fun r hr => ?_; (try simp only [Dat.ok, Dat.dec, Leaf.ok, Leaf.val, Span.eta, Set.eta, Task.eta, Done.eta, Late.eta, val_sl, val_nil] at hr); cbv) | exact trivial | rfl | refine Both.mk ?_ ?_ | (refine Imp.mk fun h => ?_; (try dsimp only at h); (try simp only [nc, Int.toNat_natCast, Bool.not_eq_true', Bool.not_eq_false', decide_eq_true_eq, decide_eq_false_iff_not, beq_iff_eq, beq_eq_false_iff_ne, ba_inj, bne_iff_ne, ne_eq, Bool.and_eq_true, Bool.or_eq_true, Bool.and_eq_false_iff, Bool.or_eq_false_iff, Int.not_le, Int.not_lt, Nat.not_le, Nat.not_lt] at h); (try simp only [nc] at h)) | refine Ob.mk ?_ ?_ | refine Chk.mk (by kernel_rfl) ?_ | refine Eq'.mk ?_ | (refine AllN.mk fun i hi => ?_; cbv) | (refine AllS.mk fun r hr => ?_; (try simp only [Dat.ok, Dat.dec, Leaf.ok, Leaf.val, Span.eta, Set.eta, Task.eta, Done.eta, Late.eta, val_sl] at hr); cbv)
  all_goals ((try dsimp only at *); (try simp only [nc, Int.toNat_natCast, Bool.not_eq_true', Bool.not_eq_false', decide_eq_true_eq, decide_eq_false_iff_not, beq_iff_eq, beq_eq_false_iff_ne, ba_inj, bne_iff_ne, ne_eq, Bool.and_eq_true, Bool.or_eq_true, Bool.and_eq_false_iff, Bool.or_eq_false_iff, Int.not_le, Int.not_lt, Nat.not_le, Nat.not_lt] at *); (try simp only [nc] at *))
  all_goals try simp only [Dat.dec, Leaf.val, Span.eta, Set.eta, Task.eta, Done.eta, Late.eta, val_sl] at *
  all_goals try (rename (_ = findV _ _) => hq3; subst hq3)
  all_goals have hfl := find_len l s
  all_goals have hfc := find_cases l s
  all_goals first
    | exact finc
    | exact Nat.le_refl _
    | exact ⟨⟨rfl, fun i _ => Dat.hok _⟩, ⟨trivial, rfl, fun i _ => Dat.hok _⟩, show _ ≤ _ by omega, show _ ≤ _ by omega⟩
    | exact ⟨⟨rfl, fun i _ => Dat.hok _⟩, ⟨rfl, fun i _ => Dat.hok _⟩, ⟨trivial, rfl, fun i _ => Dat.hok _⟩, show _ ≤ _ by omega, show _ ≤ _ by omega, show _ ≤ _ by omega⟩
    | skip
  all_goals rcases hfc with ⟨a, e, hg⟩ | ⟨e, hn⟩ | ⟨e, e2, e3⟩
  all_goals try have e0 : (findV l s).2 = 0 := congrArg (·.2) e
  all_goals try have e1 : (findV l s).1 = a := congrArg (·.1) e
  all_goals try have e0 : (findV l s).2 = 11 := congrArg (·.2) e
  all_goals try have e1 : (findV l s).1 = [] := congrArg (·.1) e
  all_goals first
    | (exfalso; exact absurd e0 (by assumption))
    | (exfalso; have h11 : (findV l s).2 = 11 := (by assumption); omega)
    | (exfalso; have h11 : (findV l s).2 = 0 := (by assumption); omega)
    | (refine fin ?_; first | (rw [e1]; rfl) | (rw [e]; rfl))
    | (refine fin ?_
       have hgi := good_is (by assumption : (goodV l o s).2 = 0)
       cases hb : (goodV l o s).1 with
       | false => rfl
       | true => exact absurd (hgi.2.2 hb) (hn o))
    | (have e5 := good_go hg
       have e6 : goodV l (findV l s).1 s = (true, 0) := by rw [e1]; exact e5
       first
         | (exfalso; have h5 : ¬ (goodV l (findV l s).1 s).2 = 0 := (by assumption); exact h5 (congrArg (·.2) e6))
         | exact fin (congrArg (·.1) e6))
    | fail
section
open Go.ChangeShapes Go.WideShapes Go.ChangeAt Go.RowKit Go.Joins Go.Deep
set_option linter.unusedVariables false
theorem rkaud_own : ownKnob Try.prog.godebug = none := by kernel_rfl
theorem rkaud_laidOut : laidOutB Try.prog = true := by kernel_rfl
theorem rkaud_readOk {ts : Array TypeId} (h : ts.toList.all (fun t => Try.prog.readableRec t && decide (t < Try.prog.types.size)) = true) : ∀ t ∈ ts.toList, Try.prog.readableRec t = true ∧ t < Try.prog.types.size := fun t ht => by
  have := List.all_eq_true.1 h t ht
  simpa using this
mutual
theorem rkaud_bD {H : Type} : ∀ d : DataW H, Rows.uptoBulk d = bulkD d
  | .lit l => by cases l <;> simp [Rows.uptoBulk, bulkD]
  | .nil => by simp [Rows.uptoBulk, bulkD]
  | .ptr d => by simp [Rows.uptoBulk, bulkD, rkaud_bD d]
  | .slice a b => by simp [Rows.uptoBulk, bulkD, rkaud_bL a, rkaud_bL b]
  | .agg a => by simp [Rows.uptoBulk, bulkD, rkaud_bL a]
  | .iface _ d => by simp [Rows.uptoBulk, bulkD, rkaud_bD d]
  | .map e => by simp [Rows.uptoBulk, bulkD, rkaud_bE e]
  | .held _ => by simp [Rows.uptoBulk, bulkD]
theorem rkaud_bL {H : Type} : ∀ d : List (DataW H), Rows.uptoBulkAll d = bulkL d
  | [] => by simp [Rows.uptoBulkAll, bulkL]
  | d :: r => by simp [Rows.uptoBulkAll, bulkL, rkaud_bD d, rkaud_bL r]
theorem rkaud_bE {H : Type} : ∀ d : List (Lit × DataW H), Rows.uptoBulkEntries d = bulkE d
  | [] => by simp [Rows.uptoBulkEntries, bulkE]
  | d :: r => by simp [Rows.uptoBulkEntries, bulkE, rkaud_bX d, rkaud_bE r]
theorem rkaud_bX {H : Type} : ∀ d : Lit × DataW H, Rows.uptoBulkEntry d = bulkX d
  | (l, d) => by cases l <;> simp [Rows.uptoBulkEntry, bulkX, rkaud_bD d]
end
set_option maxRecDepth 100000 in
theorem rkaud_lifted (os : Os) (started : os.Started) (H : Type) (enc : TypeId × Value → H) (F : Stop.Interp) :
    ReturnsInHanded {} Try.checked os 5 .any ((Rows.OpenSpec.upto Rows.rankAudsleySpec).pre6 enc Try.prog Try.f5 Rows.rankAudsleyUptoRow.domain false) (((Rows.OpenSpec.upto Rows.rankAudsleySpec).at F).post enc Try.prog Try.f5 false true false false) := by
  refine returnsInHanded_of_cond (C := Try.checked) (s := Rows.OpenSpec.upto Rows.rankAudsleySpec) (k := Rows.uptoSmall) rfl rkaud_own started (by kernel_rfl) Try.func5
    (OpenSpec.witness (enc := enc) (C := Try.checked) (s := Rows.OpenSpec.upto Rows.rankAudsleySpec) (k := Rows.uptoSmall) rfl false ⟨#[], #[.slice none 0 0, .slice none 0 0, .agg #[.int .i64 0, .slice none 0 0]], []⟩ 8 (by kernel_rfl) (by kernel_rfl) (by kernel_rfl)
      (x := ([.nil, .nil, .agg [.lit (.int .i64 0), .nil]], [], [])) (by kernel_rfl) rfl (by kernel_rfl)) ?_
  intro W base args ds gs before hval0 hW _ hk _
  show Calls Try.prog 5 args W fun e W' => ∃ v, e = .returned v ∧ Rows.rankAudsleySpec.post enc Try.prog Try.f5 false true false false W args v W'
  have hval : ∀ (j : Nat) t v, Try.f5.params[j]? = some t → args[j]? = some v → Value.okWide Try.prog W .any base t v := hval0
  have hW' := hW
  have hlt := hW.lt
  obtain ⟨p, q, hA0, hV, rfl, hfz, hnd⟩ := hW
  have hA : DataW.TrodAll enc Try.prog W 0 (fun _ => true) true Try.f5.params.toList args.toList ds p := hA0
  have hA1 := hA
  rw [Try.params5] at hA hval
  obtain ⟨v0, vs0, d0, ds0, p0, q0, hargs, rfl, rfl, h0, r0⟩ := trodAll_cons hA
  obtain ⟨v1, vs1, d1, ds1, p1, q1, rfl, rfl, rfl, h1, r1⟩ := trodAll_cons r0
  obtain ⟨v2, vs2, d2, ds2, p2, q2, rfl, rfl, rfl, h2, r2⟩ := trodAll_cons r1
  obtain ⟨rfl, rfl, rfl⟩ := trodAll_nil r2
  obtain rfl : args = #[v0, v1, v2] := by cases args; simp_all
  obtain ⟨rfl, rfl⟩ := trodVars_none hV
  obtain ⟨z0, z'0, z''0, rfl⟩ := okWide_slice Try.underlying22 (hval 0 22 v0 rfl rfl)
  obtain ⟨y0, u0, b0, e0⟩ := arg_leaf (α := (List Task)) (opn_slice Try.underlying22 (by kernel_rfl) (by decide) opn_Task) rfl h0
  obtain ⟨z1, z'1, z''1, rfl⟩ := okWide_slice Try.underlying35 (hval 1 35 v1 rfl rfl)
  obtain ⟨y1, u1, b1, e1⟩ := arg_leaf (α := (List Int)) (opn_slice Try.underlying35 (by kernel_rfl) (by decide) (opn_int Try.underlying3)) rfl h1
  obtain ⟨cs2, rfl, _⟩ := okWide_struct Try.underlying25 (hval 2 25 v2 rfl rfl)
  obtain ⟨y2, u2, b2, e2⟩ := arg_agg (α := Set) opn_Set h2
  have hB : Siz.bulk y0 + Siz.bulk y1 + Siz.bulk y2 ≤ 1048576 := by
    have h := of_decide_eq_true hk
    rw [rkaud_bL] at h
    simp only [List.append_nil, bulkL] at h
    omega
  have hR := repL_cons (M := fun _ => False) (β := fun _ => none) (cp := fun _ => 0) (.c e0) (repL_cons (M := fun _ => False) (β := fun _ => none) (cp := fun _ => 0) (.c e1) (repL_cons (M := fun _ => False) (β := fun _ => none) (cp := fun _ => 0) (.c e2) (repL_nil)))
  refine (law_callsA (rkaud_vc y0 y1 y2 u0 u1 u2 hB) hR).mono fun e W' ⟨he, bel⟩ => ?_
  subst he
  exact ⟨_, rfl, _, _, _, [], _, [], hW', trodAll_mk1 (shut_bool Try.underlying4 _), trodAll_below rkaud_laidOut bel (rkaud_readOk (by kernel_rfl)) (fun x hx => hlt x (List.mem_append_left _ hx)) hA1, rfl, bel.frame _, fun h => by cases h⟩
theorem RankAudsley_proved : Rows.RankAudsleyUptoSaid :=
  OpenClaim.holds_of_cond 5 Try.f5 rfl rfl rfl rfl rfl rfl rfl ⟨rfl, rfl, rfl, rfl, rfl⟩ rfl rfl rfl rfl rfl (by kernel_rfl) Try.func5 (by kernel_rfl)
    (of_decide_eq_true (by kernel_rfl)) (by unfold Func.isWrapper; first | (rw [if_pos (by decide +kernel)]; kernel_rfl) | (rw [if_neg (by decide +kernel)]; exact ⟨rfl, rfl⟩))
    (fun os started H enc _ F => rkaud_lifted os started H enc F)
end

end Go.Proofs.Ytabchkekhpmpiaa
