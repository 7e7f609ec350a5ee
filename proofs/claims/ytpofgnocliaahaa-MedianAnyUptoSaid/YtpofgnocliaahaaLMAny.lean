/- It is no matter in what order they measured; more of each moves it as much; more faults never take it out of what there was; for all inputs. -/
import Derived.Test.YtpofgnocliaahaaMedP
import Derived.Test.YtpofgnocliaahaaRev
set_option linter.all false
namespace Go.Proofs.Ytpofgnocliaahaa
open Go Go.Abs

def addU (c : Int) (l : List Int) (k : Nat) : List Int := lst l.length fun i => if i < k then l.getD i Dat.d0 + c else l.getD i Dat.d0
theorem addU_len (c : Int) (l : List Int) (k : Nat) : (addU c l k).length = l.length := lst_len _ _
theorem addU_get {c : Int} {l : List Int} {k i : Nat} (h : i < l.length) : (addU c l k).getD i Dat.d0 = if i < k then l.getD i Dat.d0 + c else l.getD i Dat.d0 := lst_get h
theorem addU_zero (c : Int) (l : List Int) : addU c l 0 = l := lst_eq (d := Dat.d0) rfl fun i hi => by rw [if_neg (by omega)]
theorem addU_done {c : Int} {l : List Int} {k : Nat} (h : l.length ≤ k) : addU c l k = l.map (· + c) := by
  refine lst_eq (d := Dat.d0) (by simp) fun i hi => ?_
  rw [if_pos (by omega), map_getD hi]
theorem addU_step {c : Int} {l : List Int} {k i : Nat} (hi : i < l.length) : (addU c l (k + 1)).getD i Dat.d0 = bif decide (i = k) then (addU c l k).getD k Dat.d0 + c else (addU c l k).getD i Dat.d0 := by
  by_cases h : i = k
  · subst h
    rw [addU_get hi, addU_get hi, if_pos (by omega), if_neg (by omega)]
    simp
  · rw [addU_get hi, addU_get hi]
    simp only [h, decide_false, cond_false]
    by_cases h2 : i < k
    · rw [if_pos (by omega), if_pos h2]
    · rw [if_neg (by omega), if_neg h2]
noncomputable def cMA : FuncId → Con := fun f => match f with
  | 11 => pureCon (detPC mid_D)
  | 9 => pureCon (detPC mlives_D)
  | 12 => pureCon clInt_C
  | 15 => rvInt_K
  | 13 => pureCon (detPC mnI_D)
  | 14 => pureCon (detPC mxI_D)
  | _ => fun _ _ _ => Bad 1001
theorem cMA_ok : ConOk Try.prog cMA := fun f A H K h => by
  unfold cMA at h
  split at h
  · exact ⟨⟨Try.f11, Try.func11, by kernel_rfl, by kernel_rfl⟩, pureCon_ok mid_ok h⟩
  · exact ⟨⟨Try.f9, Try.func9, by kernel_rfl, by kernel_rfl⟩, pureCon_ok mlives_ok h⟩
  · exact ⟨⟨Try.f12, Try.func12, by kernel_rfl, by kernel_rfl⟩, pureCon_ok clInt_ok h⟩
  · exact ⟨⟨Try.f15, Try.func15, by kernel_rfl, by kernel_rfl⟩, rvInt_ok h⟩
  · exact ⟨⟨Try.f13, Try.func13, by kernel_rfl, by kernel_rfl⟩, pureCon_ok mnI_ok h⟩
  · exact ⟨⟨Try.f14, Try.func14, by kernel_rfl, by kernel_rfl⟩, pureCon_ok mxI_ok h⟩
  · cases h
def dMA : FuncId → Option Dt := fun f => match f with
  | _ => none
theorem dMA_ok : DetOk Try.prog dMA := fun f d h => by
  unfold dMA at h
  split at h
  · cases h
set_option maxRecDepth 100000 in
set_option maxHeartbeats 4000000 in
theorem many_vc (l : (List Int)) (f : Int) (c : Int) (fit_l : Siz.fit l) (fit_f : Siz.fit f) (fit_c : Siz.fit c) (hB : Siz.bulk l + Siz.bulk f + Siz.bulk c ≤ 1048576) : FnOk Try.prog 5 [Leaf.av fun _ => l, .i .i64 fun _ => f, .i .i64 fun _ => c] [] (outA (.bc true) []) := by
  refine fn_ok envOk zl cMA_ok (draws_ok envOk zl dMA_ok mixed) (keep := [0, 1, 2, 6, 7, 8, 9, 10, 11, 12, 13, 14, 15, 16, 17, 38, 57, 58, 59, 97]) Try.func5 rfl ?_
  have fin := @fin_b
  have finc := @fin_t
  have hl : l.length ≤ 1048576 := by
    have h2 := bulk_len (α := Int) (fun _ => Nat.le_add_left _ _) l
    simp only [Siz.bulk] at hB h2
    omega
  generalize outA (.bc true) [] = K at fin finc
  cbv
  repeat' first | (show Stp _; exfalso; first | omega | (exact h ‹_›) | (exact absurd ‹_› h) | (exact Bool.false_ne_true (h.symm.trans (show _ = true by assumption)))) | (refine Stp.mk ?_; cbv) | (refine Gen.mk fun r hr => ?_; (try simp only [Dat.ok, Dat.dec, Leaf.ok, Leaf.val, val_sl, val_nil] at hr); cbv) | exact trivial | rfl | refine Both.mk ?_ ?_ | (refine Imp.mk fun h => ?_; (try dsimp only at h); (try simp only [nc, Int.toNat_natCast, Bool.not_eq_true', Bool.not_eq_false', decide_eq_true_eq, decide_eq_false_iff_not, beq_iff_eq, beq_eq_false_iff_ne, ba_inj, bne_iff_ne, ne_eq, Bool.and_eq_true, Bool.or_eq_true, Bool.and_eq_false_iff, Bool.or_eq_false_iff, Int.not_le, Int.not_lt, Nat.not_le, Nat.not_lt] at h); (try simp only [nc] at h)) | refine Ob.mk ?_ ?_ | refine Chk.mk (by kernel_rfl) ?_ | refine Eq'.mk ?_ | (refine AllN.mk fun i hi => ?_; cbv) | (refine AllS.mk fun r hr => ?_; (try simp only [Dat.ok, Dat.dec, Leaf.ok, Leaf.val, val_sl] at hr); cbv)
  all_goals ((try dsimp only at *); (try simp only [nc, Int.toNat_natCast, Bool.not_eq_true', Bool.not_eq_false', decide_eq_true_eq, decide_eq_false_iff_not, beq_iff_eq, beq_eq_false_iff_ne, ba_inj, bne_iff_ne, ne_eq, Bool.and_eq_true, Bool.or_eq_true, Bool.and_eq_false_iff, Bool.or_eq_false_iff, Int.not_le, Int.not_lt, Nat.not_le, Nat.not_lt] at *); (try simp only [nc] at *))
  all_goals try simp only [Leaf.val, val_sl] at *
  all_goals try (have hq2 : _ = r := hr.symm; clear hr; subst hq2)
  all_goals try (rename (_ = l) => hq3; have hq2 := hq3.symm; clear hq3; subst hq2)
  all_goals first
    | exact finc
    | exact Nat.le_refl _
    | exact ⟨rfl, fun i _ => Dat.hok _⟩
    | exact ⟨⟨rfl, fun i _ => Dat.hok _⟩, show _ ≤ _ by omega⟩
    | exact ⟨rfl, trivial, fun i _ => Dat.hok _, show _ ≤ _ by omega⟩
    | (have hn := mid_no (by assumption)
       first
         | exact fin (by rw [hn.2]; rfl)
         | (exfalso; exact absurd hn.1 (by assumption))
         | (exfalso; exact absurd hn.2 (by assumption)))
    | skip
  have hrl : l.reverse.length = l.length := List.length_reverse
  have hm1 := mid_tell (by assumption : (midV l f).2.2 = 0)
  have hwl : ∀ i, i < l.length → -1099511627776 ≤ l.getD i Dat.d0 ∧ l.getD i Dat.d0 ≤ 1099511627776 := by
    intro i hi
    rw [List.getD_eq_getElem?_getD, List.getElem?_eq_getElem hi]
    exact wide_of (by simpa using List.any_eq_false.1 hm1.2.2.2.1 _ (List.getElem_mem hi))
  have hwr : ∀ i, i < l.reverse.length → -1099511627776 ≤ l.reverse.getD i Dat.d0 ∧ l.reverse.getD i Dat.d0 ≤ 1099511627776 := by
    intro i hi
    have : l.reverse.getD i Dat.d0 = l.getD (l.length - 1 - i) Dat.d0 := by
      rw [List.getD_eq_getElem?_getD, List.getD_eq_getElem?_getD, List.getElem?_reverse (by omega)]
    rw [this]
    exact hwl _ (by omega)
  refine LoopVC.frame [11, 58, 59] (Σ' k : Nat, k ≤ l.length) (fun x => [(58, .i .i64 fun _ => x.1), (10, .own 0 fun _ => l.length)]) (fun x => [(0, vecO 3 fun _ => addU c l.reverse x.1)]) [] (fun x => l.length - x.1) ⟨0, Nat.zero_le _⟩ rfl (fun _ => rfl) ?_ ?_ fun ⟨k, hk⟩ => ?_
  · cbv
    repeat' first | (refine Stp.mk ?_; cbv) | (refine Gen.mk fun r hr => ?_; (try simp only [Dat.ok, Dat.dec, Leaf.ok, Leaf.val, val_sl, val_nil] at hr); cbv) | exact trivial | rfl | refine Both.mk ?_ ?_ | (refine Imp.mk fun h => ?_; (try dsimp only at h); (try simp only [nc, Int.toNat_natCast, Bool.not_eq_true', Bool.not_eq_false', decide_eq_true_eq, decide_eq_false_iff_not, beq_iff_eq, beq_eq_false_iff_ne, ba_inj, bne_iff_ne, ne_eq, Bool.and_eq_true, Bool.or_eq_true, Bool.and_eq_false_iff, Bool.or_eq_false_iff, Int.not_le, Int.not_lt, Nat.not_le, Nat.not_lt] at h); (try simp only [nc] at h)) | refine Ob.mk ?_ ?_ | refine Chk.mk (by kernel_rfl) ?_ | refine Eq'.mk ?_ | (refine AllN.mk fun i hi => ?_; cbv) | (refine AllS.mk fun r hr => ?_; (try simp only [Dat.ok, Dat.dec, Leaf.ok, Leaf.val, val_sl] at hr); cbv)
  · cbv
    repeat' first | (refine Stp.mk ?_; cbv) | (refine Gen.mk fun r hr => ?_; (try simp only [Dat.ok, Dat.dec, Leaf.ok, Leaf.val, val_sl, val_nil] at hr); cbv) | exact trivial | rfl | refine Both.mk ?_ ?_ | (refine Imp.mk fun h => ?_; (try dsimp only at h); (try simp only [nc, Int.toNat_natCast, Bool.not_eq_true', Bool.not_eq_false', decide_eq_true_eq, decide_eq_false_iff_not, beq_iff_eq, beq_eq_false_iff_ne, ba_inj, bne_iff_ne, ne_eq, Bool.and_eq_true, Bool.or_eq_true, Bool.and_eq_false_iff, Bool.or_eq_false_iff, Int.not_le, Int.not_lt, Nat.not_le, Nat.not_lt] at h); (try simp only [nc] at h)) | refine Ob.mk ?_ ?_ | refine Chk.mk (by kernel_rfl) ?_ | refine Eq'.mk ?_ | (refine AllN.mk fun i hi => ?_; cbv) | (refine AllS.mk fun r hr => ?_; (try simp only [Dat.ok, Dat.dec, Leaf.ok, Leaf.val, val_sl] at hr); cbv)
    all_goals ((try dsimp only at *); (try simp only [nc, Int.toNat_natCast, Bool.not_eq_true', Bool.not_eq_false', decide_eq_true_eq, decide_eq_false_iff_not, beq_iff_eq, beq_eq_false_iff_ne, ba_inj, bne_iff_ne, ne_eq, Bool.and_eq_true, Bool.or_eq_true, Bool.and_eq_false_iff, Bool.or_eq_false_iff, Int.not_le, Int.not_lt, Nat.not_le, Nat.not_lt] at *); (try simp only [nc] at *))
    all_goals first
      | (rw [addU_len]; done)
      | (rw [addU_zero]; done)
      | (show (l.reverse).getD _ Dat.d0 = _; rw [addU_zero]; done)
      | (rw [addU_len]; rfl)
      | (rw [addU_len]; exact List.length_reverse)
      | (rw [addU_zero]; rfl)
      | fail
  · have hal : (addU c l.reverse k).length = l.length := by rw [addU_len]; exact hrl
    have hg : k < l.length → (addU c l.reverse k).getD k Dat.d0 = l.reverse.getD k Dat.d0 := fun h => by rw [addU_get (by omega), if_neg (by omega)]
    cbv
    repeat' first | (show Stp _; exfalso; first | omega | (exact h ‹_›) | (exact absurd ‹_› h) | (exact Bool.false_ne_true (h.symm.trans (show _ = true by assumption)))) | (refine Stp.mk ?_; cbv) | (refine Gen.mk fun r hr => ?_; (try simp only [Dat.ok, Dat.dec, Leaf.ok, Leaf.val, val_sl, val_nil] at hr); cbv) | exact trivial | rfl | refine Both.mk ?_ ?_ | (refine Imp.mk fun h => ?_; (try dsimp only at h); (try simp only [nc, Int.toNat_natCast, Bool.not_eq_true', Bool.not_eq_false', decide_eq_true_eq, decide_eq_false_iff_not, beq_iff_eq, beq_eq_false_iff_ne, ba_inj, bne_iff_ne, ne_eq, Bool.and_eq_true, Bool.or_eq_true, Bool.and_eq_false_iff, Bool.or_eq_false_iff, Int.not_le, Int.not_lt, Nat.not_le, Nat.not_lt] at h); (try simp only [nc] at h)) | refine Ob.mk ?_ ?_ | refine Chk.mk (by kernel_rfl) ?_ | refine Eq'.mk ?_ | (refine AllN.mk fun i hi => ?_; cbv) | (refine AllS.mk fun r hr => ?_; (try simp only [Dat.ok, Dat.dec, Leaf.ok, Leaf.val, val_sl] at hr); cbv)
    all_goals ((try dsimp only at *); (try simp only [nc, Int.toNat_natCast, Bool.not_eq_true', Bool.not_eq_false', decide_eq_true_eq, decide_eq_false_iff_not, beq_iff_eq, beq_eq_false_iff_ne, ba_inj, bne_iff_ne, ne_eq, Bool.and_eq_true, Bool.or_eq_true, Bool.and_eq_false_iff, Bool.or_eq_false_iff, Int.not_le, Int.not_lt, Nat.not_le, Nat.not_lt] at *); (try simp only [nc] at *))
    all_goals try rw [nc] at *
    all_goals try simp only [Leaf.val, val_sl] at *
    all_goals first
      | exact finc
      | omega
      | (unfold InR; omega)
      | exact ⟨⟨rfl, fun i _ => Dat.hok _⟩, show _ ≤ _ by omega⟩
      | exact ⟨⟨rfl, fun i _ => Dat.hok _⟩, show 0 < l.length ∧ l.length ≤ _ by omega⟩
      | (have hk2 : k < l.length := by omega
         have h1 := hg hk2
         have h2 := hwr k (by omega)
         first
           | (unfold InR; omega)
           | (refine ⟨⟨k + 1, by omega⟩, ?_, ?_, rfl, by (try dsimp only); omega⟩
              · cbv
                repeat' first | (refine Stp.mk ?_; cbv) | (refine Gen.mk fun r hr => ?_; (try simp only [Dat.ok, Dat.dec, Leaf.ok, Leaf.val, val_sl, val_nil] at hr); cbv) | exact trivial | rfl | refine Both.mk ?_ ?_ | (refine Imp.mk fun h => ?_; (try dsimp only at h); (try simp only [nc, Int.toNat_natCast, Bool.not_eq_true', Bool.not_eq_false', decide_eq_true_eq, decide_eq_false_iff_not, beq_iff_eq, beq_eq_false_iff_ne, ba_inj, bne_iff_ne, ne_eq, Bool.and_eq_true, Bool.or_eq_true, Bool.and_eq_false_iff, Bool.or_eq_false_iff, Int.not_le, Int.not_lt, Nat.not_le, Nat.not_lt] at h); (try simp only [nc] at h)) | refine Ob.mk ?_ ?_ | refine Chk.mk (by kernel_rfl) ?_ | refine Eq'.mk ?_ | (refine AllN.mk fun i hi => ?_; cbv) | (refine AllS.mk fun r hr => ?_; (try simp only [Dat.ok, Dat.dec, Leaf.ok, Leaf.val, val_sl] at hr); cbv)
              · cbv
                repeat' first | (refine Stp.mk ?_; cbv) | (refine Gen.mk fun r hr => ?_; (try simp only [Dat.ok, Dat.dec, Leaf.ok, Leaf.val, val_sl, val_nil] at hr); cbv) | exact trivial | rfl | refine Both.mk ?_ ?_ | (refine Imp.mk fun h => ?_; (try dsimp only at h); (try simp only [nc, Int.toNat_natCast, Bool.not_eq_true', Bool.not_eq_false', decide_eq_true_eq, decide_eq_false_iff_not, beq_iff_eq, beq_eq_false_iff_ne, ba_inj, bne_iff_ne, ne_eq, Bool.and_eq_true, Bool.or_eq_true, Bool.and_eq_false_iff, Bool.or_eq_false_iff, Int.not_le, Int.not_lt, Nat.not_le, Nat.not_lt] at h); (try simp only [nc] at h)) | refine Ob.mk ?_ ?_ | refine Chk.mk (by kernel_rfl) ?_ | refine Eq'.mk ?_ | (refine AllN.mk fun i hi => ?_; cbv) | (refine AllS.mk fun r hr => ?_; (try simp only [Dat.ok, Dat.dec, Leaf.ok, Leaf.val, val_sl] at hr); cbv)
                all_goals ((try dsimp only at *); (try simp only [nc, Int.toNat_natCast, Bool.not_eq_true', Bool.not_eq_false', decide_eq_true_eq, decide_eq_false_iff_not, beq_iff_eq, beq_eq_false_iff_ne, ba_inj, bne_iff_ne, ne_eq, Bool.and_eq_true, Bool.or_eq_true, Bool.and_eq_false_iff, Bool.or_eq_false_iff, Int.not_le, Int.not_lt, Nat.not_le, Nat.not_lt] at *); (try simp only [nc] at *))
                all_goals first
                  | (rw [addU_len, addU_len]; done)
                  | exact (addU_step (show i < l.reverse.length by omega)).symm
                  | fail))
      | skip
    all_goals have ev : (slV (.sl 1 (fun _ => l.length) fun i => Dat.enc fun _ => (addU c l.reverse k).getD (i ()) Dat.d0) : List Int) = l.reverse.map (· + c) := (val_len 1 hal.symm).trans (addU_done (by omega))
    all_goals first
      | exact ⟨⟨rfl, fun i _ => Dat.hok _⟩, show (slV _ : List Int).length ≤ _ by rw [ev, List.length_map]; omega⟩
      | skip
    all_goals try simp only [ev] at *
    all_goals have hf := mid_far (by assumption : (midV l f).2.2 = 0)
    all_goals first
      | omega
      | (have hmv := mid_moved (c := c) (by assumption : (midV l f).2.2 = 0) (List.reverse_perm l) (by assumption)
         first
           | (exfalso; exact absurd hmv.1 (by assumption))
           | (exfalso; exact absurd hmv.2 (by assumption)))
      | (have hmo := mid_more (by assumption : (midV l f).2.2 = 0) (by assumption)
         first
           | (exfalso; omega)
           | exact fin (decide_eq_true hmo.2.2))
      | (have ht := tdiv2 (x := (sortL l).getD ((l.length : Int) - f - 1).toNat Dat.d0 - (sortL l).getD f.toNat Dat.d0) (by omega)
         have b1 := sortL_bd hm1.2.2.2.1 (i := f.toNat) (by omega)
         have b2 := sortL_bd hm1.2.2.2.1 (i := ((l.length : Int) - f - 1).toNat) (by omega)
         rw [hm1.2.2.2.2.2.1]
         show InR (_ + _ + c)
         unfold InR; omega)
      | fail
section
open Go.ChangeShapes Go.WideShapes Go.ChangeAt Go.RowKit Go.Joins Go.Deep
set_option linter.unusedVariables false
theorem many_own : ownKnob Try.prog.godebug = none := by kernel_rfl
theorem many_laidOut : laidOutB Try.prog = true := by kernel_rfl
theorem many_readOk {ts : Array TypeId} (h : ts.toList.all (fun t => Try.prog.readableRec t && decide (t < Try.prog.types.size)) = true) : ∀ t ∈ ts.toList, Try.prog.readableRec t = true ∧ t < Try.prog.types.size := fun t ht => by
  have := List.all_eq_true.1 h t ht
  simpa using this
mutual
theorem many_bD {H : Type} : ∀ d : DataW H, Rows.uptoBulk d = bulkD d
  | .lit l => by cases l <;> simp [Rows.uptoBulk, bulkD]
  | .nil => by simp [Rows.uptoBulk, bulkD]
  | .ptr d => by simp [Rows.uptoBulk, bulkD, many_bD d]
  | .slice a b => by simp [Rows.uptoBulk, bulkD, many_bL a, many_bL b]
  | .agg a => by simp [Rows.uptoBulk, bulkD, many_bL a]
  | .iface _ d => by simp [Rows.uptoBulk, bulkD, many_bD d]
  | .map e => by simp [Rows.uptoBulk, bulkD, many_bE e]
  | .held _ => by simp [Rows.uptoBulk, bulkD]
theorem many_bL {H : Type} : ∀ d : List (DataW H), Rows.uptoBulkAll d = bulkL d
  | [] => by simp [Rows.uptoBulkAll, bulkL]
  | d :: r => by simp [Rows.uptoBulkAll, bulkL, many_bD d, many_bL r]
theorem many_bE {H : Type} : ∀ d : List (Lit × DataW H), Rows.uptoBulkEntries d = bulkE d
  | [] => by simp [Rows.uptoBulkEntries, bulkE]
  | d :: r => by simp [Rows.uptoBulkEntries, bulkE, many_bX d, many_bE r]
theorem many_bX {H : Type} : ∀ d : Lit × DataW H, Rows.uptoBulkEntry d = bulkX d
  | (l, d) => by cases l <;> simp [Rows.uptoBulkEntry, bulkX, many_bD d]
end
set_option maxRecDepth 100000 in
theorem many_lifted (os : Os) (started : os.Started) (H : Type) (enc : TypeId × Value → H) (F : Stop.Interp) :
    ReturnsInHanded {} Try.checked os 5 .any ((Rows.OpenSpec.upto Rows.medianAnySpec).pre6 enc Try.prog Try.f5 Rows.medianAnyUptoRow.domain false) (((Rows.OpenSpec.upto Rows.medianAnySpec).at F).post enc Try.prog Try.f5 false true false false) := by
  refine returnsInHanded_of_cond (C := Try.checked) (s := Rows.OpenSpec.upto Rows.medianAnySpec) (k := Rows.uptoSmall) rfl many_own started (by kernel_rfl) Try.func5
    (OpenSpec.witness (enc := enc) (C := Try.checked) (s := Rows.OpenSpec.upto Rows.medianAnySpec) (k := Rows.uptoSmall) rfl false ⟨#[], #[.slice none 0 0, .int .i64 0, .int .i64 0], []⟩ 8 (by kernel_rfl) (by kernel_rfl) (by kernel_rfl)
      (x := ([.nil, .lit (.int .i64 0), .lit (.int .i64 0)], [], [])) (by kernel_rfl) rfl (by kernel_rfl)) ?_
  intro W base args ds gs before hval0 hW _ hk _
  show Calls Try.prog 5 args W fun e W' => ∃ v, e = .returned v ∧ Rows.medianAnySpec.post enc Try.prog Try.f5 false true false false W args v W'
  have hval : ∀ (j : Nat) t v, Try.f5.params[j]? = some t → args[j]? = some v → Value.okWide Try.prog W .any base t v := hval0
  have hW' := hW
  have hlt := hW.lt
  obtain ⟨p, q, hA0, hV, rfl, hfz, hnd⟩ := hW
  have hA : DataW.TrodAll enc Try.prog W 0 (fun _ => true) true Try.f5.params.toList args.toList ds p := hA0
  have hA1 := hA
  rw [Try.params5] at hA hval
  obtain ⟨v0, vs0, d0, ds0, p0, q0, hargs, rfl, rfl, h0, r0⟩ := trodAll_cons hA
  obtain ⟨v1, vs1, d1, ds1, p1, q1, rfl, rfl, rfl, h1, r1⟩ := trodAll_cons r0
  obtain ⟨v2, vs2, d2, ds2, p2, q2, rfl, rfl, rfl, h2, r2⟩ := trodAll_cons r1
  obtain ⟨rfl, rfl, rfl⟩ := trodAll_nil r2
  obtain rfl : args = #[v0, v1, v2] := by cases args; simp_all
  obtain ⟨rfl, rfl⟩ := trodVars_none hV
  obtain ⟨z0, z'0, z''0, rfl⟩ := okWide_slice Try.underlying29 (hval 0 29 v0 rfl rfl)
  obtain ⟨y0, u0, b0, e0⟩ := arg_leaf (α := (List Int)) (opn_slice Try.underlying29 (by kernel_rfl) (by decide) (opn_int Try.underlying3)) rfl h0
  obtain ⟨z1, rfl⟩ := okWide_int Try.underlying3 (hval 1 3 v1 rfl rfl)
  obtain ⟨y1, u1, b1, e1⟩ := arg_leaf (α := Int) (opn_int Try.underlying3) rfl h1
  obtain ⟨z2, rfl⟩ := okWide_int Try.underlying3 (hval 2 3 v2 rfl rfl)
  obtain ⟨y2, u2, b2, e2⟩ := arg_leaf (α := Int) (opn_int Try.underlying3) rfl h2
  have hB : Siz.bulk y0 + Siz.bulk y1 + Siz.bulk y2 ≤ 1048576 := by
    have h := of_decide_eq_true hk
    rw [many_bL] at h
    simp only [List.append_nil, bulkL] at h
    omega
  have hR := repL_cons (M := fun _ => False) (β := fun _ => none) (cp := fun _ => 0) (.c e0) (repL_cons (M := fun _ => False) (β := fun _ => none) (cp := fun _ => 0) (.c e1) (repL_cons (M := fun _ => False) (β := fun _ => none) (cp := fun _ => 0) (.c e2) (repL_nil)))
  refine (law_callsA (many_vc y0 y1 y2 u0 u1 u2 hB) hR).mono fun e W' ⟨he, bel⟩ => ?_
  subst he
  exact ⟨_, rfl, _, _, _, [], _, [], hW', trodAll_mk1 (shut_bool Try.underlying4 _), trodAll_below many_laidOut bel (many_readOk (by kernel_rfl)) (fun x hx => hlt x (List.mem_append_left _ hx)) hA1, rfl, bel.frame _, fun h => by cases h⟩
theorem MedianAny_proved : Rows.MedianAnyUptoSaid :=
  OpenClaim.holds_of_cond 5 Try.f5 rfl rfl rfl rfl rfl rfl rfl ⟨rfl, rfl, rfl, rfl, rfl⟩ rfl rfl rfl rfl rfl (by kernel_rfl) Try.func5 (by kernel_rfl)
    (of_decide_eq_true (by kernel_rfl)) (by unfold Func.isWrapper; first | (rw [if_pos (by decide +kernel)]; kernel_rfl) | (rw [if_neg (by decide +kernel)]; exact ⟨rfl, rfl⟩))
    (fun os started H enc _ F => many_lifted os started H enc F)
end

end Go.Proofs.Ytpofgnocliaahaa
