/- Where each task has a reply, no job is late in any order; for all inputs. -/
import Derived.Test.YtcnfdohlgmipoaaPlayM
import Derived.Test.YtcnfdohlgmipoaaReplyU
import Derived.Test.YtcnfdohlgmipoaaConI
set_option linter.all false
namespace Go.Proofs.Ytcnfdohlgmipoaa
open Go Go.Abs

noncomputable def cRF : FuncId → Con := fun f => match f with
  | 14 => pureCon tab_C
  | 8 => pureCon (detPC rlives_D)
  | 16 => pureCon (detPC conI_D)
  | 17 => pureCon (detPC lateC_D)
  | _ => fun _ _ _ => Bad 1001
theorem cRF_ok : ConOk Try.prog cRF := fun f A H K h => by
  unfold cRF at h
  split at h
  · exact ⟨⟨Try.f14, Try.func14, by kernel_rfl, by kernel_rfl⟩, pureCon_ok tab_ok h⟩
  · exact ⟨⟨Try.f8, Try.func8, by kernel_rfl, by kernel_rfl⟩, pureCon_ok rlives_ok h⟩
  · exact ⟨⟨Try.f16, Try.func16, by kernel_rfl, by kernel_rfl⟩, pureCon_ok conI_ok h⟩
  · exact ⟨⟨Try.f17, Try.func17, by kernel_rfl, by kernel_rfl⟩, pureCon_ok lateC_ok h⟩
  · cases h
theorem tab_all {l : List Task} {s : Set} (h : (tabV l s).2 = 0) (hn : (0 : Int) ∉ (tabV l s).1) : ∀ i : Int, 0 ≤ i → i < l.length → (repV l i s).1 ≠ 0 := fun i h0 h1 e => by
  have hb : bothS l s = 0 := by
    unfold tabV at h
    split at h
    · assumption
    · rename_i q; exact absurd h q
  rw [tabV, if_pos hb] at hn
  refine hn ?_
  have h2 : i.toNat < (tabL l s).length := by rw [tab_len]; omega
  have h3 := tab_get (l := l) (s := s) (i := i.toNat) (by omega)
  rw [show ((i.toNat : Nat) : Int) = i by omega, e, List.getD_eq_getElem?_getD, List.getElem?_eq_getElem h2] at h3
  have h4 := List.getElem_mem h2
  rw [show (tabL l s)[i.toNat] = 0 from h3] at h4
  exact h4
theorem tabV_len (l : List Task) (s : Set) : (tabV l s).1.length ≤ l.length := by
  unfold tabV
  split
  · exact Nat.le_of_eq (tab_len l s)
  · exact Nat.zero_le _
set_option maxRecDepth 100000 in
set_option maxHeartbeats 4000000 in
theorem rfits_vc (l : (List Task)) (s : Set) (first : (List Int)) (u : Int) (fit_l : Siz.fit l) (fit_s : Siz.fit s) (fit_first : Siz.fit first) (fit_u : Siz.fit u) (hB : Siz.bulk l + Siz.bulk s + Siz.bulk first + Siz.bulk u ≤ 1048576) : FnOk Try.prog 6 [Leaf.av fun _ => l, .agg (Dat.enc fun _ => s), Leaf.av fun _ => first, .i .i64 fun _ => u] [] (outA (.bc true) []) := by
  refine fn_ok envOk zl cRF_ok noDraws_ok (keep := [0, 1, 2, 3, 5, 8, 9, 10, 12, 13, 14, 30, 32, 33, 34, 49]) Try.func6 rfl ?_
  have fin := @fin_b
  have finc := @fin_t
  have hpre : l.length ≤ 9223372036854775807 ∧ s.spans.length ≤ 9223372036854775807 ∧ first.length ≤ 9223372036854775807 := by
    have h1 := bulk_len (α := Task) Task.one_le l
    have h2 := bulk_len Span.one_le s.spans
    have h3 := bulk_len (α := Int) (fun _ => Nat.le_refl _) first
    simp only [Siz.bulk] at hB h1 h2 h3
    omega
  have htl := tabV_len l s
  have hn := fun p => lateV_nonneg (l := l) (s := s) (first := first) (policy := p) (u := u)
  have hn1 := hn 1
  have hn2 := hn 2
  clear hn
  generalize outA (.bc true) [] = K at fin finc
  cbv
  repeat' first | (show Stp _; exfalso; first | omega | (exact h ‹_›) | (exact absurd ‹_› h) | (exact Bool.false_ne_true (h.symm.trans (show _ = true by assumption)))) | (refine Stp.mk ?_; cbv) | (refine Gen.mk fun r hr => ?_; (try simp only [Dat.ok, Dat.dec, Leaf.ok, Leaf.val, Span.eta, Set.eta, Task.eta, Done.eta, job.eta, Late.eta, val_sl, val_nil] at hr); cbv) | exact trivial | rfl | refine Both.mk ?_ ?_ | (refine Imp.mk fun h => ?_; (try dsimp only at h); (try simp only [nc, Int.toNat_natCast, ne_eq, zz] at h); (try simp only [nc] at h)) | refine Ob.mk ?_ ?_ | refine Chk.mk (by kernel_rfl) ?_ | refine Eq'.mk ?_ | (refine AllN.mk fun i hi => ?_; cbv) | (refine AllC.mk fun c hc hcm => ?_; (try dsimp only at hc); cbv) | (refine AllS.mk fun r hr => ?_; (try simp only [Dat.ok, Dat.dec, Leaf.ok, Leaf.val, Span.eta, Set.eta, Task.eta, Done.eta, job.eta, Late.eta, val_sl] at hr); cbv)
  all_goals ((try dsimp only at *); (try simp only [nc, Int.toNat_natCast, ne_eq, zz] at *); (try simp only [nc] at *))
  all_goals try simp only [Dat.dec, Leaf.val, Span.eta, Set.eta, Task.eta, Done.eta, job.eta, Late.eta, val_sl] at *
  all_goals try (rename (_ = tabV _ _) => hq3; have hq4 := hq3.symm; clear hq3; subst hq4)
  all_goals try (first
    | exact finc
    | exact Nat.le_refl _
    | exact ⟨⟨rfl, fun i _ => Dat.hok _⟩, ⟨trivial, rfl, fun i _ => Dat.hok _⟩, hpre.1, hpre.2.1⟩
    | exact ⟨⟨rfl, fun i _ => Dat.hok _⟩, show _ ≤ _ by omega⟩
    | skip)
  all_goals have hA := tab_all (by assumption : (tabV l s).2 = 0) (of_decide_eq_false (show decide ((0 : Int) ∈ (tabV l s).1) = false by assumption))
  refine LoopVC.un 3 ?_
  cbv
  repeat' first | (show Stp _; exfalso; first | omega | (exact h ‹_›) | (exact absurd ‹_› h) | (exact Bool.false_ne_true (h.symm.trans (show _ = true by assumption)))) | (refine Stp.mk ?_; cbv) | (refine Gen.mk fun r hr => ?_; (try simp only [Dat.ok, Dat.dec, Leaf.ok, Leaf.val, Span.eta, Set.eta, Task.eta, Done.eta, job.eta, Late.eta, val_sl, val_nil] at hr); cbv) | exact trivial | rfl | refine Both.mk ?_ ?_ | (refine Imp.mk fun h => ?_; (try dsimp only at h); (try simp only [nc, Int.toNat_natCast, ne_eq, zz] at h); (try simp only [nc] at h)) | refine Ob.mk ?_ ?_ | refine Chk.mk (by kernel_rfl) ?_ | refine Eq'.mk ?_ | (refine AllN.mk fun i hi => ?_; cbv) | (refine AllC.mk fun c hc hcm => ?_; (try dsimp only at hc); cbv) | (refine AllS.mk fun r hr => ?_; (try simp only [Dat.ok, Dat.dec, Leaf.ok, Leaf.val, Span.eta, Set.eta, Task.eta, Done.eta, job.eta, Late.eta, val_sl] at hr); cbv)
  all_goals ((try dsimp only at *); (try simp only [nc, Int.toNat_natCast, ne_eq, zz] at *); (try simp only [nc] at *))
  all_goals try simp only [Dat.dec, Leaf.val, Span.eta, Set.eta, Task.eta, Done.eta, job.eta, Late.eta, val_sl] at *
  all_goals first
    | omega
    | exact ⟨by omega, by omega⟩
    | (unfold InR; omega)
    | exact finc
    | exact ⟨⟨rfl, fun i _ => Dat.hok _⟩, ⟨trivial, rfl, fun i _ => Dat.hok _⟩, ⟨rfl, fun i _ => Dat.hok _⟩, hpre⟩
    | (exfalso
       have := reply_fits (p := 2) (first := first) (u := u) (.inr rfl) hA (by assumption)
       omega)
    | (exfalso
       have := reply_fits (p := 1) (first := first) (u := u) (.inl rfl) hA (by assumption)
       omega)
    | fail
section
open Go.ChangeShapes Go.WideShapes Go.ChangeAt Go.RowKit Go.Joins Go.Deep
set_option linter.unusedVariables false
theorem rfits_own : ownKnob Try.prog.godebug = none := by kernel_rfl
theorem rfits_laidOut : laidOutB Try.prog = true := by kernel_rfl
theorem rfits_readOk {ts : Array TypeId} (h : ts.toList.all (fun t => Try.prog.readableRec t && decide (t < Try.prog.types.size)) = true) : ∀ t ∈ ts.toList, Try.prog.readableRec t = true ∧ t < Try.prog.types.size := fun t ht => by
  have := List.all_eq_true.1 h t ht
  simpa using this
mutual
theorem rfits_bD {H : Type} : ∀ d : DataW H, Rows.uptoBulk d = bulkD d
  | .lit l => by cases l <;> simp [Rows.uptoBulk, bulkD]
  | .nil => by simp [Rows.uptoBulk, bulkD]
  | .ptr d => by simp [Rows.uptoBulk, bulkD, rfits_bD d]
  | .slice a b => by simp [Rows.uptoBulk, bulkD, rfits_bL a, rfits_bL b]
  | .agg a => by simp [Rows.uptoBulk, bulkD, rfits_bL a]
  | .iface _ d => by simp [Rows.uptoBulk, bulkD, rfits_bD d]
  | .map e => by simp [Rows.uptoBulk, bulkD, rfits_bE e]
  | .held _ => by simp [Rows.uptoBulk, bulkD]
theorem rfits_bL {H : Type} : ∀ d : List (DataW H), Rows.uptoBulkAll d = bulkL d
  | [] => by simp [Rows.uptoBulkAll, bulkL]
  | d :: r => by simp [Rows.uptoBulkAll, bulkL, rfits_bD d, rfits_bL r]
theorem rfits_bE {H : Type} : ∀ d : List (Lit × DataW H), Rows.uptoBulkEntries d = bulkE d
  | [] => by simp [Rows.uptoBulkEntries, bulkE]
  | d :: r => by simp [Rows.uptoBulkEntries, bulkE, rfits_bX d, rfits_bE r]
theorem rfits_bX {H : Type} : ∀ d : Lit × DataW H, Rows.uptoBulkEntry d = bulkX d
  | (l, d) => by cases l <;> simp [Rows.uptoBulkEntry, bulkX, rfits_bD d]
end
set_option maxRecDepth 100000 in
theorem rfits_lifted (os : Os) (started : os.Started) (H : Type) (enc : TypeId × Value → H) (F : Stop.Interp) :
    ReturnsInHanded {} Try.checked os 6 .any ((Rows.OpenSpec.upto Rows.replyFitsSpec).pre6 enc Try.prog Try.f6 Rows.replyFitsUptoRow.domain false) (((Rows.OpenSpec.upto Rows.replyFitsSpec).at F).post enc Try.prog Try.f6 false true false false) := by
  refine returnsInHanded_of_cond (C := Try.checked) (s := Rows.OpenSpec.upto Rows.replyFitsSpec) (k := Rows.uptoSmall) rfl rfits_own started (by kernel_rfl) Try.func6
    (OpenSpec.witness (enc := enc) (C := Try.checked) (s := Rows.OpenSpec.upto Rows.replyFitsSpec) (k := Rows.uptoSmall) rfl false ⟨#[], #[.slice none 0 0, .agg #[.int .i64 0, .slice none 0 0], .slice none 0 0, .int .i64 0], []⟩ 8 (by kernel_rfl) (by kernel_rfl) (by kernel_rfl)
      (x := ([.nil, .agg [.lit (.int .i64 0), .nil], .nil, .lit (.int .i64 0)], [], [])) (by kernel_rfl) rfl (by kernel_rfl)) ?_
  intro W base args ds gs before hval0 hW _ hk _
  show Calls Try.prog 6 args W fun e W' => ∃ v, e = .returned v ∧ Rows.replyFitsSpec.post enc Try.prog Try.f6 false true false false W args v W'
  have hval : ∀ (j : Nat) t v, Try.f6.params[j]? = some t → args[j]? = some v → Value.okWide Try.prog W .any base t v := hval0
  have hW' := hW
  have hlt := hW.lt
  obtain ⟨p, q, hA0, hV, rfl, hfz, hnd⟩ := hW
  have hA : DataW.TrodAll enc Try.prog W 0 (fun _ => true) true Try.f6.params.toList args.toList ds p := hA0
  have hA1 := hA
  rw [Try.params6] at hA hval
  obtain ⟨v0, vs0, d0, ds0, p0, q0, hargs, rfl, rfl, h0, r0⟩ := trodAll_cons hA
  obtain ⟨v1, vs1, d1, ds1, p1, q1, rfl, rfl, rfl, h1, r1⟩ := trodAll_cons r0
  obtain ⟨v2, vs2, d2, ds2, p2, q2, rfl, rfl, rfl, h2, r2⟩ := trodAll_cons r1
  obtain ⟨v3, vs3, d3, ds3, p3, q3, rfl, rfl, rfl, h3, r3⟩ := trodAll_cons r2
  obtain ⟨rfl, rfl, rfl⟩ := trodAll_nil r3
  obtain rfl : args = #[v0, v1, v2, v3] := by cases args; simp_all
  obtain ⟨rfl, rfl⟩ := trodVars_none hV
  obtain ⟨z0, z'0, z''0, rfl⟩ := okWide_slice Try.underlying22 (hval 0 22 v0 rfl rfl)
  obtain ⟨y0, u0, b0, e0⟩ := arg_leaf (α := (List Task)) (opn_slice Try.underlying22 (by kernel_rfl) (by decide) opn_Task) rfl h0
  obtain ⟨cs1, rfl, _⟩ := okWide_struct Try.underlying25 (hval 1 25 v1 rfl rfl)
  obtain ⟨y1, u1, b1, e1⟩ := arg_agg (α := Set) opn_Set h1
  obtain ⟨z2, z'2, z''2, rfl⟩ := okWide_slice Try.underlying40 (hval 2 40 v2 rfl rfl)
  obtain ⟨y2, u2, b2, e2⟩ := arg_leaf (α := (List Int)) (opn_slice Try.underlying40 (by kernel_rfl) (by decide) (opn_int Try.underlying3)) rfl h2
  obtain ⟨z3, rfl⟩ := okWide_int Try.underlying3 (hval 3 3 v3 rfl rfl)
  obtain ⟨y3, u3, b3, e3⟩ := arg_leaf (α := Int) (opn_int Try.underlying3) rfl h3
  have hB : Siz.bulk y0 + Siz.bulk y1 + Siz.bulk y2 + Siz.bulk y3 ≤ 1048576 := by
    have h := of_decide_eq_true hk
    rw [rfits_bL] at h
    simp only [List.append_nil, bulkL] at h
    omega
  have hR := repL_cons (M := fun _ => False) (β := fun _ => none) (cp := fun _ => 0) (.c e0) (repL_cons (M := fun _ => False) (β := fun _ => none) (cp := fun _ => 0) (.c e1) (repL_cons (M := fun _ => False) (β := fun _ => none) (cp := fun _ => 0) (.c e2) (repL_cons (M := fun _ => False) (β := fun _ => none) (cp := fun _ => 0) (.c e3) (repL_nil))))
  refine (law_callsA (rfits_vc y0 y1 y2 y3 u0 u1 u2 u3 hB) hR).mono fun e W' ⟨he, bel⟩ => ?_
  subst he
  exact ⟨_, rfl, _, _, _, [], _, [], hW', trodAll_mk1 (shut_bool Try.underlying4 _), trodAll_below rfits_laidOut bel (rfits_readOk (by kernel_rfl)) (fun x hx => hlt x (List.mem_append_left _ hx)) hA1, rfl, bel.frame _, fun h => by cases h⟩
theorem ReplyFits_proved : Rows.ReplyFitsUptoSaid :=
  OpenClaim.holds_of_cond 6 Try.f6 rfl rfl rfl rfl rfl rfl rfl ⟨rfl, rfl, rfl, rfl, rfl⟩ rfl rfl rfl rfl rfl (by kernel_rfl) Try.func6 (by kernel_rfl)
    (of_decide_eq_true (by kernel_rfl)) (by unfold Func.isWrapper; first | (rw [if_pos (by decide +kernel)]; kernel_rfl) | (rw [if_neg (by decide +kernel)]; exact ⟨rfl, rfl⟩))
    (fun os started H enc _ F => rfits_lifted os started H enc F)
end

end Go.Proofs.Ytcnfdohlgmipoaa
