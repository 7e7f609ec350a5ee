/- No job takes longer than is told, by the order of tasks, nor is late; for all inputs. -/
import Derived.Test.YtcnfdohlgmipoaaPlayJ
import Derived.Test.YtcnfdohlgmipoaaLates
import Derived.Test.YtcnfdohlgmipoaaReplyU
set_option linter.all false
namespace Go.Proofs.Ytcnfdohlgmipoaa
open Go Go.Abs

noncomputable def cRH : FuncId → Con := fun f => match f with
  | 14 => pureCon tab_C
  | 11 => pureCon playC_C
  | 8 => pureCon (detPC rlives_D)
  | 15 => pureCon latesC_C
  | _ => fun _ _ _ => Bad 1001
theorem cRH_ok : ConOk Try.prog cRH := fun f A H K h => by
  unfold cRH at h
  split at h
  · exact ⟨⟨Try.f14, Try.func14, by kernel_rfl, by kernel_rfl⟩, pureCon_ok tab_ok h⟩
  · exact ⟨⟨Try.f11, Try.func11, by kernel_rfl, by kernel_rfl⟩, pureCon_ok playC_ok h⟩
  · exact ⟨⟨Try.f8, Try.func8, by kernel_rfl, by kernel_rfl⟩, pureCon_ok rlives_ok h⟩
  · exact ⟨⟨Try.f15, Try.func15, by kernel_rfl, by kernel_rfl⟩, pureCon_ok latesC_ok h⟩
  · cases h
structure HldX (n : Nat) where
  k : Nat
  hk : k ≤ n
structure HlX (n : Nat) where
  k : Nat
  hk : k ≤ n
theorem gdm_mem {α : Type} {d : List α} {p : Nat} {x : α} (h : p < d.length) : d.getD p x ∈ d := by
  have e : d.getD p x = d[p] := by simp [h]
  rw [e]; exact List.getElem_mem _
theorem tabV_okH {l : List Task} {s : Set} (h : (tabV l s).2 = 0) : (tabV l s).1.length = l.length ∧ ∀ i : Int, 0 ≤ i → i < l.length → (tabV l s).1.getD i.toNat Dat.d0 = (repV l i s).1 := by
  have hb : bothS l s = 0 := by
    unfold tabV at h
    split at h
    · assumption
    · rename_i q; exact absurd h q
  rw [tabV, if_pos hb]
  refine ⟨tab_len l s, fun i h0 h1 => ?_⟩
  have h3 := tab_get (l := l) (s := s) (i := i.toNat) (by omega)
  rwa [show ((i.toNat : Nat) : Int) = i by omega] at h3
set_option maxRecDepth 100000 in
set_option maxHeartbeats 4000000 in
theorem rholds_vc (l : (List Task)) (s : Set) (first : (List Int)) (u : Int) (fit_l : Siz.fit l) (fit_s : Siz.fit s) (fit_first : Siz.fit first) (fit_u : Siz.fit u) (hB : Siz.bulk l + Siz.bulk s + Siz.bulk first + Siz.bulk u ≤ 1048576) : FnOk Try.prog 5 [Leaf.av fun _ => l, .agg (Dat.enc fun _ => s), Leaf.av fun _ => first, .i .i64 fun _ => u] [] (outA (.bc true) []) := by
  refine fn_ok envOk zl cRH_ok noDraws_ok (keep := [0, 1, 2, 3, 5, 8, 9, 10, 11, 13, 15, 16, 17, 18, 20, 45, 47, 48, 49, 50, 68, 78, 79, 80, 81, 89]) Try.func5 rfl ?_
  have fin := @fin_b
  have finc := @fin_t
  have hpre : l.length ≤ 9223372036854775807 ∧ s.spans.length ≤ 9223372036854775807 ∧ first.length ≤ 9223372036854775807 := by
    have h1 := bulk_len (α := Task) Task.one_le l
    have h2 := bulk_len Span.one_le s.spans
    have h3 := bulk_len (α := Int) (fun _ => Nat.le_refl _) first
    simp only [Siz.bulk] at hB h1 h2 h3
    omega
  generalize outA (.bc true) [] = K at fin finc
  cbv
  repeat' first | (show Stp _; exfalso; first | omega | (exact h ‹_›) | (exact absurd ‹_› h) | (exact Bool.false_ne_true (h.symm.trans (show _ = true by assumption)))) | (refine Stp.mk ?_; cbv) | (refine Gen.mk fun r hr => ?_; (try simp only [Dat.ok, Dat.dec, Leaf.ok, Leaf.val, Span.eta, Set.eta, Task.eta, Done.eta, job.eta, Late.eta, val_sl, val_nil] at hr); cbv) | exact trivial | rfl | refine Both.mk ?_ ?_ | (refine Imp.mk fun h => ?_; (try dsimp only at h); (try simp only [nc, Int.toNat_natCast, ne_eq, zz] at h); (try simp only [nc] at h)) | refine Ob.mk ?_ ?_ | refine Chk.mk (by kernel_rfl) ?_ | refine Eq'.mk ?_ | (refine AllN.mk fun i hi => ?_; cbv) | (refine AllC.mk fun c hc hcm => ?_; (try dsimp only at hc); cbv) | (refine AllS.mk fun r hr => ?_; (try simp only [Dat.ok, Dat.dec, Leaf.ok, Leaf.val, Span.eta, Set.eta, Task.eta, Done.eta, job.eta, Late.eta, val_sl] at hr); cbv)
  all_goals ((try dsimp only at *); (try simp only [nc, Int.toNat_natCast, ne_eq, zz] at *); (try simp only [nc] at *))
  all_goals try simp only [Dat.dec, Leaf.val, Span.eta, Set.eta, Task.eta, Done.eta, job.eta, Late.eta, val_sl] at *
  all_goals try (first
    | exact finc
    | exact Nat.le_refl _
    | omega
    | exact ⟨⟨rfl, fun i _ => Dat.hok _⟩, ⟨trivial, rfl, fun i _ => Dat.hok _⟩, hpre.1, hpre.2.1⟩
    | exact ⟨⟨rfl, fun i _ => Dat.hok _⟩, ⟨trivial, rfl, fun i _ => Dat.hok _⟩, ⟨rfl, fun i _ => Dat.hok _⟩, hpre⟩)
  all_goals repeat (rename (_ = tabV _ _) => hq3; have hq4 := hq3.symm; clear hq3; subst hq4)
  all_goals repeat (rename (_ = playJ _ _ _ _ _) => hq3; have hq4 := hq3.symm; clear hq3; subst hq4)
  have hE : (playJ l s first 2 u).2.2 = 0 := by assumption
  obtain ⟨hR, a5, a1, a0, f1, f2, hD, hS, hI⟩ := play_work hE
  obtain ⟨ht1, ht2⟩ := tabV_okH (by assumption : (tabV l s).2 = 0)
  have hH := fun x hx h0 h1 hr => reply_holds (l := l) (first := first) (s := s) (u := u) hE (x := x) hx h0 h1 hr
  obtain ⟨L1, hll, L2⟩ := reply_late (l := l) (first := first) (s := s) (u := u) hE
  have hPL := play_len3 (l := l) (s := s) (first := first) (policy := 2) (u := u)
  revert hD hS hI hPL hH L1 L2 hll
  clear hE
  generalize (playJ l s first 2 u).1 = d
  intro hD hS hI hH L1 hll L2 hPL
  refine LoopVC.frame [8, 15, 16, 49, 50, 68] (HldX d.length) (fun x => [(49, .i .i64 fun _ => x.k)]) (fun x => []) [] (fun x => d.length - x.k) ⟨0, Nat.zero_le _⟩ rfl (fun _ => rfl) ?_ ?_ fun ⟨k, hk⟩ => ?_
  iterate 2
    · cbv
      repeat' first | (refine Stp.mk ?_; cbv) | (refine Gen.mk fun r hr => ?_; (try simp only [Dat.ok, Dat.dec, Leaf.ok, Leaf.val, Span.eta, Set.eta, Task.eta, Done.eta, job.eta, Late.eta, val_sl, val_nil] at hr); cbv) | exact trivial | rfl | refine Both.mk ?_ ?_ | (refine Imp.mk fun h => ?_; (try dsimp only at h); (try simp only [nc, Int.toNat_natCast, ne_eq, zz] at h); (try simp only [nc] at h)) | refine Ob.mk ?_ ?_ | refine Chk.mk (by kernel_rfl) ?_ | refine Eq'.mk ?_ | (refine AllN.mk fun i hi => ?_; cbv) | (refine AllC.mk fun c hc hcm => ?_; (try dsimp only at hc); cbv) | (refine AllS.mk fun r hr => ?_; (try simp only [Dat.ok, Dat.dec, Leaf.ok, Leaf.val, Span.eta, Set.eta, Task.eta, Done.eta, job.eta, Late.eta, val_sl] at hr); cbv)
  cbv
  repeat' first | (show Stp _; exfalso; first | omega | (exact h ‹_›) | (exact absurd ‹_› h) | (exact Bool.false_ne_true (h.symm.trans (show _ = true by assumption)))) | (refine Stp.mk ?_; cbv) | (refine Gen.mk fun r hr => ?_; (try simp only [Dat.ok, Dat.dec, Leaf.ok, Leaf.val, Span.eta, Set.eta, Task.eta, Done.eta, job.eta, Late.eta, val_sl, val_nil] at hr); cbv) | exact trivial | rfl | refine Both.mk ?_ ?_ | (refine Imp.mk fun h => ?_; (try dsimp only at h); (try simp only [nc, Int.toNat_natCast, ne_eq, zz] at h); (try simp only [nc] at h)) | refine Ob.mk ?_ ?_ | refine Chk.mk (by kernel_rfl) ?_ | refine Eq'.mk ?_ | (refine AllN.mk fun i hi => ?_; cbv) | (refine AllC.mk fun c hc hcm => ?_; (try dsimp only at hc); cbv) | (refine AllS.mk fun r hr => ?_; (try simp only [Dat.ok, Dat.dec, Leaf.ok, Leaf.val, Span.eta, Set.eta, Task.eta, Done.eta, job.eta, Late.eta, val_sl] at hr); cbv)
  all_goals ((try dsimp only at *); (try simp only [nc, Int.toNat_natCast, ne_eq, zz] at *); (try simp only [nc] at *))
  all_goals try rw [nc] at *
  all_goals try simp only [Dat.dec, Leaf.val, Span.eta, Set.eta, Task.eta, Done.eta, job.eta, Late.eta, val_sl] at *
  all_goals try (
    have hkd : k < d.length := by omega
    obtain ⟨t0, t1, jb, inc, cm, c0, c1, c2, lg⟩ := hD k hkd
    have hv := ht2 _ t0 t1
    first
      | omega
      | exact ⟨by omega, by omega⟩
      | (unfold InR; omega)
      | (exfalso
         have := hH _ (gdm_mem (x := Dat.d0) hkd) t0 t1 (by omega)
         omega)
      | (refine ⟨⟨k + 1, by omega⟩, ?_, ?_, rfl, by (try dsimp only); omega⟩
         · cbv
           repeat' first | (refine Stp.mk ?_; cbv) | (refine Gen.mk fun r hr => ?_; (try simp only [Dat.ok, Dat.dec, Leaf.ok, Leaf.val, Span.eta, Set.eta, Task.eta, Done.eta, job.eta, Late.eta, val_sl, val_nil] at hr); cbv) | exact trivial | rfl | refine Both.mk ?_ ?_ | (refine Imp.mk fun h => ?_; (try dsimp only at h); (try simp only [nc, Int.toNat_natCast, ne_eq, zz] at h); (try simp only [nc] at h)) | refine Ob.mk ?_ ?_ | refine Chk.mk (by kernel_rfl) ?_ | refine Eq'.mk ?_ | (refine AllN.mk fun i hi => ?_; cbv) | (refine AllC.mk fun c hc hcm => ?_; (try dsimp only at hc); cbv) | (refine AllS.mk fun r hr => ?_; (try simp only [Dat.ok, Dat.dec, Leaf.ok, Leaf.val, Span.eta, Set.eta, Task.eta, Done.eta, job.eta, Late.eta, val_sl] at hr); cbv)
         · cbv
           repeat' first | (refine Stp.mk ?_; cbv) | (refine Gen.mk fun r hr => ?_; (try simp only [Dat.ok, Dat.dec, Leaf.ok, Leaf.val, Span.eta, Set.eta, Task.eta, Done.eta, job.eta, Late.eta, val_sl, val_nil] at hr); cbv) | exact trivial | rfl | refine Both.mk ?_ ?_ | (refine Imp.mk fun h => ?_; (try dsimp only at h); (try simp only [nc, Int.toNat_natCast, ne_eq, zz] at h); (try simp only [nc] at h)) | refine Ob.mk ?_ ?_ | refine Chk.mk (by kernel_rfl) ?_ | refine Eq'.mk ?_ | (refine AllN.mk fun i hi => ?_; cbv) | (refine AllC.mk fun c hc hcm => ?_; (try dsimp only at hc); cbv) | (refine AllS.mk fun r hr => ?_; (try simp only [Dat.ok, Dat.dec, Leaf.ok, Leaf.val, Span.eta, Set.eta, Task.eta, Done.eta, job.eta, Late.eta, val_sl] at hr); cbv)))
  all_goals try (first
    | exact Nat.le_refl _
    | exact ⟨⟨rfl, fun i _ => Dat.hok _⟩, ⟨rfl, fun i _ => Dat.hok _⟩, ⟨rfl, fun i _ => Dat.hok _⟩, hpre.1, hpre.2.2⟩)
  all_goals repeat (rename (_ = latesV _ _ _ _) => hq3; have hq4 := hq3.symm; clear hq3; subst hq4)
  revert L2 hll
  generalize (latesV l first d u).1 = q
  intro hll L2
  refine LoopVC.frame [8, 20, 80, 81, 89] (HlX q.length) (fun x => [(80, .i .i64 fun _ => x.k)]) (fun x => []) [] (fun x => q.length - x.k) ⟨0, Nat.zero_le _⟩ rfl (fun _ => rfl) ?_ ?_ fun ⟨k2, hk2⟩ => ?_
  iterate 2
    · cbv
      repeat' first | (refine Stp.mk ?_; cbv) | (refine Gen.mk fun r hr => ?_; (try simp only [Dat.ok, Dat.dec, Leaf.ok, Leaf.val, Span.eta, Set.eta, Task.eta, Done.eta, job.eta, Late.eta, val_sl, val_nil] at hr); cbv) | exact trivial | rfl | refine Both.mk ?_ ?_ | (refine Imp.mk fun h => ?_; (try dsimp only at h); (try simp only [nc, Int.toNat_natCast, ne_eq, zz] at h); (try simp only [nc] at h)) | refine Ob.mk ?_ ?_ | refine Chk.mk (by kernel_rfl) ?_ | refine Eq'.mk ?_ | (refine AllN.mk fun i hi => ?_; cbv) | (refine AllC.mk fun c hc hcm => ?_; (try dsimp only at hc); cbv) | (refine AllS.mk fun r hr => ?_; (try simp only [Dat.ok, Dat.dec, Leaf.ok, Leaf.val, Span.eta, Set.eta, Task.eta, Done.eta, job.eta, Late.eta, val_sl] at hr); cbv)
  cbv
  repeat' first | (show Stp _; exfalso; first | omega | (exact h ‹_›) | (exact absurd ‹_› h) | (exact Bool.false_ne_true (h.symm.trans (show _ = true by assumption)))) | (refine Stp.mk ?_; cbv) | (refine Gen.mk fun r hr => ?_; (try simp only [Dat.ok, Dat.dec, Leaf.ok, Leaf.val, Span.eta, Set.eta, Task.eta, Done.eta, job.eta, Late.eta, val_sl, val_nil] at hr); cbv) | exact trivial | rfl | refine Both.mk ?_ ?_ | (refine Imp.mk fun h => ?_; (try dsimp only at h); (try simp only [nc, Int.toNat_natCast, ne_eq, zz] at h); (try simp only [nc] at h)) | refine Ob.mk ?_ ?_ | refine Chk.mk (by kernel_rfl) ?_ | refine Eq'.mk ?_ | (refine AllN.mk fun i hi => ?_; cbv) | (refine AllC.mk fun c hc hcm => ?_; (try dsimp only at hc); cbv) | (refine AllS.mk fun r hr => ?_; (try simp only [Dat.ok, Dat.dec, Leaf.ok, Leaf.val, Span.eta, Set.eta, Task.eta, Done.eta, job.eta, Late.eta, val_sl] at hr); cbv)
  all_goals ((try dsimp only at *); (try simp only [nc, Int.toNat_natCast, ne_eq, zz] at *); (try simp only [nc] at *))
  all_goals try rw [nc] at *
  all_goals try simp only [Dat.dec, Leaf.val, Span.eta, Set.eta, Task.eta, Done.eta, job.eta, Late.eta, val_sl] at *
  all_goals try (
    have hkq : k2 < q.length := by omega
    obtain ⟨t0, t1, t2⟩ := L2 _ (gdm_mem (x := Dat.d0) hkq)
    have hv := ht2 _ t0 t1
    first
      | omega
      | exact ⟨by omega, by omega⟩
      | (unfold InR; omega)
      | (exfalso; omega)
      | (refine ⟨⟨k2 + 1, by omega⟩, ?_, ?_, rfl, by (try dsimp only); omega⟩
         · cbv
           repeat' first | (refine Stp.mk ?_; cbv) | (refine Gen.mk fun r hr => ?_; (try simp only [Dat.ok, Dat.dec, Leaf.ok, Leaf.val, Span.eta, Set.eta, Task.eta, Done.eta, job.eta, Late.eta, val_sl, val_nil] at hr); cbv) | exact trivial | rfl | refine Both.mk ?_ ?_ | (refine Imp.mk fun h => ?_; (try dsimp only at h); (try simp only [nc, Int.toNat_natCast, ne_eq, zz] at h); (try simp only [nc] at h)) | refine Ob.mk ?_ ?_ | refine Chk.mk (by kernel_rfl) ?_ | refine Eq'.mk ?_ | (refine AllN.mk fun i hi => ?_; cbv) | (refine AllC.mk fun c hc hcm => ?_; (try dsimp only at hc); cbv) | (refine AllS.mk fun r hr => ?_; (try simp only [Dat.ok, Dat.dec, Leaf.ok, Leaf.val, Span.eta, Set.eta, Task.eta, Done.eta, job.eta, Late.eta, val_sl] at hr); cbv)
         · cbv
           repeat' first | (refine Stp.mk ?_; cbv) | (refine Gen.mk fun r hr => ?_; (try simp only [Dat.ok, Dat.dec, Leaf.ok, Leaf.val, Span.eta, Set.eta, Task.eta, Done.eta, job.eta, Late.eta, val_sl, val_nil] at hr); cbv) | exact trivial | rfl | refine Both.mk ?_ ?_ | (refine Imp.mk fun h => ?_; (try dsimp only at h); (try simp only [nc, Int.toNat_natCast, ne_eq, zz] at h); (try simp only [nc] at h)) | refine Ob.mk ?_ ?_ | refine Chk.mk (by kernel_rfl) ?_ | refine Eq'.mk ?_ | (refine AllN.mk fun i hi => ?_; cbv) | (refine AllC.mk fun c hc hcm => ?_; (try dsimp only at hc); cbv) | (refine AllS.mk fun r hr => ?_; (try simp only [Dat.ok, Dat.dec, Leaf.ok, Leaf.val, Span.eta, Set.eta, Task.eta, Done.eta, job.eta, Late.eta, val_sl] at hr); cbv)))
  refine fin ?_
  rw [L1]
  rfl
section
open Go.ChangeShapes Go.WideShapes Go.ChangeAt Go.RowKit Go.Joins Go.Deep
set_option linter.unusedVariables false
theorem rholds_own : ownKnob Try.prog.godebug = none := by kernel_rfl
theorem rholds_laidOut : laidOutB Try.prog = true := by kernel_rfl
theorem rholds_readOk {ts : Array TypeId} (h : ts.toList.all (fun t => Try.prog.readableRec t && decide (t < Try.prog.types.size)) = true) : ∀ t ∈ ts.toList, Try.prog.readableRec t = true ∧ t < Try.prog.types.size := fun t ht => by
  have := List.all_eq_true.1 h t ht
  simpa using this
mutual
theorem rholds_bD {H : Type} : ∀ d : DataW H, Rows.uptoBulk d = bulkD d
  | .lit l => by cases l <;> simp [Rows.uptoBulk, bulkD]
  | .nil => by simp [Rows.uptoBulk, bulkD]
  | .ptr d => by simp [Rows.uptoBulk, bulkD, rholds_bD d]
  | .slice a b => by simp [Rows.uptoBulk, bulkD, rholds_bL a, rholds_bL b]
  | .agg a => by simp [Rows.uptoBulk, bulkD, rholds_bL a]
  | .iface _ d => by simp [Rows.uptoBulk, bulkD, rholds_bD d]
  | .map e => by simp [Rows.uptoBulk, bulkD, rholds_bE e]
  | .held _ => by simp [Rows.uptoBulk, bulkD]
theorem rholds_bL {H : Type} : ∀ d : List (DataW H), Rows.uptoBulkAll d = bulkL d
  | [] => by simp [Rows.uptoBulkAll, bulkL]
  | d :: r => by simp [Rows.uptoBulkAll, bulkL, rholds_bD d, rholds_bL r]
theorem rholds_bE {H : Type} : ∀ d : List (Lit × DataW H), Rows.uptoBulkEntries d = bulkE d
  | [] => by simp [Rows.uptoBulkEntries, bulkE]
  | d :: r => by simp [Rows.uptoBulkEntries, bulkE, rholds_bX d, rholds_bE r]
theorem rholds_bX {H : Type} : ∀ d : Lit × DataW H, Rows.uptoBulkEntry d = bulkX d
  | (l, d) => by cases l <;> simp [Rows.uptoBulkEntry, bulkX, rholds_bD d]
end
set_option maxRecDepth 100000 in
theorem rholds_lifted (os : Os) (started : os.Started) (H : Type) (enc : TypeId × Value → H) (F : Stop.Interp) :
    ReturnsInHanded {} Try.checked os 5 .any ((Rows.OpenSpec.upto Rows.replyHoldsSpec).pre6 enc Try.prog Try.f5 Rows.replyHoldsUptoRow.domain false) (((Rows.OpenSpec.upto Rows.replyHoldsSpec).at F).post enc Try.prog Try.f5 false true false false) := by
  refine returnsInHanded_of_cond (C := Try.checked) (s := Rows.OpenSpec.upto Rows.replyHoldsSpec) (k := Rows.uptoSmall) rfl rholds_own started (by kernel_rfl) Try.func5
    (OpenSpec.witness (enc := enc) (C := Try.checked) (s := Rows.OpenSpec.upto Rows.replyHoldsSpec) (k := Rows.uptoSmall) rfl false ⟨#[], #[.slice none 0 0, .agg #[.int .i64 0, .slice none 0 0], .slice none 0 0, .int .i64 0], []⟩ 8 (by kernel_rfl) (by kernel_rfl) (by kernel_rfl)
      (x := ([.nil, .agg [.lit (.int .i64 0), .nil], .nil, .lit (.int .i64 0)], [], [])) (by kernel_rfl) rfl (by kernel_rfl)) ?_
  intro W base args ds gs before hval0 hW _ hk _
  show Calls Try.prog 5 args W fun e W' => ∃ v, e = .returned v ∧ Rows.replyHoldsSpec.post enc Try.prog Try.f5 false true false false W args v W'
  have hval : ∀ (j : Nat) t v, Try.f5.params[j]? = some t → args[j]? = some v → Value.okWide Try.prog W .any base t v := hval0
  have hW' := hW
  have hlt := hW.lt
  obtain ⟨p, q, hA0, hV, rfl, hfz, hnd⟩ := hW
  have hA : DataW.TrodAll enc Try.prog W 0 (fun _ => true) true Try.f5.params.toList args.toList ds p := hA0
  have hA1 := hA
  rw [Try.params5] at hA hval
  obtain ⟨v0, vs0, d0, ds0, p0, q0, hargs, rfl, rfl, h0, r0⟩ := trodAll_cons hA
  obtain ⟨v1, vs1, d1, ds1, p1, q1, rfl, rfl, rfl, h1, r1⟩ := trodAll_cons r0
  obtain ⟨v2, vs2, d2, ds2, p2, q2, rfl, rfl, rfl, h2, r2⟩ := trodAll_cons r1
  obtain ⟨v3, vs3, d3, ds3, p3, q3, rfl, rfl, rfl, h3, r3⟩ := trodAll_cons r2
  obtain ⟨rfl, rfl, rfl⟩ := trodAll_nil r3
  obtain rfl : args = #[v0, v1, v2, v3] := by cases args; simp_all
  obtain ⟨rfl, rfl⟩ := trodVars_none hV
  obtain ⟨z0, z'0, z''0, rfl⟩ := okWide_slice Try.underlying22 (hval 0 22 v0 rfl rfl)
  obtain ⟨y0, u0, b0, e0⟩ := arg_leaf (α := (List Task)) (opn_slice Try.underlying22 (by kernel_rfl) (by decide) opn_Task) rfl h0
  obtain ⟨cs1, rfl, _⟩ := okWide_struct Try.underlying25 (hval 1 25 v1 rfl rfl)
  obtain ⟨y1, u1, b1, e1⟩ := arg_agg (α := Set) opn_Set h1
  obtain ⟨z2, z'2, z''2, rfl⟩ := okWide_slice Try.underlying40 (hval 2 40 v2 rfl rfl)
  obtain ⟨y2, u2, b2, e2⟩ := arg_leaf (α := (List Int)) (opn_slice Try.underlying40 (by kernel_rfl) (by decide) (opn_int Try.underlying3)) rfl h2
  obtain ⟨z3, rfl⟩ := okWide_int Try.underlying3 (hval 3 3 v3 rfl rfl)
  obtain ⟨y3, u3, b3, e3⟩ := arg_leaf (α := Int) (opn_int Try.underlying3) rfl h3
  have hB : Siz.bulk y0 + Siz.bulk y1 + Siz.bulk y2 + Siz.bulk y3 ≤ 1048576 := by
    have h := of_decide_eq_true hk
    rw [rholds_bL] at h
    simp only [List.append_nil, bulkL] at h
    omega
  have hR := repL_cons (M := fun _ => False) (β := fun _ => none) (cp := fun _ => 0) (.c e0) (repL_cons (M := fun _ => False) (β := fun _ => none) (cp := fun _ => 0) (.c e1) (repL_cons (M := fun _ => False) (β := fun _ => none) (cp := fun _ => 0) (.c e2) (repL_cons (M := fun _ => False) (β := fun _ => none) (cp := fun _ => 0) (.c e3) (repL_nil))))
  refine (law_callsA (rholds_vc y0 y1 y2 y3 u0 u1 u2 u3 hB) hR).mono fun e W' ⟨he, bel⟩ => ?_
  subst he
  exact ⟨_, rfl, _, _, _, [], _, [], hW', trodAll_mk1 (shut_bool Try.underlying4 _), trodAll_below rholds_laidOut bel (rholds_readOk (by kernel_rfl)) (fun x hx => hlt x (List.mem_append_left _ hx)) hA1, rfl, bel.frame _, fun h => by cases h⟩
theorem ReplyHolds_proved : Rows.ReplyHoldsUptoSaid :=
  OpenClaim.holds_of_cond 5 Try.f5 rfl rfl rfl rfl rfl rfl rfl ⟨rfl, rfl, rfl, rfl, rfl⟩ rfl rfl rfl rfl rfl (by kernel_rfl) Try.func5 (by kernel_rfl)
    (of_decide_eq_true (by kernel_rfl)) (by unfold Func.isWrapper; first | (rw [if_pos (by decide +kernel)]; kernel_rfl) | (rw [if_neg (by decide +kernel)]; exact ⟨rfl, rfl⟩))
    (fun os started H enc _ F => rholds_lifted os started H enc F)
end

end Go.Proofs.Ytcnfdohlgmipoaa
