/- With all times there are, the first job of each takes just so long; for all inputs. -/
import Derived.Test.YtcnfdohlgmipoaaPlayJ
import Derived.Test.YtcnfdohlgmipoaaReplyU
set_option linter.all false
namespace Go.Proofs.Ytcnfdohlgmipoaa
open Go Go.Abs

def playX_N : DetN := fun A => match A with
  | [l, .agg s, first, .i .i64 policy, .i .i64 until_] => some (fun _ => Leaf.ok (List Task) l ∧ Dat.ok Set s ∧ Leaf.ok (List Int) first ∧ playC_P (Leaf.val l) (Dat.dec s) (Leaf.val first) (policy ()) (until_ ()), playC_R fun _ => playJ (Leaf.val l) (Dat.dec s) (Leaf.val first) (policy ()) (until_ ()), vecO 43 fun _ => (playJ (Leaf.val l) (Dat.dec s) (Leaf.val first) (policy ()) (until_ ()) : (List Done) × Int × Int).1)
  | _ => none
theorem playX_okN : PcOk Try.prog 11 (detNPC playX_N) := det_okN fun A p r o h hp0 => by
  unfold playX_N at h
  split at h
  · rename_i l s first policy until_
    cases h
    obtain ⟨g0, g1, g2, hp⟩ := hp0
    exact FnOk.pre (A' := [Leaf.av fun _ => (Leaf.val l : (List Task)), .agg (Dat.enc fun _ => (Dat.dec s : Set)), Leaf.av fun _ => (Leaf.val first : (List Int)), .i .i64 fun _ => policy (), .i .i64 fun _ => until_ ()]) (FnOk.out (playC_vc (Leaf.val l) (Dat.dec s) (Leaf.val first) (policy ()) (until_ ()) hp) rfl ⟨rfl, rfl⟩) (.mk (Leaf.hle _ g0) (.mk (Dat.hle _ g1) (.mk (Leaf.hle _ g2) (.mk (.mk (.mk rfl) (.mk rfl)) (.mk (.mk (.mk rfl) (.mk rfl)) (trivial))))))
  · cases h
noncomputable def cREa : FuncId → Con := fun f => match f with
  | 13 => inlCon E noCon noDraws [0, 1, 2, 3] Try.f13
  | _ => fun _ _ _ => Bad 1001
theorem cREa_ok : ConOk Try.prog cREa := fun f A H K h => by
  unfold cREa at h
  split at h
  · exact ⟨⟨Try.f13, Try.func13, by kernel_rfl, by kernel_rfl⟩, inl_ok envOk zl noCon_ok noDraws_ok Try.func13 h⟩
  · cases h
noncomputable def cRE : FuncId → Con := fun f => match f with
  | 7 => pureCon (detPC reply_D)
  | 8 => pureCon (detPC rlives_D)
  | 11 => pureCon playC_C
  | 12 => inlCon E cREa noDraws [0, 1, 4, 5, 7, 8, 9, 16] Try.f12
  | _ => fun _ _ _ => Bad 1001
theorem cRE_ok : ConOk Try.prog cRE := fun f A H K h => by
  unfold cRE at h
  split at h
  · exact ⟨⟨Try.f7, Try.func7, by kernel_rfl, by kernel_rfl⟩, pureCon_ok reply_ok h⟩
  · exact ⟨⟨Try.f8, Try.func8, by kernel_rfl, by kernel_rfl⟩, pureCon_ok rlives_ok h⟩
  · exact ⟨⟨Try.f11, Try.func11, by kernel_rfl, by kernel_rfl⟩, pureCon_ok playC_ok h⟩
  · exact ⟨⟨Try.f12, Try.func12, by kernel_rfl, by kernel_rfl⟩, inl_ok envOk zl cREa_ok noDraws_ok Try.func12 h⟩
  · cases h
def dRE : FuncId → Option Dt := fun f => match f with
  | 11 => some (.n playX_N)
  | _ => none
theorem dRE_ok : DetOk Try.prog dRE := fun f d h => by
  unfold dRE at h
  split at h
  · cases h; exact ⟨⟨Try.f11, Try.func11, by kernel_rfl, by kernel_rfl⟩, playX_okN⟩
  · cases h
structure ExX (d : List Done) (i : Int) where
  k : Nat
  hk : k ≤ d.length
  ha : ∀ j, j < k → ¬ ((d.getD j Dat.d0).task = i ∧ (d.getD j Dat.d0).job = 0)
theorem gdm_mem {α : Type} {d : List α} {p : Nat} {x : α} (h : p < d.length) : d.getD p x ∈ d := by
  have e : d.getD p x = d[p] := by simp [h]
  rw [e]; exact List.getElem_mem _
theorem one_all : (Set.mk 1 (slV (.sl 2 (fun _ => 1) fun _ => [.i .i64 fun _ => 0, .i .i64 fun _ => 1]))) = allS := rfl
theorem zer_val (n : Nat) : (slV (.sl 1 (fun _ => n) fun _ => [.i .i64 fun _ => 0]) : List Int) = List.replicate n 0 := by
  have e : (slV (.sl 1 (fun _ => n) fun _ => [.i .i64 fun _ => 0]) : List Int) = lst n fun _ => 0 := rfl
  rw [e, lst, List.map_const', List.length_range]
theorem both_ne (l : List Task) (s : Set) : bothS l s ≠ 11 := by
  unfold bothS tchkV checkV
  repeat' split
  all_goals decide
theorem reply_er {l : List Task} {p : Int} {s : Set} (h : (replyV l p s).2 = 0 ∨ (replyV l p s).2 = 11) : l.all okT = true ∧ 0 ≤ p ∧ p < l.length ∧ replyV l p s = repV l p s := by
  unfold replyV at *
  split at h
  · rename_i hb
    rw [if_pos hb]
    have hb := both_iff.1 hb
    have hc := tchk_iff.1 hb.1
    split at h
    · rcases h with h | h <;> cases h
    · rename_i hn
      rw [if_neg hn]
      exact ⟨hc.2, by omega, by omega, rfl⟩
  · rename_i hb
    rcases h with h | h
    · exact absurd h hb
    · exact absurd h (both_ne l s)
theorem reply_no {l : List Task} {p : Int} {s : Set} (h0 : ¬ (replyV l p s).2 = 0) (h11 : ¬ (replyV l p s).2 = 11) : (replyV l p s).1 = 0 := by
  have hR : replyV l p s = repV l p s → (repV l p s).2 = 0 ∨ (repV l p s).2 = 11 → False := fun e q => by
    rw [← e] at q; rcases q with q | q
    · exact h0 q
    · exact h11 q
  unfold replyV at *
  split
  · rename_i hb
    split
    · rfl
    · rename_i hn
      exfalso
      rw [if_pos hb, if_neg hn] at h0 h11
      have hb := both_iff.1 hb
      have hc := tchk_iff.1 hb.1
      rcases repV_spec (check_iff.1 hb.2) hc.2 (show 0 ≤ p by omega) (show p < l.length by omega) with ⟨r, e, -⟩ | ⟨e, -⟩
      · rw [e] at h0; exact h0 rfl
      · rw [e] at h11; exact h11 rfl
  · rfl
set_option maxRecDepth 100000 in
set_option maxHeartbeats 4000000 in
theorem rexact_vc (l : (List Task)) (i : Int) (fit_l : Siz.fit l) (fit_i : Siz.fit i) (hB : Siz.bulk l + Siz.bulk i ≤ 1048576) : FnOk Try.prog 4 [Leaf.av fun _ => l, .i .i64 fun _ => i] [] (outA (.bc true) []) := by
  refine fn_ok envOk zl cRE_ok (draws_ok envOk zl dRE_ok mixed) (keep := [0, 1, 3, 4, 5, 6, 7, 8, 9, 11, 12, 32, 55, 60]) Try.func4 rfl ?_
  have fin := @fin_b
  have finc := @fin_t
  have hpre : l.length ≤ 1048576 := by
    have h1 := bulk_len (α := Task) Task.one_le l
    simp only [Siz.bulk] at hB h1
    omega
  generalize outA (.bc true) [] = K at fin finc
  cbv
  repeat' first | (show Stp _; exfalso; first | omega | (exact h ‹_›) | (exact absurd ‹_› h) | (exact Bool.false_ne_true (h.symm.trans (show _ = true by assumption)))) | (refine Stp.mk ?_; cbv) | (refine Gen.mk fun r hr => ?_; (try simp only [Dat.ok, Dat.dec, Leaf.ok, Leaf.val, Span.eta, Set.eta, Task.eta, Done.eta, job.eta, Late.eta, val_sl, val_nil] at hr); cbv) | exact trivial | rfl | refine Both.mk ?_ ?_ | (refine Imp.mk fun h => ?_; (try dsimp only at h); (try simp only [nc, Int.toNat_natCast, ne_eq, zz] at h); (try simp only [nc] at h)) | refine Ob.mk ?_ ?_ | refine Chk.mk (by kernel_rfl) ?_ | refine Eq'.mk ?_ | (refine AllN.mk fun i hi => ?_; cbv) | (refine AllC.mk fun c hc hcm => ?_; (try dsimp only at hc); cbv) | (refine AllS.mk fun r hr => ?_; (try simp only [Dat.ok, Dat.dec, Leaf.ok, Leaf.val, Span.eta, Set.eta, Task.eta, Done.eta, job.eta, Late.eta, val_sl] at hr); cbv)
  all_goals ((try dsimp only at *); (try simp only [nc, Int.toNat_natCast, ne_eq, zz] at *); (try simp only [nc] at *))
  all_goals try simp only [Dat.dec, Leaf.val, Span.eta, Set.eta, Task.eta, Done.eta, job.eta, Late.eta, val_sl, one_all, zer_val] at *
  all_goals try (first
    | exact finc
    | exact Nat.le_refl _
    | exact ⟨⟨rfl, fun i _ => Dat.hok _⟩, ⟨trivial, rfl, fun i _ => ⟨trivial, trivial⟩⟩, show l.length ≤ _ by omega, show (1 : Nat) ≤ _ by decide⟩
    | (refine fin ?_
       rw [reply_no (by assumption) (by assumption)]
       rfl))
  all_goals try (
    obtain ⟨r1, r2, r3, r4⟩ := reply_er (l := l) (p := i) (s := allS) (by first | exact .inr (by assumption) | exact .inl (by assumption))
    first
      | exact ⟨by omega, by omega⟩
      | exact ⟨by omega, by omega, by omega, by omega⟩
      | exact ⟨Nat.le_refl _, Nat.le_refl _, ⟨⟨rfl, fun i _ => Dat.hok _⟩, ⟨trivial, rfl, fun i _ => ⟨trivial, trivial⟩⟩, ⟨rfl, fun i _ => trivial⟩, show l.length ≤ _ by omega, show (1 : Nat) ≤ _ by decide, show (List.replicate l.length (0 : Int)).length ≤ _ by rw [List.length_replicate]; omega⟩, fun _ _ => rfl⟩)
  all_goals obtain ⟨r1, r2, r3, r4⟩ := reply_er (l := l) (p := i) (s := allS) (by first | exact .inr (by assumption) | exact .inl (by assumption))
  all_goals have hE : (playJ l allS (List.replicate l.length 0) 2 (l.getD i.toNat Dat.d0).due).2.2 = 0 := by assumption
  all_goals have hX := reply_exact r2 r3 (good0_of hE) (fun x hx => (List.mem_replicate.1 hx).2)
  all_goals have hPL := play_len3 (l := l) (s := allS) (first := List.replicate l.length 0) (policy := 2) (u := (l.getD i.toNat Dat.d0).due)
  all_goals obtain ⟨_, _, _, _, _, _, e1⟩ := playJ_ok hE
  all_goals have e2 := (congrArg Prod.fst e1).symm
  all_goals dsimp only at e2
  all_goals rw [decide_eq_true (rfl : (2 : Int) = 2)] at e2
  all_goals unfold st0 at hX
  all_goals rw [e2] at hX
  all_goals rw [← r4] at hX
  all_goals clear e1 e2 hE
  all_goals revert hX hPL
  all_goals generalize (playJ l allS (List.replicate l.length 0) 2 (l.getD i.toNat Dat.d0).due).1 = d
  all_goals intro hX hPL
  all_goals refine LoopVC.frame [4, 5, 8, 9, 16] (ExX d i) (fun x => [(8, .i .i64 fun _ => x.k)]) (fun _ => []) [] (fun x => d.length - x.k) ⟨0, Nat.zero_le _, fun i hi => absurd hi (Nat.not_lt_zero _)⟩ rfl (fun _ => rfl) ?_ ?_ fun ⟨m, hm, ha⟩ => ?_
  all_goals cbv
  repeat' first | (show Stp _; exfalso; first | omega | (exact h ‹_›) | (exact absurd ‹_› h) | (exact Bool.false_ne_true (h.symm.trans (show _ = true by assumption)))) | (refine Stp.mk ?_; cbv) | (refine Gen.mk fun r hr => ?_; (try simp only [Dat.ok, Dat.dec, Leaf.ok, Leaf.val, Span.eta, Set.eta, Task.eta, Done.eta, job.eta, Late.eta, val_sl, val_nil] at hr); cbv) | exact trivial | rfl | refine Both.mk ?_ ?_ | (refine Imp.mk fun h => ?_; (try dsimp only at h); (try simp only [nc, Int.toNat_natCast, ne_eq, zz] at h); (try simp only [nc] at h)) | refine Ob.mk ?_ ?_ | refine Chk.mk (by kernel_rfl) ?_ | refine Eq'.mk ?_ | (refine AllN.mk fun i hi => ?_; cbv) | (refine AllC.mk fun c hc hcm => ?_; (try dsimp only at hc); cbv) | (refine AllS.mk fun r hr => ?_; (try simp only [Dat.ok, Dat.dec, Leaf.ok, Leaf.val, Span.eta, Set.eta, Task.eta, Done.eta, job.eta, Late.eta, val_sl] at hr); cbv)
  all_goals ((try dsimp only at *); (try simp only [nc, Int.toNat_natCast, ne_eq, zz] at *); (try simp only [nc] at *))
  all_goals try rw [nc] at *
  all_goals try simp only [Dat.dec, Leaf.val, Span.eta, Set.eta, Task.eta, Done.eta, job.eta, Late.eta, val_sl] at *
  all_goals try (first
    | omega
    | (unfold InR; omega)
    | exact ⟨by omega, by omega⟩
    | exact Nat.le_refl _)
  all_goals try (
    have hmd : m < d.length := by omega
    first
      | (refine ⟨⟨m + 1, by omega, fun j hj => ?_⟩, ?_, ?_, rfl, by (try dsimp only); omega⟩
         · rcases Nat.lt_or_ge j m with h1 | h1
           · exact ha j h1
           · have e0 : j = m := by omega
             rw [e0]
             first
               | (intro q; exact (by assumption : ¬ (d.getD m Dat.d0).job = 0) q.2)
               | (intro q; exact (by assumption : ¬ (d.getD m Dat.d0).task = i) q.1)
         · cbv
           repeat' first | (refine Stp.mk ?_; cbv) | (refine Gen.mk fun r hr => ?_; (try simp only [Dat.ok, Dat.dec, Leaf.ok, Leaf.val, Span.eta, Set.eta, Task.eta, Done.eta, job.eta, Late.eta, val_sl, val_nil] at hr); cbv) | exact trivial | rfl | refine Both.mk ?_ ?_ | (refine Imp.mk fun h => ?_; (try dsimp only at h); (try simp only [nc, Int.toNat_natCast, ne_eq, zz] at h); (try simp only [nc] at h)) | refine Ob.mk ?_ ?_ | refine Chk.mk (by kernel_rfl) ?_ | refine Eq'.mk ?_ | (refine AllN.mk fun i hi => ?_; cbv) | (refine AllC.mk fun c hc hcm => ?_; (try dsimp only at hc); cbv) | (refine AllS.mk fun r hr => ?_; (try simp only [Dat.ok, Dat.dec, Leaf.ok, Leaf.val, Span.eta, Set.eta, Task.eta, Done.eta, job.eta, Late.eta, val_sl] at hr); cbv)
         · cbv
           repeat' first | (refine Stp.mk ?_; cbv) | (refine Gen.mk fun r hr => ?_; (try simp only [Dat.ok, Dat.dec, Leaf.ok, Leaf.val, Span.eta, Set.eta, Task.eta, Done.eta, job.eta, Late.eta, val_sl, val_nil] at hr); cbv) | exact trivial | rfl | refine Both.mk ?_ ?_ | (refine Imp.mk fun h => ?_; (try dsimp only at h); (try simp only [nc, Int.toNat_natCast, ne_eq, zz] at h); (try simp only [nc] at h)) | refine Ob.mk ?_ ?_ | refine Chk.mk (by kernel_rfl) ?_ | refine Eq'.mk ?_ | (refine AllN.mk fun i hi => ?_; cbv) | (refine AllC.mk fun c hc hcm => ?_; (try dsimp only at hc); cbv) | (refine AllS.mk fun r hr => ?_; (try simp only [Dat.ok, Dat.dec, Leaf.ok, Leaf.val, Span.eta, Set.eta, Task.eta, Done.eta, job.eta, Late.eta, val_sl] at hr); cbv))
      | (have hmm := gdm_mem (x := Dat.d0) hmd
         exfalso
         rcases hX with ⟨x1, x2, x3, x4, x5⟩ | ⟨x1, x2⟩
         · omega
         · exact x2 _ hmm ⟨by assumption, by assumption⟩)
      | (have hmm := gdm_mem (x := Dat.d0) hmd
         rcases hX with ⟨x1, x2, x3, x4, x5⟩ | ⟨x1, x2⟩
         · first
             | (refine fin ?_
                exact decide_eq_true (by omega))
             | (exfalso
                exact absurd (x5 _ hmm (by assumption) (by assumption)) (by assumption))
             | (exfalso; omega)
         · exfalso
           exact x2 _ hmm ⟨by assumption, by assumption⟩))
  all_goals first
    | (refine fin ?_
       exact decide_eq_true (by decide))
    | (exfalso
       rcases hX with ⟨x1, x2, x3, ⟨y, y1, y2, y3⟩, x5⟩ | ⟨x1, x2⟩
       · obtain ⟨j, hj, e⟩ := List.getElem_of_mem y1
         refine ha j (by omega) ?_
         rw [List.getD_eq_getElem?_getD, List.getElem?_eq_getElem hj, Option.getD_some, e]
         exact ⟨y2, y3⟩
       · have q0 : (replyV l i allS).2 = 0 := by assumption
         rw [x1] at q0
         cases q0)
    | fail
section
open Go.ChangeShapes Go.WideShapes Go.ChangeAt Go.RowKit Go.Joins Go.Deep
set_option linter.unusedVariables false
theorem rexact_own : ownKnob Try.prog.godebug = none := by kernel_rfl
theorem rexact_laidOut : laidOutB Try.prog = true := by kernel_rfl
theorem rexact_readOk {ts : Array TypeId} (h : ts.toList.all (fun t => Try.prog.readableRec t && decide (t < Try.prog.types.size)) = true) : ∀ t ∈ ts.toList, Try.prog.readableRec t = true ∧ t < Try.prog.types.size := fun t ht => by
  have := List.all_eq_true.1 h t ht
  simpa using this
mutual
theorem rexact_bD {H : Type} : ∀ d : DataW H, Rows.uptoBulk d = bulkD d
  | .lit l => by cases l <;> simp [Rows.uptoBulk, bulkD]
  | .nil => by simp [Rows.uptoBulk, bulkD]
  | .ptr d => by simp [Rows.uptoBulk, bulkD, rexact_bD d]
  | .slice a b => by simp [Rows.uptoBulk, bulkD, rexact_bL a, rexact_bL b]
  | .agg a => by simp [Rows.uptoBulk, bulkD, rexact_bL a]
  | .iface _ d => by simp [Rows.uptoBulk, bulkD, rexact_bD d]
  | .map e => by simp [Rows.uptoBulk, bulkD, rexact_bE e]
  | .held _ => by simp [Rows.uptoBulk, bulkD]
theorem rexact_bL {H : Type} : ∀ d : List (DataW H), Rows.uptoBulkAll d = bulkL d
  | [] => by simp [Rows.uptoBulkAll, bulkL]
  | d :: r => by simp [Rows.uptoBulkAll, bulkL, rexact_bD d, rexact_bL r]
theorem rexact_bE {H : Type} : ∀ d : List (Lit × DataW H), Rows.uptoBulkEntries d = bulkE d
  | [] => by simp [Rows.uptoBulkEntries, bulkE]
  | d :: r => by simp [Rows.uptoBulkEntries, bulkE, rexact_bX d, rexact_bE r]
theorem rexact_bX {H : Type} : ∀ d : Lit × DataW H, Rows.uptoBulkEntry d = bulkX d
  | (l, d) => by cases l <;> simp [Rows.uptoBulkEntry, bulkX, rexact_bD d]
end
set_option maxRecDepth 100000 in
theorem rexact_lifted (os : Os) (started : os.Started) (H : Type) (enc : TypeId × Value → H) (F : Stop.Interp) :
    ReturnsInHanded {} Try.checked os 4 .any ((Rows.OpenSpec.upto Rows.replyExactSpec).pre6 enc Try.prog Try.f4 Rows.replyExactUptoRow.domain false) (((Rows.OpenSpec.upto Rows.replyExactSpec).at F).post enc Try.prog Try.f4 false true false false) := by
  refine returnsInHanded_of_cond (C := Try.checked) (s := Rows.OpenSpec.upto Rows.replyExactSpec) (k := Rows.uptoSmall) rfl rexact_own started (by kernel_rfl) Try.func4
    (OpenSpec.witness (enc := enc) (C := Try.checked) (s := Rows.OpenSpec.upto Rows.replyExactSpec) (k := Rows.uptoSmall) rfl false ⟨#[], #[.slice none 0 0, .int .i64 0], []⟩ 8 (by kernel_rfl) (by kernel_rfl) (by kernel_rfl)
      (x := ([.nil, .lit (.int .i64 0)], [], [])) (by kernel_rfl) rfl (by kernel_rfl)) ?_
  intro W base args ds gs before hval0 hW _ hk _
  show Calls Try.prog 4 args W fun e W' => ∃ v, e = .returned v ∧ Rows.replyExactSpec.post enc Try.prog Try.f4 false true false false W args v W'
  have hval : ∀ (j : Nat) t v, Try.f4.params[j]? = some t → args[j]? = some v → Value.okWide Try.prog W .any base t v := hval0
  have hW' := hW
  have hlt := hW.lt
  obtain ⟨p, q, hA0, hV, rfl, hfz, hnd⟩ := hW
  have hA : DataW.TrodAll enc Try.prog W 0 (fun _ => true) true Try.f4.params.toList args.toList ds p := hA0
  have hA1 := hA
  rw [Try.params4] at hA hval
  obtain ⟨v0, vs0, d0, ds0, p0, q0, hargs, rfl, rfl, h0, r0⟩ := trodAll_cons hA
  obtain ⟨v1, vs1, d1, ds1, p1, q1, rfl, rfl, rfl, h1, r1⟩ := trodAll_cons r0
  obtain ⟨rfl, rfl, rfl⟩ := trodAll_nil r1
  obtain rfl : args = #[v0, v1] := by cases args; simp_all
  obtain ⟨rfl, rfl⟩ := trodVars_none hV
  obtain ⟨z0, z'0, z''0, rfl⟩ := okWide_slice Try.underlying22 (hval 0 22 v0 rfl rfl)
  obtain ⟨y0, u0, b0, e0⟩ := arg_leaf (α := (List Task)) (opn_slice Try.underlying22 (by kernel_rfl) (by decide) opn_Task) rfl h0
  obtain ⟨z1, rfl⟩ := okWide_int Try.underlying3 (hval 1 3 v1 rfl rfl)
  obtain ⟨y1, u1, b1, e1⟩ := arg_leaf (α := Int) (opn_int Try.underlying3) rfl h1
  have hB : Siz.bulk y0 + Siz.bulk y1 ≤ 1048576 := by
    have h := of_decide_eq_true hk
    rw [rexact_bL] at h
    simp only [List.append_nil, bulkL] at h
    omega
  have hR := repL_cons (M := fun _ => False) (β := fun _ => none) (cp := fun _ => 0) (.c e0) (repL_cons (M := fun _ => False) (β := fun _ => none) (cp := fun _ => 0) (.c e1) (repL_nil))
  refine (law_callsA (rexact_vc y0 y1 u0 u1 hB) hR).mono fun e W' ⟨he, bel⟩ => ?_
  subst he
  exact ⟨_, rfl, _, _, _, [], _, [], hW', trodAll_mk1 (shut_bool Try.underlying4 _), trodAll_below rexact_laidOut bel (rexact_readOk (by kernel_rfl)) (fun x hx => hlt x (List.mem_append_left _ hx)) hA1, rfl, bel.frame _, fun h => by cases h⟩
theorem ReplyExact_proved : Rows.ReplyExactUptoSaid :=
  OpenClaim.holds_of_cond 4 Try.f4 rfl rfl rfl rfl rfl rfl rfl ⟨rfl, rfl, rfl, rfl, rfl⟩ rfl rfl rfl rfl rfl (by kernel_rfl) Try.func4 (by kernel_rfl)
    (of_decide_eq_true (by kernel_rfl)) (by unfold Func.isWrapper; first | (rw [if_pos (by decide +kernel)]; kernel_rfl) | (rw [if_neg (by decide +kernel)]; exact ⟨rfl, rfl⟩))
    (fun os started H enc _ F => rexact_lifted os started H enc F)
end

end Go.Proofs.Ytcnfdohlgmipoaa
