/- Whoever is behind a task is no matter to it; with one less ahead of it, or one that needs less, it takes no longer; for all inputs. -/
import Derived.Test.YtabchkekhpmpiaaReplyP
import Derived.Test.YtabchkekhpmpiaaDel
set_option linter.all false
namespace Go.Proofs.Ytabchkekhpmpiaa
open Go Go.Abs

theorem take_val {l : List Task} {n : Nat} (h : n ≤ l.length) : slV (α := Task) (.sl 3 (fun _ => n) fun k => Dat.enc fun _ => l.getD (k () + Int.toNat 0) Dat.d0) = l.take n := by
  simp only [slV, Dat.hdec]
  refine lst_eq (d := Dat.d0) (by rw [List.length_take]; omega) fun i hi => ?_
  rw [take_getD hi]; rfl
theorem setT_get {l : List Task} {i j : Nat} {t : Task} (hj : j < l.length) : (l.set i t).getD j Dat.d0 = if j = i then t else l.getD j Dat.d0 := by
  rw [List.getD_eq_getElem?_getD, List.getElem?_set]
  by_cases h : i = j
  · subst h; rw [if_pos rfl, if_pos hj, if_pos rfl]; rfl
  · rw [if_neg h, if_neg (fun q => h q.symm), List.getD_eq_getElem?_getD]
theorem setT_val {l : List Task} {i : Nat} {t : Task} (f : (PUnit → Nat) → List AV) (hf : ∀ j, j < l.length → (Dat.dec (f fun _ => j) : Task) = if j = i then t else l.getD j Dat.d0) :
    slV (α := Task) (.sl 3 (fun _ => l.length) f) = l.set i t := by
  refine lst_eq (d := Dat.d0) (by rw [List.length_set]) fun j hj => ?_
  rw [hf j hj, setT_get hj]
theorem delU_sub {l : List Task} {i : Nat} (hi : i < l.length) : (delU l i (i + 1)).Sublist l := by
  have : (l.take i ++ l.drop (i + 1)).Sublist (l.take i ++ l.drop i) := (List.Sublist.refl _).append (by rw [drop_cons Dat.d0 hi]; exact (List.Sublist.refl _).cons _)
  rwa [List.take_append_drop] at this
theorem all_sub {m l : List Task} (h : m.Sublist l) (ho : l.all okT = true) : m.all okT = true := by
  rw [List.all_eq_true] at *
  exact fun x hx => ho x (h.subset hx)
theorem delU_take {l : List Task} {i p : Nat} (hi : i < p) (hp : p ≤ l.length) : (delU l i (i + 1)).take (p - 1) = delU (l.take p) i (i + 1) := by
  unfold delU
  rw [List.take_append, List.take_take, List.take_take, List.length_take, List.drop_take, Nat.min_eq_right (by omega), Nat.min_eq_left (by omega), Nat.min_eq_left (by omega)]
  congr 2
  omega
theorem delU_at {l : List Task} {i p : Nat} (hi : i < p) (hp : p < l.length) : (delU l i (i + 1)).getD (p - 1) Dat.d0 = l.getD p Dat.d0 := by
  rw [delU_get (by omega) (by omega) (by omega), decide_eq_true (by omega), cond_true]
  congr 1; omega
theorem needS_set {n : Int} {t' : Task} : ∀ {l : List Task} {i : Nat}, (∀ h : i < l.length, (n + t'.every - 1).tdiv t'.every * t'.long ≤ (n + l[i].every - 1).tdiv l[i].every * l[i].long) → needS n (l.set i t') ≤ needS n l
  | [], _, _ => by simp
  | x :: r, 0, h => by
    have : (n + t'.every - 1).tdiv t'.every * t'.long ≤ (n + x.every - 1).tdiv x.every * x.long := h (by simp)
    rw [List.set_cons_zero, needS, needS]; omega
  | x :: r, i + 1, h => by
    have := needS_set (n := n) (t' := t') (l := r) (i := i) fun hi => h (by simp; omega)
    rw [List.set_cons_succ, needS, needS]; omega
def oneT (t : Task) : Task := ⟨1, t.every, t.due⟩
structure Ahead (l : List Task) (x k : Int) (s : Set) : Prop where
  tk : (replyV (l.take (x + 1).toNat) x s).2 = 0 ∧ (replyV (l.take (x + 1).toNat) x s).1 = (replyV l x s).1
  del : (replyV (delU l k.toNat (k.toNat + 1)) (x - 1) s).2 = 0 ∧ (replyV (delU l k.toNat (k.toNat + 1)) (x - 1) s).1 ≤ (replyV l x s).1
  one : (replyV (l.set k.toNat (oneT (l.getD k.toNat Dat.d0))) x s).2 = 0 ∧ (replyV (l.set k.toNat (oneT (l.getD k.toNat Dat.d0))) x s).1 ≤ (replyV l x s).1
theorem ahead {l : List Task} {x k : Int} {s : Set} (h : (replyV l x s).2 = 0) (h0 : 0 ≤ k) (h1 : k < x) : Ahead l x k s := by
  obtain ⟨a1, a2, a3, a4, a5, a6⟩ := reply_rt h
  rw [a6] at h
  have he : repV l x s = ((repV l x s).1, 0) := Prod.ext rfl h
  have hK : k.toNat < x.toNat := by omega
  have hX : x.toNat < l.length := by omega
  have hti := tk_get (show k.toNat < l.length by omega) a2
  have hto := okT_iff.1 hti
  refine ⟨?_, ?_, ?_⟩
  · have hl : (l.take (x + 1).toNat).length = x.toNat + 1 := by rw [List.length_take]; omega
    have hok := all_take2 (x + 1).toNat a2
    have hg : (l.take (x + 1).toNat).getD x.toNat Dat.d0 = l.getD x.toNat Dat.d0 := take_getD (by omega)
    have hn : ∀ n, needV (l.take (x + 1).toNat) x n = needV l x n := fun n => by
      unfold needV
      rw [hg, List.take_take, Nat.min_eq_left (by omega)]
    rw [reply_go (by omega) hok a3 a4 (by omega), a6]
    have c1 := rep_less a3 a2 a4 a5 hok a4 (by omega) he (by rw [hg]; exact Int.le_refl _) fun n _ => by rw [hn]; exact Int.le_refl _
    have he2 : repV (l.take (x + 1).toNat) x s = ((repV (l.take (x + 1).toNat) x s).1, 0) := Prod.ext rfl c1.1
    have c2 := rep_less a3 hok a4 (by omega) a2 a4 a5 he2 (by rw [hg]; exact Int.le_refl _) fun n _ => by rw [hn]; exact Int.le_refl _
    exact ⟨c1.1, by omega⟩
  · have hl : (delU l k.toNat (k.toNat + 1)).length = l.length - 1 := by rw [delU_len (by omega) (by omega)]; omega
    have hok := all_sub (delU_sub (show k.toNat < l.length by omega)) a2
    have hx1 : (x - 1).toNat = x.toNat - 1 := by omega
    have hg : (delU l k.toNat (k.toNat + 1)).getD (x - 1).toNat Dat.d0 = l.getD x.toNat Dat.d0 := by rw [hx1]; exact delU_at hK hX
    rw [reply_go (by omega) hok a3 (by omega) (by omega), a6]
    refine rep_less a3 a2 a4 a5 hok (by omega) (by omega) he (by rw [hg]; exact Int.le_refl _) fun n hn => ?_
    unfold needV
    rw [hg, hx1, delU_take hK (by omega)]
    have := needS_sub hn (delU_sub (l := l.take x.toNat) (i := k.toNat) (by rw [List.length_take]; omega)) (all_take2 x.toNat a2)
    omega
  · have hok : (l.set k.toNat (oneT (l.getD k.toNat Dat.d0))).all okT = true := by
      rw [List.all_eq_true]
      intro y hy
      rcases List.mem_or_eq_of_mem_set hy with hy | rfl
      · exact List.all_eq_true.1 a2 y hy
      · exact okT_iff.2 (by unfold oneT; dsimp only; omega)
    have hg : (l.set k.toNat (oneT (l.getD k.toNat Dat.d0))).getD x.toNat Dat.d0 = l.getD x.toNat Dat.d0 := by rw [setT_get hX, if_neg (by omega)]
    rw [reply_go (by rw [List.length_set]; omega) hok a3 a4 (by rw [List.length_set]; omega), a6]
    refine rep_less a3 a2 a4 a5 hok a4 (by rw [List.length_set]; omega) he (by rw [hg]; exact Int.le_refl _) fun n hn => ?_
    unfold needV
    rw [hg, List.take_set]
    have := needS_set (n := n) (t' := oneT (l.getD k.toNat Dat.d0)) (l := l.take x.toNat) (i := k.toNat) fun hi => by
      have e : (l.take x.toNat)[k.toNat] = l.getD k.toNat Dat.d0 := by
        rw [List.getElem_take, List.getD_eq_getElem?_getD, List.getElem?_eq_getElem (by omega)]; rfl
      rw [e]
      show (n + (l.getD k.toNat Dat.d0).every - 1).tdiv (l.getD k.toNat Dat.d0).every * 1 ≤ _
      rw [Int.tdiv_eq_ediv_of_nonneg (by omega)]
      exact Int.mul_le_mul_of_nonneg_left (by omega) (Int.ediv_nonneg (by omega) (by omega))
    omega
noncomputable def cRA : FuncId → Con := fun f => match f with
  | 16 => pureCon (detPC reply_D)
  | 17 => pureCon (detPC rlives_D)
  | 19 => pureCon clTask_C
  | 18 => dlTask_K
  | _ => fun _ _ _ => Bad 1001
theorem cRA_ok : ConOk Try.prog cRA := fun f A H K h => by
  unfold cRA at h
  split at h
  · exact ⟨⟨Try.f16, Try.func16, by kernel_rfl, by kernel_rfl⟩, pureCon_ok reply_ok h⟩
  · exact ⟨⟨Try.f17, Try.func17, by kernel_rfl, by kernel_rfl⟩, pureCon_ok rlives_ok h⟩
  · exact ⟨⟨Try.f19, Try.func19, by kernel_rfl, by kernel_rfl⟩, pureCon_ok clTask_ok h⟩
  · exact ⟨⟨Try.f18, Try.func18, by kernel_rfl, by kernel_rfl⟩, dlTask_ok h⟩
  · cases h
def dRA : FuncId → Option Dt := fun f => match f with
  | 19 => some (.n clTaskN_N)
  | 18 => some (.o (ownDet Task 32 dlTask_S))
  | 16 => some (.c reply_D)
  | _ => none
theorem dRA_ok : DetOk Try.prog dRA := fun f d h => by
  unfold dRA at h
  split at h
  · cases h; exact ⟨⟨Try.f19, Try.func19, by kernel_rfl, by kernel_rfl⟩, clTaskN_okN⟩
  · cases h; exact ⟨⟨Try.f18, Try.func18, by kernel_rfl, by kernel_rfl⟩, dlTask_okO⟩
  · cases h; exact ⟨⟨Try.f16, Try.func16, by kernel_rfl, by kernel_rfl⟩, reply_ok⟩
  · cases h
set_option maxRecDepth 100000 in
set_option maxHeartbeats 4000000 in
theorem rahead_vc (l : (List Task)) (x : Int) (k : Int) (s : Set) (fit_l : Siz.fit l) (fit_x : Siz.fit x) (fit_k : Siz.fit k) (fit_s : Siz.fit s) (hB : Siz.bulk l + Siz.bulk x + Siz.bulk k + Siz.bulk s ≤ 1048576) : FnOk Try.prog 3 [Leaf.av fun _ => l, .i .i64 fun _ => x, .i .i64 fun _ => k, .agg (Dat.enc fun _ => s)] [] (outA (.bc true) []) := by
  refine fn_ok envOk zl cRA_ok (draws_ok envOk zl dRA_ok mixed) (keep := [0, 1, 2, 3, 7, 8, 9, 10, 11, 12, 13, 14, 15, 16, 17, 39]) Try.func3 rfl ?_
  have fin := @fin_b
  have finc := @fin_t
  have hl : l.length ≤ 1048576 ∧ s.spans.length ≤ 1048576 := by
    have h2 := bulk_len Span.one_le s.spans
    have h1 := bulk_len (α := Task) Task.one_le l
    simp only [Siz.bulk] at hB h1 h2
    omega
  generalize outA (.bc true) [] = K at fin finc
  cbv
  repeat' first | (show Stp _; exfalso; first | omega | (exact h ‹_›) | (exact absurd ‹_› h) | (exact Bool.false_ne_true (h.symm.trans (show _ = true by assumption)))) | (refine Stp.mk ?_; cbv) | (refine Gen.mk fun r hr => ?_; (try simp only [Dat.ok, Dat.dec, Leaf.ok, Leaf.val, Span.eta, Set.eta, Task.eta, Done.eta, Late.eta, val_sl, val_nil] at hr); cbv) | exact trivial | rfl | refine Both.mk ?_ ?_ | (refine Imp.mk fun h => ?_; (try dsimp only at h); (try simp only [nc, Int.toNat_natCast, Bool.not_eq_true', Bool.not_eq_false', decide_eq_true_eq, decide_eq_false_iff_not, beq_iff_eq, beq_eq_false_iff_ne, ba_inj, bne_iff_ne, ne_eq, Bool.and_eq_true, Bool.or_eq_true, Bool.and_eq_false_iff, Bool.or_eq_false_iff, Int.not_le, Int.not_lt, Nat.not_le, Nat.not_lt] at h); (try simp only [nc] at h)) | refine Ob.mk ?_ ?_ | refine Chk.mk (by kernel_rfl) ?_ | refine Eq'.mk ?_ | (refine AllN.mk fun i hi => ?_; cbv) | (refine AllS.mk fun r hr => ?_; (try simp only [Dat.ok, Dat.dec, Leaf.ok, Leaf.val, Span.eta, Set.eta, Task.eta, Done.eta, Late.eta, val_sl] at hr); cbv)
  all_goals ((try dsimp only at *); (try simp only [nc, Int.toNat_natCast, Bool.not_eq_true', Bool.not_eq_false', decide_eq_true_eq, decide_eq_false_iff_not, beq_iff_eq, beq_eq_false_iff_ne, ba_inj, bne_iff_ne, ne_eq, Bool.and_eq_true, Bool.or_eq_true, Bool.and_eq_false_iff, Bool.or_eq_false_iff, Int.not_le, Int.not_lt, Nat.not_le, Nat.not_lt] at *); (try simp only [nc] at *))
  all_goals try simp only [Dat.dec, Leaf.val, Span.eta, Set.eta, Task.eta, Done.eta, Late.eta, val_sl] at *
  all_goals try (have hq2 : _ = r := hr.symm; clear hr; subst hq2)
  all_goals try (rename (_ = l) => hq3; have hq4 := hq3.symm; clear hq3; subst hq4)
  all_goals try (rename (_ = l) => hq3; have hq4 := hq3.symm; clear hq3; subst hq4)
  all_goals first
    | exact finc
    | exact ⟨⟨rfl, fun i _ => Dat.hok _⟩, show _ ≤ _ by omega⟩
    | exact ⟨⟨rfl, fun i _ => Dat.hok _⟩, ⟨trivial, rfl, fun i _ => Dat.hok _⟩, show _ ≤ _ by omega, show _ ≤ _ by omega⟩
    | skip
  all_goals obtain ⟨b1, b2, b3, b4, b5, b6⟩ := reply_rt (by assumption : (replyV l x s).2 = 0)
  all_goals have hA := ahead (k := k) (by assumption : (replyV l x s).2 = 0) (by omega) (by omega)
  all_goals have hk : (k + 1).toNat = k.toNat + 1 := (by omega)
  all_goals have hN : dlTask_N l k (k + 1) = (delU l k.toNat (k.toNat + 1)).length := (by rw [← hk]; rfl)
  all_goals have hF : dlTask_F l k (k + 1) = delU l k.toNat (k.toNat + 1) := (by rw [← hk]; rfl)
  all_goals have hdl : (delU l k.toNat (k.toNat + 1)).length ≤ 1048576 := (by rw [delU_len (by omega) (by omega)]; omega)
  all_goals have htv := take_val (l := l) (n := (x + 1).toNat) (by omega)
  all_goals try simp only [Int.sub_zero] at *
  all_goals try simp only [hN, hF, val_sl, htv] at *
  all_goals first
    | omega
    | exact Nat.le_refl _
    | exact ⟨by omega, by omega⟩
    | exact ⟨by omega, by omega, by omega⟩
    | (unfold InR; omega)
    | exact ⟨⟨rfl, fun i _ => Dat.hok _⟩, ⟨trivial, rfl, fun i _ => Dat.hok _⟩, show (l.take _).length ≤ _ by rw [List.length_take]; omega, show _ ≤ _ by omega⟩
    | exact ⟨rfl, trivial, fun i _ => Dat.hok _, by omega, by omega, by omega, by omega, by omega⟩
    | exact ⟨Nat.le_refl _, (fun _ h => by cases h), ⟨⟨rfl, fun i _ => Dat.hok _⟩, ⟨trivial, rfl, fun i _ => Dat.hok _⟩, show _ ≤ _ by omega, show _ ≤ _ by omega⟩⟩
    | exact ⟨Nat.le_refl _, ⟨⟨rfl, fun i _ => Dat.hok _⟩, ⟨trivial, rfl, fun i _ => Dat.hok _⟩, show _ ≤ _ by omega, show _ ≤ _ by omega⟩⟩
    | exact absurd hA.tk.1 (by assumption)
    | exact absurd hA.tk.2 (by assumption)
    | exact absurd hA.del.1 (by assumption)
    | (exfalso; have a := hA.del.2; omega)
    | (rw [setT_val (i := k.toNat) (t := oneT (l.getD k.toNat Dat.d0))]
       · exact ⟨⟨rfl, fun i _ => ⟨trivial, trivial, trivial⟩⟩, ⟨trivial, rfl, fun i _ => Dat.hok _⟩, show (l.set _ _).length ≤ _ by rw [List.length_set]; omega, show _ ≤ _ by omega⟩
       · intro j hj
         by_cases hjk : j = k.toNat
         · simp only [hjk, decide_true, if_true]
           rfl
         · simp only [hjk, decide_false, if_false]
           rfl)
    | (refine fin (decide_eq_true ?_)
       rw [setT_val (i := k.toNat) (t := oneT (l.getD k.toNat Dat.d0))]
       · exact hA.one.2
       · intro j hj
         by_cases hjk : j = k.toNat
         · simp only [hjk, decide_true, if_true]
           rfl
         · simp only [hjk, decide_false, if_false]
           rfl)
    | (exfalso
       rename ¬ (replyV (slV _) x s).2 = 0 => hbad
       rw [setT_val (i := k.toNat) (t := oneT (l.getD k.toNat Dat.d0))] at hbad
       · exact hbad hA.one.1
       · intro j hj
         by_cases hjk : j = k.toNat
         · simp only [hjk, decide_true, if_true]
           rfl
         · simp only [hjk, decide_false, if_false]
           rfl)
    | fail
section
open Go.ChangeShapes Go.WideShapes Go.ChangeAt Go.RowKit Go.Joins Go.Deep
set_option linter.unusedVariables false
theorem rahead_own : ownKnob Try.prog.godebug = none := by kernel_rfl
theorem rahead_laidOut : laidOutB Try.prog = true := by kernel_rfl
theorem rahead_readOk {ts : Array TypeId} (h : ts.toList.all (fun t => Try.prog.readableRec t && decide (t < Try.prog.types.size)) = true) : ∀ t ∈ ts.toList, Try.prog.readableRec t = true ∧ t < Try.prog.types.size := fun t ht => by
  have := List.all_eq_true.1 h t ht
  simpa using this
mutual
theorem rahead_bD {H : Type} : ∀ d : DataW H, Rows.uptoBulk d = bulkD d
  | .lit l => by cases l <;> simp [Rows.uptoBulk, bulkD]
  | .nil => by simp [Rows.uptoBulk, bulkD]
  | .ptr d => by simp [Rows.uptoBulk, bulkD, rahead_bD d]
  | .slice a b => by simp [Rows.uptoBulk, bulkD, rahead_bL a, rahead_bL b]
  | .agg a => by simp [Rows.uptoBulk, bulkD, rahead_bL a]
  | .iface _ d => by simp [Rows.uptoBulk, bulkD, rahead_bD d]
  | .map e => by simp [Rows.uptoBulk, bulkD, rahead_bE e]
  | .held _ => by simp [Rows.uptoBulk, bulkD]
theorem rahead_bL {H : Type} : ∀ d : List (DataW H), Rows.uptoBulkAll d = bulkL d
  | [] => by simp [Rows.uptoBulkAll, bulkL]
  | d :: r => by simp [Rows.uptoBulkAll, bulkL, rahead_bD d, rahead_bL r]
theorem rahead_bE {H : Type} : ∀ d : List (Lit × DataW H), Rows.uptoBulkEntries d = bulkE d
  | [] => by simp [Rows.uptoBulkEntries, bulkE]
  | d :: r => by simp [Rows.uptoBulkEntries, bulkE, rahead_bX d, rahead_bE r]
theorem rahead_bX {H : Type} : ∀ d : Lit × DataW H, Rows.uptoBulkEntry d = bulkX d
  | (l, d) => by cases l <;> simp [Rows.uptoBulkEntry, bulkX, rahead_bD d]
end
set_option maxRecDepth 100000 in
theorem rahead_lifted (os : Os) (started : os.Started) (H : Type) (enc : TypeId × Value → H) (F : Stop.Interp) :
    ReturnsInHanded {} Try.checked os 3 .any ((Rows.OpenSpec.upto Rows.replyAheadSpec).pre6 enc Try.prog Try.f3 Rows.replyAheadUptoRow.domain false) (((Rows.OpenSpec.upto Rows.replyAheadSpec).at F).post enc Try.prog Try.f3 false true false false) := by
  refine returnsInHanded_of_cond (C := Try.checked) (s := Rows.OpenSpec.upto Rows.replyAheadSpec) (k := Rows.uptoSmall) rfl rahead_own started (by kernel_rfl) Try.func3
    (OpenSpec.witness (enc := enc) (C := Try.checked) (s := Rows.OpenSpec.upto Rows.replyAheadSpec) (k := Rows.uptoSmall) rfl false ⟨#[], #[.slice none 0 0, .int .i64 0, .int .i64 0, .agg #[.int .i64 0, .slice none 0 0]], []⟩ 8 (by kernel_rfl) (by kernel_rfl) (by kernel_rfl)
      (x := ([.nil, .lit (.int .i64 0), .lit (.int .i64 0), .agg [.lit (.int .i64 0), .nil]], [], [])) (by kernel_rfl) rfl (by kernel_rfl)) ?_
  intro W base args ds gs before hval0 hW _ hk _
  show Calls Try.prog 3 args W fun e W' => ∃ v, e = .returned v ∧ Rows.replyAheadSpec.post enc Try.prog Try.f3 false true false false W args v W'
  have hval : ∀ (j : Nat) t v, Try.f3.params[j]? = some t → args[j]? = some v → Value.okWide Try.prog W .any base t v := hval0
  have hW' := hW
  have hlt := hW.lt
  obtain ⟨p, q, hA0, hV, rfl, hfz, hnd⟩ := hW
  have hA : DataW.TrodAll enc Try.prog W 0 (fun _ => true) true Try.f3.params.toList args.toList ds p := hA0
  have hA1 := hA
  rw [Try.params3] at hA hval
  obtain ⟨v0, vs0, d0, ds0, p0, q0, hargs, rfl, rfl, h0, r0⟩ := trodAll_cons hA
  obtain ⟨v1, vs1, d1, ds1, p1, q1, rfl, rfl, rfl, h1, r1⟩ := trodAll_cons r0
  obtain ⟨v2, vs2, d2, ds2, p2, q2, rfl, rfl, rfl, h2, r2⟩ := trodAll_cons r1
  obtain ⟨v3, vs3, d3, ds3, p3, q3, rfl, rfl, rfl, h3, r3⟩ := trodAll_cons r2
  obtain ⟨rfl, rfl, rfl⟩ := trodAll_nil r3
  obtain rfl : args = #[v0, v1, v2, v3] := by cases args; simp_all
  obtain ⟨rfl, rfl⟩ := trodVars_none hV
  obtain ⟨z0, z'0, z''0, rfl⟩ := okWide_slice Try.underlying22 (hval 0 22 v0 rfl rfl)
  obtain ⟨y0, u0, b0, e0⟩ := arg_leaf (α := (List Task)) (opn_slice Try.underlying22 (by kernel_rfl) (by decide) opn_Task) rfl h0
  obtain ⟨z1, rfl⟩ := okWide_int Try.underlying3 (hval 1 3 v1 rfl rfl)
  obtain ⟨y1, u1, b1, e1⟩ := arg_leaf (α := Int) (opn_int Try.underlying3) rfl h1
  obtain ⟨z2, rfl⟩ := okWide_int Try.underlying3 (hval 2 3 v2 rfl rfl)
  obtain ⟨y2, u2, b2, e2⟩ := arg_leaf (α := Int) (opn_int Try.underlying3) rfl h2
  obtain ⟨cs3, rfl, _⟩ := okWide_struct Try.underlying25 (hval 3 25 v3 rfl rfl)
  obtain ⟨y3, u3, b3, e3⟩ := arg_agg (α := Set) opn_Set h3
  have hB : Siz.bulk y0 + Siz.bulk y1 + Siz.bulk y2 + Siz.bulk y3 ≤ 1048576 := by
    have h := of_decide_eq_true hk
    rw [rahead_bL] at h
    simp only [List.append_nil, bulkL] at h
    omega
  have hR := repL_cons (M := fun _ => False) (β := fun _ => none) (cp := fun _ => 0) (.c e0) (repL_cons (M := fun _ => False) (β := fun _ => none) (cp := fun _ => 0) (.c e1) (repL_cons (M := fun _ => False) (β := fun _ => none) (cp := fun _ => 0) (.c e2) (repL_cons (M := fun _ => False) (β := fun _ => none) (cp := fun _ => 0) (.c e3) (repL_nil))))
  refine (law_callsA (rahead_vc y0 y1 y2 y3 u0 u1 u2 u3 hB) hR).mono fun e W' ⟨he, bel⟩ => ?_
  subst he
  exact ⟨_, rfl, _, _, _, [], _, [], hW', trodAll_mk1 (shut_bool Try.underlying4 _), trodAll_below rahead_laidOut bel (rahead_readOk (by kernel_rfl)) (fun x hx => hlt x (List.mem_append_left _ hx)) hA1, rfl, bel.frame _, fun h => by cases h⟩
theorem ReplyAhead_proved : Rows.ReplyAheadUptoSaid :=
  OpenClaim.holds_of_cond 3 Try.f3 rfl rfl rfl rfl rfl rfl rfl ⟨rfl, rfl, rfl, rfl, rfl⟩ rfl rfl rfl rfl rfl (by kernel_rfl) Try.func3 (by kernel_rfl)
    (of_decide_eq_true (by kernel_rfl)) (by unfold Func.isWrapper; first | (rw [if_pos (by decide +kernel)]; kernel_rfl) | (rw [if_neg (by decide +kernel)]; exact ⟨rfl, rfl⟩))
    (fun os started H enc _ F => rahead_lifted os started H enc F)
end

end Go.Proofs.Ytabchkekhpmpiaa
