/- Nobody meets a lock that another one has; for all inputs. -/
import Derived.Test.YthbdlihmafcioaaLockL
set_option linter.all false
namespace Go.Proofs.Ythbdlihmafcioaa
open Go Go.Abs

attribute [local irreducible] playLk
noncomputable def cNv : FuncId → Con := fun f => match f with
  | 8 => pureCon lkPlay_C
  | 9 => pureCon (detPC lkLives_D)
  | _ => fun _ _ _ => Bad 1001
theorem cNv_ok : ConOk Try.prog cNv := fun f A H K h => by
  unfold cNv at h
  split at h
  · exact ⟨⟨Try.f8, Try.func8, by kernel_rfl, by kernel_rfl⟩, pureCon_ok lkPlay_ok h⟩
  · exact ⟨⟨Try.f9, Try.func9, by kernel_rfl, by kernel_rfl⟩, pureCon_ok lkLives_ok h⟩
  · cases h
set_option maxRecDepth 100000 in
set_option maxHeartbeats 4000000 in
theorem lknever_vc (l : (List Work)) (u : Int) (fit_l : Siz.fit l) (fit_u : Siz.fit u) (hB : Siz.bulk l + Siz.bulk u ≤ 1048576) : FnOk Try.prog 3 [Leaf.av fun _ => l, .i .i64 fun _ => u] [] (outA (.bc true) []) := by
  refine fn_ok envOk zl cNv_ok noDraws_ok (keep := [0, 1, 4, 5, 6]) Try.func3 rfl ?_
  have fin := @fin_b
  have finc := @fin_t
  have hl : l.length ≤ 9223372036854775807 := by
    have h1 := bulk_len (α := Work) Work.one_le l
    simp only [Siz.bulk] at hB h1
    omega
  generalize outA (.bc true) [] = K at fin finc
  cbv
  repeat' first | (show Stp _; exfalso; first | omega | (exact h ‹_›) | (exact absurd ‹_› h) | (exact Bool.false_ne_true (h.symm.trans (show _ = true by assumption)))) | (refine Stp.mk ?_; cbv) | (refine Gen.mk fun r hr => ?_; (try simp only [Dat.ok, Dat.dec, Leaf.ok, Leaf.val, Act.eta, Work.eta, Locked.eta, val_sl, val_nil] at hr); cbv) | exact trivial | rfl | refine Both.mk ?_ ?_ | (refine Imp.mk fun h => ?_; (try dsimp only at h); (try simp only [nc, Int.toNat_natCast, ne_eq, zz] at h); (try simp only [nc] at h)) | refine Ob.mk ?_ ?_ | refine Chk.mk (by kernel_rfl) ?_ | refine Eq'.mk ?_ | (refine AllN.mk fun i hi => ?_; cbv) | (refine AllC.mk fun c hc hcm => ?_; (try dsimp only at hc); cbv) | (refine AllS.mk fun r hr => ?_; (try simp only [Dat.ok, Dat.dec, Leaf.ok, Leaf.val, Act.eta, Work.eta, Locked.eta, val_sl] at hr); cbv)
  all_goals ((try dsimp only at *); (try simp only [nc, Int.toNat_natCast, ne_eq, zz] at *); (try simp only [nc] at *))
  all_goals try simp only [Dat.dec, Leaf.val, Act.eta, Work.eta, Locked.eta, val_sl] at *
  all_goals first
    | exact ⟨⟨rfl, fun i _ => Dat.hok _⟩, hl⟩
    | exact finc
    | (refine fin ?_
       subst hr
       have e : (playLk l u).1.clash = 0 := lk_never (by assumption)
       show ((playLk l u).1.clash == 0) = true
       rw [e]; rfl)
    | fail
section
open Go.ChangeShapes Go.WideShapes Go.ChangeAt Go.RowKit Go.Joins Go.Deep
set_option linter.unusedVariables false
theorem lknever_own : ownKnob Try.prog.godebug = none := by kernel_rfl
theorem lknever_laidOut : laidOutB Try.prog = true := by kernel_rfl
theorem lknever_readOk {ts : Array TypeId} (h : ts.toList.all (fun t => Try.prog.readableRec t && decide (t < Try.prog.types.size)) = true) : ∀ t ∈ ts.toList, Try.prog.readableRec t = true ∧ t < Try.prog.types.size := fun t ht => by
  have := List.all_eq_true.1 h t ht
  simpa using this
mutual
theorem lknever_bD {H : Type} : ∀ d : DataW H, Rows.uptoBulk d = bulkD d
  | .lit l => by cases l <;> simp [Rows.uptoBulk, bulkD]
  | .nil => by simp [Rows.uptoBulk, bulkD]
  | .ptr d => by simp [Rows.uptoBulk, bulkD, lknever_bD d]
  | .slice a b => by simp [Rows.uptoBulk, bulkD, lknever_bL a, lknever_bL b]
  | .agg a => by simp [Rows.uptoBulk, bulkD, lknever_bL a]
  | .iface _ d => by simp [Rows.uptoBulk, bulkD, lknever_bD d]
  | .map e => by simp [Rows.uptoBulk, bulkD, lknever_bE e]
  | .held _ => by simp [Rows.uptoBulk, bulkD]
theorem lknever_bL {H : Type} : ∀ d : List (DataW H), Rows.uptoBulkAll d = bulkL d
  | [] => by simp [Rows.uptoBulkAll, bulkL]
  | d :: r => by simp [Rows.uptoBulkAll, bulkL, lknever_bD d, lknever_bL r]
theorem lknever_bE {H : Type} : ∀ d : List (Lit × DataW H), Rows.uptoBulkEntries d = bulkE d
  | [] => by simp [Rows.uptoBulkEntries, bulkE]
  | d :: r => by simp [Rows.uptoBulkEntries, bulkE, lknever_bX d, lknever_bE r]
theorem lknever_bX {H : Type} : ∀ d : Lit × DataW H, Rows.uptoBulkEntry d = bulkX d
  | (l, d) => by cases l <;> simp [Rows.uptoBulkEntry, bulkX, lknever_bD d]
end
set_option maxRecDepth 100000 in
theorem lknever_lifted (os : Os) (started : os.Started) (H : Type) (enc : TypeId × Value → H) (F : Stop.Interp) :
    ReturnsInHanded {} Try.checked os 3 .any ((Rows.OpenSpec.upto Rows.lockNeverSpec).pre6 enc Try.prog Try.f3 Rows.lockNeverUptoRow.domain false) (((Rows.OpenSpec.upto Rows.lockNeverSpec).at F).post enc Try.prog Try.f3 false true false false) := by
  refine returnsInHanded_of_cond (C := Try.checked) (s := Rows.OpenSpec.upto Rows.lockNeverSpec) (k := Rows.uptoSmall) rfl lknever_own started (by kernel_rfl) Try.func3
    (OpenSpec.witness (enc := enc) (C := Try.checked) (s := Rows.OpenSpec.upto Rows.lockNeverSpec) (k := Rows.uptoSmall) rfl false ⟨#[], #[.slice none 0 0, .int .i64 0], []⟩ 8 (by kernel_rfl) (by kernel_rfl) (by kernel_rfl)
      (x := ([.nil, .lit (.int .i64 0)], [], [])) (by kernel_rfl) rfl (by kernel_rfl)) ?_
  intro W base args ds gs before hval0 hW _ hk _
  show Calls Try.prog 3 args W fun e W' => ∃ v, e = .returned v ∧ Rows.lockNeverSpec.post enc Try.prog Try.f3 false true false false W args v W'
  have hval : ∀ (j : Nat) t v, Try.f3.params[j]? = some t → args[j]? = some v → Value.okWide Try.prog W .any base t v := hval0
  have hW' := hW
  have hlt := hW.lt
  obtain ⟨p, q, hA0, hV, rfl, hfz, hnd⟩ := hW
  have hA : DataW.TrodAll enc Try.prog W 0 (fun _ => true) true Try.f3.params.toList args.toList ds p := hA0
  have hA1 := hA
  rw [Try.params3] at hA hval
  obtain ⟨v0, vs0, d0, ds0, p0, q0, hargs, rfl, rfl, h0, r0⟩ := trodAll_cons hA
  obtain ⟨v1, vs1, d1, ds1, p1, q1, rfl, rfl, rfl, h1, r1⟩ := trodAll_cons r0
  obtain ⟨rfl, rfl, rfl⟩ := trodAll_nil r1
  obtain rfl : args = #[v0, v1] := by cases args; simp_all
  obtain ⟨rfl, rfl⟩ := trodVars_none hV
  obtain ⟨z0, z'0, z''0, rfl⟩ := okWide_slice Try.underlying22 (hval 0 22 v0 rfl rfl)
  obtain ⟨y0, u0, b0, e0⟩ := arg_leaf (α := (List Work)) (opn_slice Try.underlying22 (by kernel_rfl) (by decide) opn_Work) rfl h0
  obtain ⟨z1, rfl⟩ := okWide_int Try.underlying3 (hval 1 3 v1 rfl rfl)
  obtain ⟨y1, u1, b1, e1⟩ := arg_leaf (α := Int) (opn_int Try.underlying3) rfl h1
  have hB : Siz.bulk y0 + Siz.bulk y1 ≤ 1048576 := by
    have h := of_decide_eq_true hk
    rw [lknever_bL] at h
    simp only [List.append_nil, bulkL] at h
    omega
  have hR := repL_cons (M := fun _ => False) (β := fun _ => none) (cp := fun _ => 0) (.c e0) (repL_cons (M := fun _ => False) (β := fun _ => none) (cp := fun _ => 0) (.c e1) (repL_nil))
  refine (law_callsA (lknever_vc y0 y1 u0 u1 hB) hR).mono fun e W' ⟨he, bel⟩ => ?_
  subst he
  exact ⟨_, rfl, _, _, _, [], _, [], hW', trodAll_mk1 (shut_bool Try.underlying4 _), trodAll_below lknever_laidOut bel (lknever_readOk (by kernel_rfl)) (fun x hx => hlt x (List.mem_append_left _ hx)) hA1, rfl, bel.frame _, fun h => by cases h⟩
theorem LockNever_proved : Rows.LockNeverUptoSaid :=
  OpenClaim.holds_of_cond 3 Try.f3 rfl rfl rfl rfl rfl rfl rfl ⟨rfl, rfl, rfl, rfl, rfl⟩ rfl rfl rfl rfl rfl (by kernel_rfl) Try.func3 (by kernel_rfl)
    (of_decide_eq_true (by kernel_rfl)) (by unfold Func.isWrapper; first | (rw [if_pos (by decide +kernel)]; kernel_rfl) | (rw [if_neg (by decide +kernel)]; exact ⟨rfl, rfl⟩))
    (fun os started H enc _ F => lknever_lifted os started H enc F)
end

end Go.Proofs.Ythbdlihmafcioaa
