/- It is no matter what windows those have that do not feed a part; for all inputs. -/
import Derived.Test.YtbnpacdkllmblaaTimeP
import Derived.Test.YtbnpacdkllmblaaAbsG4
set_option linter.all false
namespace Go.Proofs.Ytbnpacdkllmblaa
open Go Go.Abs

attribute [local irreducible] runPV
noncomputable def cTM0 : FuncId → Con := fun f => match f with
  | 32 => inlCon E noCon noDraws [0, 1, 2, 3] Try.f32
  | _ => fun _ _ _ => Bad 1001
theorem cTM0_ok : ConOk Try.prog cTM0 := fun f A H K h => by
  unfold cTM0 at h
  split at h
  · exact ⟨⟨Try.f32, Try.func32, by kernel_rfl, by kernel_rfl⟩, inl_ok envOk zl noCon_ok noDraws_ok Try.func32 h⟩
  · cases h
noncomputable def cTM1 : FuncId → Con := fun f => match f with
  | 41 => inlCon E cTM0 noDraws [0, 1, 4, 5, 7, 8, 9, 16] Try.f41
  | 32 => inlCon E noCon noDraws [0, 1, 2, 3] Try.f32
  | _ => fun _ _ _ => Bad 1001
theorem cTM1_ok : ConOk Try.prog cTM1 := fun f A H K h => by
  unfold cTM1 at h
  split at h
  · exact ⟨⟨Try.f41, Try.func41, by kernel_rfl, by kernel_rfl⟩, inl_ok envOk zl cTM0_ok noDraws_ok Try.func41 h⟩
  · exact ⟨⟨Try.f32, Try.func32, by kernel_rfl, by kernel_rfl⟩, inl_ok envOk zl noCon_ok noDraws_ok Try.func32 h⟩
  · cases h
noncomputable def cTM : FuncId → Con := fun f => match f with
  | 20 => pureCon (detPC feedC_D)
  | 18 => frzCon (detPC runC_D)
  | 10 => pureCon (detPC ptLives_D)
  | 22 => pureCon (detPC sameP_D)
  | 23 => pureCon clWin_C
  | 31 => inlCon E cTM1 noDraws [0, 1, 4, 5, 6, 7, 12, 19, 29] Try.f31
  | _ => fun _ _ _ => Bad 1001
theorem cTM_ok : ConOk Try.prog cTM := fun f A H K h => by
  unfold cTM at h
  split at h
  · exact ⟨⟨Try.f20, Try.func20, by kernel_rfl, by kernel_rfl⟩, pureCon_ok feedC_ok h⟩
  · exact ⟨⟨Try.f18, Try.func18, by kernel_rfl, by kernel_rfl⟩, frzCon_ok runC_ok h⟩
  · exact ⟨⟨Try.f10, Try.func10, by kernel_rfl, by kernel_rfl⟩, pureCon_ok ptLives_ok h⟩
  · exact ⟨⟨Try.f22, Try.func22, by kernel_rfl, by kernel_rfl⟩, pureCon_ok sameP_ok h⟩
  · exact ⟨⟨Try.f23, Try.func23, by kernel_rfl, by kernel_rfl⟩, pureCon_ok clWin_ok h⟩
  · exact ⟨⟨Try.f31, Try.func31, by kernel_rfl, by kernel_rfl⟩, inl_ok envOk zl cTM1_ok noDraws_ok Try.func31 h⟩
  · cases h
def dTM : FuncId → Option Dt := fun f => match f with
  | 22 => some (.c sameP_D)
  | _ => none
theorem dTM_ok : DetOk Try.prog dTM := fun f d h => by
  unfold dTM at h
  split at h
  · cases h; exact ⟨⟨Try.f22, Try.func22, by kernel_rfl, by kernel_rfl⟩, sameP_ok⟩
  · cases h
structure IfX (r : List Window) (F : List Bool) where
  m : Nat
  hm : m ≤ r.length
  ha : ∀ i, i < m → dropB F (r.getD i Dat.d0) = false
structure DfX (r : List Window) (F : List Bool) where
  i : Nat
  j : Nat
  d : List Window
  hj : j ≤ r.length
  hi : i < j
  hl : d.length = r.length
  hs : ∀ m, j ≤ m → m < r.length → d.getD m Dat.d0 = r.getD m Dat.d0
  ht : d.take i = keepW F (r.take j)
theorem setW_bif {α : Type} (f : Window → α) {l : List Window} {k i : Nat} {x : Window} (hi : i < l.length) : (bif decide (i = k) then f x else f (l.getD i Dat.d0)) = f ((l.set k x).getD i Dat.d0) := by
  rw [List.getD_eq_getElem?_getD, List.getD_eq_getElem?_getD, List.getElem?_set]
  by_cases e : i = k
  · subst e; rw [decide_eq_true rfl, if_pos rfl, if_pos hi]; rfl
  · rw [decide_eq_false e, if_neg (fun z => e z.symm)]; rfl
theorem flt_all {r : List Window} {F : List Bool} {m : Nat} (hm : m ≤ r.length) (ha : ∀ i, i < m → dropB F (r.getD i Dat.d0) = false) : keepW F (r.take m) = r.take m := by
  rw [keepW_eq, List.filter_eq_self]
  intro x hx
  obtain ⟨i, hi, e⟩ := List.mem_iff_getElem.1 hx
  have hi2 : i < m := by simp at hi; omega
  have := ha i hi2
  have e2 : r.getD i Dat.d0 = x := by rw [← e]; simp [List.getD_eq_getElem?_getD, show i < r.length by omega]
  rw [e2] at this
  rw [this]; rfl
theorem set_take {d : List Window} {i : Nat} {x : Window} (h : i < d.length) : (d.set i x).take (i + 1) = d.take i ++ [x] := by
  rw [List.take_succ_eq_append_getElem (by simpa using h), List.getElem_set_self, List.take_set_of_le (Nat.le_refl _)]
theorem keep_snoc {r : List Window} {F : List Bool} {m : Nat} (hm : m < r.length) : keepW F (r.take (m + 1)) = keepW F (r.take m) ++ if dropB F (r.getD m Dat.d0) = true then [] else [r.getD m Dat.d0] := by
  rw [keepW_eq, keepW_eq, take_snoc Dat.d0 hm, List.filter_append, List.filter_cons]
  cases dropB F (r.getD m Dat.d0) <;> rfl
set_option maxRecDepth 100000 in
set_option maxHeartbeats 4000000 in
theorem pttime_vc (m : Module) (part : Int) (n : Int) (fit_m : Siz.fit m) (fit_part : Siz.fit part) (fit_n : Siz.fit n) (hB : Siz.bulk m + Siz.bulk part + Siz.bulk n ≤ 1048576) : FnOk Try.prog 7 [.agg (Dat.enc fun _ => m), .i .i64 fun _ => part, .i .i64 fun _ => n] [] (outA (.bc true) []) := by
  refine fn_ok envOk zl cTM_ok (draws_ok envOk zl dTM_ok mixed) (keep := [0, 1, 2, 3, 6, 7, 8, 9, 10, 11, 12, 13, 35, 53]) Try.func7 rfl ?_
  have fin := @fin_b
  have finc := @fin_t
  have hpm := fit_pre fit_m
  generalize outA (.bc true) [] = K at fin finc
  cbv
  repeat' first | (show Stp _; exfalso; first | omega | (exact h ‹_›) | (exact absurd ‹_› h) | (exact Bool.false_ne_true (h.symm.trans (show _ = true by assumption)))) | (refine Stp.mk ?_; cbv) | (refine Gen.mk fun r hr => ?_; (try simp only [Dat.ok, Dat.dec, Leaf.ok, Leaf.val, Window.eta, Table.eta, Ins.eta, Vm.eta, Emit.eta, Part.eta, Wire.eta, Module.eta, val_sl, val_nil] at hr); cbv) | exact trivial | rfl | refine Both.mk ?_ ?_ | (refine Imp.mk fun h => ?_; (try dsimp only at h); (try simp only [nc, Int.toNat_natCast, ne_eq, zz] at h); (try simp only [nc] at h)) | refine Ob.mk ?_ ?_ | refine Chk.mk (by kernel_rfl) ?_ | refine Eq'.mk ?_ | (refine AllN.mk fun i hi => ?_; cbv) | (refine AllC.mk fun c hc hcm => ?_; (try dsimp only at hc); cbv) | (refine AllS.mk fun r hr => ?_; (try simp only [Dat.ok, Dat.dec, Leaf.ok, Leaf.val, Window.eta, Table.eta, Ins.eta, Vm.eta, Emit.eta, Part.eta, Wire.eta, Module.eta, val_sl] at hr); cbv)
  all_goals ((try dsimp only at *); (try simp only [nc, Int.toNat_natCast, ne_eq, zz] at *); (try simp only [nc] at *))
  all_goals try simp only [Dat.dec, Leaf.val, Window.eta, Table.eta, Ins.eta, Vm.eta, Emit.eta, Part.eta, Wire.eta, Module.eta, val_sl] at *
  all_goals try first
    | exact ⟨Dat.hok fun _ => m, hpm⟩
    | exact finc
    | exact ⟨⟨rfl, fun i _ => Dat.hok _⟩, Nat.le_trans (wchk_iff.1 (feeds_ok (by assumption)).1.t).len (by decide)⟩
  have F0 : (feedsV m part).2 = 0 := by assumption
  have R0 : (runPV m n).2 = 0 := by assumption
  obtain ⟨M, HB, FL, FC, FI⟩ := feeds_ok F0
  have T : ∀ W, W = keepW (feedsV m part).1 m.table.windows → (¬ (runPV ⟨⟨m.table.frame, W⟩, m.parts, m.wires, m.now, m.lost⟩ n).2 = 0 → (runPV ⟨⟨m.table.frame, W⟩, m.parts, m.wires, m.now, m.lost⟩ n).2 = 6) ∧
      ((runPV ⟨⟨m.table.frame, W⟩, m.parts, m.wires, m.now, m.lost⟩ n).2 = 0 → Sim (feedsV m part).1 (runPV m n).1 (runPV ⟨⟨m.table.frame, W⟩, m.parts, m.wires, m.now, m.lost⟩ n).1) := fun W h => by
    subst h
    exact time_run F0 R0
  have mp2 : ∀ W : List Window, W.length ≤ 200 → mchkC_P ⟨⟨m.table.frame, W⟩, m.parts, m.wires, m.now, m.lost⟩ := fun W h => ⟨Nat.le_trans h (by decide), hpm.2.1, hpm.2.2.1, hpm.2.2.2⟩
  have PL := run_part R0
  have p1 := fun p hp => ok_len (prt_iff.1 ((run_mok R0).p p hp))
  have HB := of_decide_eq_true HB
  have RT := wchk_iff.1 M.t
  have rl := RT.len
  have rg : ∀ k, k < r.length → 0 ≤ (r.getD k Dat.d0).owner := fun k hk => by
    rw [hr] at hk ⊢
    exact (okW_get RT hk).1
  rw [← hr] at rl
  refine LoopVC.frame [4, 5, 8, 9, 16] (IfX r (feedsV m part).1) (fun x => [(8, .i .i64 fun _ => x.m)]) (fun _ => []) [] (fun x => r.length - x.m) ⟨0, Nat.zero_le _, fun i hi => absurd hi (Nat.not_lt_zero _)⟩ rfl (fun _ => rfl) ?_ ?_ fun ⟨k, hk, ha⟩ => ?_
  iterate 2
    · cbv
      repeat' first | (refine Stp.mk ?_; cbv) | (refine Gen.mk fun r hr => ?_; (try simp only [Dat.ok, Dat.dec, Leaf.ok, Leaf.val, Window.eta, Table.eta, Ins.eta, Vm.eta, Emit.eta, Part.eta, Wire.eta, Module.eta, val_sl, val_nil] at hr); cbv) | exact trivial | rfl | refine Both.mk ?_ ?_ | (refine Imp.mk fun h => ?_; (try dsimp only at h); (try simp only [nc, Int.toNat_natCast, ne_eq, zz] at h); (try simp only [nc] at h)) | refine Ob.mk ?_ ?_ | refine Chk.mk (by kernel_rfl) ?_ | refine Eq'.mk ?_ | (refine AllN.mk fun i hi => ?_; cbv) | (refine AllC.mk fun c hc hcm => ?_; (try dsimp only at hc); cbv) | (refine AllS.mk fun r hr => ?_; (try simp only [Dat.ok, Dat.dec, Leaf.ok, Leaf.val, Window.eta, Table.eta, Ins.eta, Vm.eta, Emit.eta, Part.eta, Wire.eta, Module.eta, val_sl] at hr); cbv)
  have rg1 := rg k
  have nF : k < r.length → dropB (feedsV m part).1 (r.getD k Dat.d0) = true → ¬ dropB (feedsV m part).1 (r.getD k Dat.d0) = false := fun _ h => by rw [h]; decide
  have dT : (r.getD k Dat.d0).owner < (feedsV m part).1.length → (feedsV m part).1.getD (r.getD k Dat.d0).owner.toNat Dat.d0 = false → dropB (feedsV m part).1 (r.getD k Dat.d0) = true := fun h1 h2 => by rw [dropB, decide_eq_true h1, h2]; rfl
  have dF1 : (feedsV m part).1.getD (r.getD k Dat.d0).owner.toNat Dat.d0 = true → dropB (feedsV m part).1 (r.getD k Dat.d0) = false := fun h2 => by rw [dropB, h2]; simp
  have dF2 : ((feedsV m part).1.length : Int) ≤ (r.getD k Dat.d0).owner → dropB (feedsV m part).1 (r.getD k Dat.d0) = false := fun h1 => by rw [dropB, decide_eq_false (by omega)]; rfl
  cbv
  repeat' first | (show Stp _; exfalso; first | omega | (exact h ‹_›) | (exact absurd ‹_› h) | (exact Bool.false_ne_true (h.symm.trans (show _ = true by assumption)))) | (refine Stp.mk ?_; cbv) | (refine Gen.mk fun r hr => ?_; (try simp only [Dat.ok, Dat.dec, Leaf.ok, Leaf.val, Window.eta, Table.eta, Ins.eta, Vm.eta, Emit.eta, Part.eta, Wire.eta, Module.eta, val_sl, val_nil] at hr); cbv) | exact trivial | rfl | refine Both.mk ?_ ?_ | (refine Imp.mk fun h => ?_; (try dsimp only at h); (try simp only [nc, Int.toNat_natCast, ne_eq, zz] at h); (try simp only [nc] at h)) | refine Ob.mk ?_ ?_ | refine Chk.mk (by kernel_rfl) ?_ | refine Eq'.mk ?_ | (refine AllN.mk fun i hi => ?_; cbv) | (refine AllC.mk fun c hc hcm => ?_; (try dsimp only at hc); cbv) | (refine AllS.mk fun r hr => ?_; (try simp only [Dat.ok, Dat.dec, Leaf.ok, Leaf.val, Window.eta, Table.eta, Ins.eta, Vm.eta, Emit.eta, Part.eta, Wire.eta, Module.eta, val_sl] at hr); cbv)
  all_goals ((try dsimp only at *); (try simp only [nc, Int.toNat_natCast, ne_eq, zz] at *); (try simp only [nc] at *))
  all_goals try rw [nc] at *
  all_goals try simp only [Dat.dec, Leaf.val, Window.eta, Table.eta, Ins.eta, Vm.eta, Emit.eta, Part.eta, Wire.eta, Module.eta, val_sl] at *
  all_goals try first
    | omega
    | (unfold InR; omega)
    | exact ⟨by omega, by omega⟩
    | exact Nat.le_refl _
    | (exfalso; exact absurd trivial (by assumption))
    | (have dF : dropB (feedsV m part).1 (r.getD k Dat.d0) = false := by
         first
           | exact dF1 (by assumption)
           | exact dF2 (by assumption)
       refine ⟨⟨k + 1, by omega, fun i hi => (by
         by_cases him : i = k
         · subst him; exact dF
         · exact ha i (by omega))⟩, ?_, ?_, rfl, by (try dsimp only); omega⟩
       · cbv
         repeat' first | (refine Stp.mk ?_; cbv) | (refine Gen.mk fun r hr => ?_; (try simp only [Dat.ok, Dat.dec, Leaf.ok, Leaf.val, Window.eta, Table.eta, Ins.eta, Vm.eta, Emit.eta, Part.eta, Wire.eta, Module.eta, val_sl, val_nil] at hr); cbv) | exact trivial | rfl | refine Both.mk ?_ ?_ | (refine Imp.mk fun h => ?_; (try dsimp only at h); (try simp only [nc, Int.toNat_natCast, ne_eq, zz] at h); (try simp only [nc] at h)) | refine Ob.mk ?_ ?_ | refine Chk.mk (by kernel_rfl) ?_ | refine Eq'.mk ?_ | (refine AllN.mk fun i hi => ?_; cbv) | (refine AllC.mk fun c hc hcm => ?_; (try dsimp only at hc); cbv) | (refine AllS.mk fun r hr => ?_; (try simp only [Dat.ok, Dat.dec, Leaf.ok, Leaf.val, Window.eta, Table.eta, Ins.eta, Vm.eta, Emit.eta, Part.eta, Wire.eta, Module.eta, val_sl] at hr); cbv)
       · cbv
         repeat' first | (refine Stp.mk ?_; cbv) | (refine Gen.mk fun r hr => ?_; (try simp only [Dat.ok, Dat.dec, Leaf.ok, Leaf.val, Window.eta, Table.eta, Ins.eta, Vm.eta, Emit.eta, Part.eta, Wire.eta, Module.eta, val_sl, val_nil] at hr); cbv) | exact trivial | rfl | refine Both.mk ?_ ?_ | (refine Imp.mk fun h => ?_; (try dsimp only at h); (try simp only [nc, Int.toNat_natCast, ne_eq, zz] at h); (try simp only [nc] at h)) | refine Ob.mk ?_ ?_ | refine Chk.mk (by kernel_rfl) ?_ | refine Eq'.mk ?_ | (refine AllN.mk fun i hi => ?_; cbv) | (refine AllC.mk fun c hc hcm => ?_; (try dsimp only at hc); cbv) | (refine AllS.mk fun r hr => ?_; (try simp only [Dat.ok, Dat.dec, Leaf.ok, Leaf.val, Window.eta, Table.eta, Ins.eta, Vm.eta, Emit.eta, Part.eta, Wire.eta, Module.eta, val_sl] at hr); cbv))
  · have dD : dropB (feedsV m part).1 (r.getD k Dat.d0) = true := dT (by assumption) (by assumption)
    refine LoopVC.frame [5, 6, 7, 19, 29] (DfX r (feedsV m part).1) (fun x => [(5, .i .i64 fun _ => x.i), (6, .i .i64 fun _ => x.j)]) (fun x => [(4, vecO 63 fun _ => x.d)]) [] (fun x => r.length - x.j)
      ⟨k, k + 1, r, by omega, by omega, rfl, fun _ _ _ => rfl, by rw [keep_snoc (by omega), if_pos dD, List.append_nil, flt_all hk ha]⟩ rfl (fun _ => rfl) ?_ ?_ fun ⟨i, j, d, hj, hi, hl, hs, ht⟩ => ?_
    iterate 2
      · cbv
        repeat' first | (refine Stp.mk ?_; cbv) | (refine Gen.mk fun r hr => ?_; (try simp only [Dat.ok, Dat.dec, Leaf.ok, Leaf.val, Window.eta, Table.eta, Ins.eta, Vm.eta, Emit.eta, Part.eta, Wire.eta, Module.eta, val_sl, val_nil] at hr); cbv) | exact trivial | rfl | refine Both.mk ?_ ?_ | (refine Imp.mk fun h => ?_; (try dsimp only at h); (try simp only [nc, Int.toNat_natCast, ne_eq, zz] at h); (try simp only [nc] at h)) | refine Ob.mk ?_ ?_ | refine Chk.mk (by kernel_rfl) ?_ | refine Eq'.mk ?_ | (refine AllN.mk fun i hi => ?_; cbv) | (refine AllC.mk fun c hc hcm => ?_; (try dsimp only at hc); cbv) | (refine AllS.mk fun r hr => ?_; (try simp only [Dat.ok, Dat.dec, Leaf.ok, Leaf.val, Window.eta, Table.eta, Ins.eta, Vm.eta, Emit.eta, Part.eta, Wire.eta, Module.eta, val_sl] at hr); cbv)
    have ej : j < r.length → d.getD j Dat.d0 = r.getD j Dat.d0 := fun h => hs j (Nat.le_refl _) h
    have rgj : j < r.length → 0 ≤ (d.getD j Dat.d0).owner := fun h => by rw [ej h]; exact rg j h
    have eT : j < r.length → (d.getD j Dat.d0).owner < (feedsV m part).1.length → (feedsV m part).1.getD (d.getD j Dat.d0).owner.toNat Dat.d0 = false → dropB (feedsV m part).1 (r.getD j Dat.d0) = true := fun h h1 h2 => by rw [← ej h, dropB, decide_eq_true h1, h2]; rfl
    have eF1 : j < r.length → (feedsV m part).1.getD (d.getD j Dat.d0).owner.toNat Dat.d0 = true → dropB (feedsV m part).1 (r.getD j Dat.d0) = false := fun h h2 => by rw [← ej h, dropB, h2]; simp
    have eF2 : j < r.length → ((feedsV m part).1.length : Int) ≤ (d.getD j Dat.d0).owner → dropB (feedsV m part).1 (r.getD j Dat.d0) = false := fun h h1 => by rw [← ej h, dropB, decide_eq_false (by omega)]; rfl
    have hvt := val_take d 3 i (by omega)
    cbv
    repeat' first | (show Stp _; exfalso; first | omega | (exact h ‹_›) | (exact absurd ‹_› h) | (exact Bool.false_ne_true (h.symm.trans (show _ = true by assumption)))) | (refine Stp.mk ?_; cbv) | (refine Gen.mk fun r hr => ?_; (try simp only [Dat.ok, Dat.dec, Leaf.ok, Leaf.val, Window.eta, Table.eta, Ins.eta, Vm.eta, Emit.eta, Part.eta, Wire.eta, Module.eta, val_sl, val_nil] at hr); cbv) | exact trivial | rfl | refine Both.mk ?_ ?_ | (refine Imp.mk fun h => ?_; (try dsimp only at h); (try simp only [nc, Int.toNat_natCast, ne_eq, zz] at h); (try simp only [nc] at h)) | refine Ob.mk ?_ ?_ | refine Chk.mk (by kernel_rfl) ?_ | refine Eq'.mk ?_ | (refine AllN.mk fun i hi => ?_; cbv) | (refine AllC.mk fun c hc hcm => ?_; (try dsimp only at hc); cbv) | (refine AllS.mk fun r hr => ?_; (try simp only [Dat.ok, Dat.dec, Leaf.ok, Leaf.val, Window.eta, Table.eta, Ins.eta, Vm.eta, Emit.eta, Part.eta, Wire.eta, Module.eta, val_sl] at hr); cbv)
    all_goals ((try dsimp only at *); (try simp only [nc, Int.toNat_natCast, ne_eq, zz] at *); (try simp only [nc] at *))
    all_goals try rw [nc] at *
    all_goals try simp only [Dat.dec, Leaf.val, Window.eta, Table.eta, Ins.eta, Vm.eta, Emit.eta, Part.eta, Wire.eta, Module.eta, val_sl, hvt] at *
    all_goals try first
      | omega
      | (unfold InR; omega)
      | exact ⟨by omega, by omega⟩
      | exact ⟨by omega, by omega, by omega⟩
      | exact ⟨trivial, by omega, by omega⟩
      | exact Nat.le_refl _
    all_goals try (
      have hjl : j < r.length := by omega
      have kF : dropB (feedsV m part).1 (r.getD j Dat.d0) = false := by
        first
          | exact eF1 hjl (by assumption)
          | exact eF2 hjl (by assumption)
      refine ⟨⟨i + 1, j + 1, d.set i (d.getD j Dat.d0), by omega, by omega, by simpa using hl, fun m h1 h2 => (by
          rw [List.getD_eq_getElem?_getD, List.getElem?_set_ne (by omega), ← List.getD_eq_getElem?_getD]
          exact hs m (by omega) h2), (by
          rw [set_take (by omega), keep_snoc hjl, if_neg (by rw [kF]; decide), ht, ej hjl])⟩, ?_, ?_, rfl, by (try dsimp only); omega⟩
      · cbv
        repeat' first | (refine Stp.mk ?_; cbv) | (refine Gen.mk fun r hr => ?_; (try simp only [Dat.ok, Dat.dec, Leaf.ok, Leaf.val, Window.eta, Table.eta, Ins.eta, Vm.eta, Emit.eta, Part.eta, Wire.eta, Module.eta, val_sl, val_nil] at hr); cbv) | exact trivial | rfl | refine Both.mk ?_ ?_ | (refine Imp.mk fun h => ?_; (try dsimp only at h); (try simp only [nc, Int.toNat_natCast, ne_eq, zz] at h); (try simp only [nc] at h)) | refine Ob.mk ?_ ?_ | refine Chk.mk (by kernel_rfl) ?_ | refine Eq'.mk ?_ | (refine AllN.mk fun i hi => ?_; cbv) | (refine AllC.mk fun c hc hcm => ?_; (try dsimp only at hc); cbv) | (refine AllS.mk fun r hr => ?_; (try simp only [Dat.ok, Dat.dec, Leaf.ok, Leaf.val, Window.eta, Table.eta, Ins.eta, Vm.eta, Emit.eta, Part.eta, Wire.eta, Module.eta, val_sl] at hr); cbv)
      · cbv
        repeat' first | (refine Stp.mk ?_; cbv) | (refine Gen.mk fun r hr => ?_; (try simp only [Dat.ok, Dat.dec, Leaf.ok, Leaf.val, Window.eta, Table.eta, Ins.eta, Vm.eta, Emit.eta, Part.eta, Wire.eta, Module.eta, val_sl, val_nil] at hr); cbv) | exact trivial | rfl | refine Both.mk ?_ ?_ | (refine Imp.mk fun h => ?_; (try dsimp only at h); (try simp only [nc, Int.toNat_natCast, ne_eq, zz] at h); (try simp only [nc] at h)) | refine Ob.mk ?_ ?_ | refine Chk.mk (by kernel_rfl) ?_ | refine Eq'.mk ?_ | (refine AllN.mk fun i hi => ?_; cbv) | (refine AllC.mk fun c hc hcm => ?_; (try dsimp only at hc); cbv) | (refine AllS.mk fun r hr => ?_; (try simp only [Dat.ok, Dat.dec, Leaf.ok, Leaf.val, Window.eta, Table.eta, Ins.eta, Vm.eta, Emit.eta, Part.eta, Wire.eta, Module.eta, val_sl] at hr); cbv)
        all_goals dsimp only
        all_goals first
          | (simp; done)
          | exact setW_bif (fun w => w.frm) (by omega)
          | exact setW_bif (fun w => w.long) (by omega)
          | exact setW_bif (fun w => w.owner) (by omega)
          | fail)
    all_goals try (
      have hjl : j < r.length := by omega
      have kT := eT hjl (by assumption) (by assumption)
      refine ⟨⟨i, j + 1, d, by omega, by omega, hl, fun m h1 h2 => hs m (by omega) h2, (by
          rw [keep_snoc hjl, if_pos kT, List.append_nil, ht])⟩, ?_, ?_, rfl, by (try dsimp only); omega⟩
      · cbv
        repeat' first | (refine Stp.mk ?_; cbv) | (refine Gen.mk fun r hr => ?_; (try simp only [Dat.ok, Dat.dec, Leaf.ok, Leaf.val, Window.eta, Table.eta, Ins.eta, Vm.eta, Emit.eta, Part.eta, Wire.eta, Module.eta, val_sl, val_nil] at hr); cbv) | exact trivial | rfl | refine Both.mk ?_ ?_ | (refine Imp.mk fun h => ?_; (try dsimp only at h); (try simp only [nc, Int.toNat_natCast, ne_eq, zz] at h); (try simp only [nc] at h)) | refine Ob.mk ?_ ?_ | refine Chk.mk (by kernel_rfl) ?_ | refine Eq'.mk ?_ | (refine AllN.mk fun i hi => ?_; cbv) | (refine AllC.mk fun c hc hcm => ?_; (try dsimp only at hc); cbv) | (refine AllS.mk fun r hr => ?_; (try simp only [Dat.ok, Dat.dec, Leaf.ok, Leaf.val, Window.eta, Table.eta, Ins.eta, Vm.eta, Emit.eta, Part.eta, Wire.eta, Module.eta, val_sl] at hr); cbv)
      · cbv
        repeat' first | (refine Stp.mk ?_; cbv) | (refine Gen.mk fun r hr => ?_; (try simp only [Dat.ok, Dat.dec, Leaf.ok, Leaf.val, Window.eta, Table.eta, Ins.eta, Vm.eta, Emit.eta, Part.eta, Wire.eta, Module.eta, val_sl, val_nil] at hr); cbv) | exact trivial | rfl | refine Both.mk ?_ ?_ | (refine Imp.mk fun h => ?_; (try dsimp only at h); (try simp only [nc, Int.toNat_natCast, ne_eq, zz] at h); (try simp only [nc] at h)) | refine Ob.mk ?_ ?_ | refine Chk.mk (by kernel_rfl) ?_ | refine Eq'.mk ?_ | (refine AllN.mk fun i hi => ?_; cbv) | (refine AllC.mk fun c hc hcm => ?_; (try dsimp only at hc); cbv) | (refine AllS.mk fun r hr => ?_; (try simp only [Dat.ok, Dat.dec, Leaf.ok, Leaf.val, Window.eta, Table.eta, Ins.eta, Vm.eta, Emit.eta, Part.eta, Wire.eta, Module.eta, val_sl] at hr); cbv))
    all_goals have hw : d.take i = keepW (feedsV m part).1 m.table.windows := by
                rw [List.take_of_length_le (show r.length ≤ j by omega)] at ht
                rw [← hr, ht]
    all_goals have TW := T (d.take i) hw
    all_goals have mpW := mp2 (d.take i) (by rw [List.length_take]; omega)
    all_goals first
      | exact ⟨⟨⟨trivial, ⟨rfl, fun i _ => Dat.hok _⟩⟩, ⟨rfl, fun i _ => Dat.hok _⟩, ⟨rfl, fun i _ => Dat.hok _⟩, trivial, trivial⟩, mpW⟩
      | exact ⟨⟨trivial, ⟨rfl, fun i _ => Dat.hok _⟩, ⟨rfl, fun i _ => Dat.hok _⟩, ⟨rfl, fun i _ => Dat.hok _⟩, trivial, trivial⟩, mpW⟩
      | (refine fin ?_
         show (_ == _) = true
         rw [TW.1 (by assumption)]
         rfl)
      | (have SS := TW.2 (by assumption)
         have h1 := SS.l
         first
           | exact ⟨by omega, by omega⟩
           | exact ⟨Dat.hok fun _ => (runPV m n).1.parts.getD part.toNat Dat.d0, Dat.hok fun _ => (runPV ⟨⟨m.table.frame, d.take i⟩, m.parts, m.wires, m.now, m.lost⟩ n).1.parts.getD part.toNat Dat.d0, p1 _ (getD_mem (by omega))⟩
           | (refine fin ?_
              exact decide_eq_true (SS.p _ FI))
           | (exfalso; omega))
      | fail
  all_goals have hw : r = keepW (feedsV m part).1 m.table.windows := by
              have h9 := flt_all hk ha
              rw [List.take_of_length_le (by omega)] at h9
              rw [← hr, h9]
  all_goals have TW := T r hw
  all_goals have mpW := mp2 r rl
  all_goals first
    | exact ⟨⟨⟨trivial, ⟨rfl, fun i _ => Dat.hok _⟩⟩, ⟨rfl, fun i _ => Dat.hok _⟩, ⟨rfl, fun i _ => Dat.hok _⟩, trivial, trivial⟩, mpW⟩
    | exact ⟨⟨trivial, ⟨rfl, fun i _ => Dat.hok _⟩, ⟨rfl, fun i _ => Dat.hok _⟩, ⟨rfl, fun i _ => Dat.hok _⟩, trivial, trivial⟩, mpW⟩
    | (refine fin ?_
       show (_ == _) = true
       rw [TW.1 (by assumption)]
       rfl)
    | (have SS := TW.2 (by assumption)
       have h1 := SS.l
       first
         | exact ⟨by omega, by omega⟩
         | exact ⟨Dat.hok fun _ => (runPV m n).1.parts.getD part.toNat Dat.d0, Dat.hok fun _ => (runPV ⟨⟨m.table.frame, r⟩, m.parts, m.wires, m.now, m.lost⟩ n).1.parts.getD part.toNat Dat.d0, p1 _ (getD_mem (by omega))⟩
         | (refine fin ?_
            exact decide_eq_true (SS.p _ FI))
         | (exfalso; omega))
    | fail
section
open Go.ChangeShapes Go.WideShapes Go.ChangeAt Go.RowKit Go.Joins Go.Deep
set_option linter.unusedVariables false
theorem pttime_own : ownKnob Try.prog.godebug = none := by kernel_rfl
theorem pttime_laidOut : laidOutB Try.prog = true := by kernel_rfl
theorem pttime_readOk {ts : Array TypeId} (h : ts.toList.all (fun t => Try.prog.readableRec t && decide (t < Try.prog.types.size)) = true) : ∀ t ∈ ts.toList, Try.prog.readableRec t = true ∧ t < Try.prog.types.size := fun t ht => by
  have := List.all_eq_true.1 h t ht
  simpa using this
mutual
theorem pttime_bD {H : Type} : ∀ d : DataW H, Rows.uptoBulk d = bulkD d
  | .lit l => by cases l <;> simp [Rows.uptoBulk, bulkD]
  | .nil => by simp [Rows.uptoBulk, bulkD]
  | .ptr d => by simp [Rows.uptoBulk, bulkD, pttime_bD d]
  | .slice a b => by simp [Rows.uptoBulk, bulkD, pttime_bL a, pttime_bL b]
  | .agg a => by simp [Rows.uptoBulk, bulkD, pttime_bL a]
  | .iface _ d => by simp [Rows.uptoBulk, bulkD, pttime_bD d]
  | .map e => by simp [Rows.uptoBulk, bulkD, pttime_bE e]
  | .held _ => by simp [Rows.uptoBulk, bulkD]
theorem pttime_bL {H : Type} : ∀ d : List (DataW H), Rows.uptoBulkAll d = bulkL d
  | [] => by simp [Rows.uptoBulkAll, bulkL]
  | d :: r => by simp [Rows.uptoBulkAll, bulkL, pttime_bD d, pttime_bL r]
theorem pttime_bE {H : Type} : ∀ d : List (Lit × DataW H), Rows.uptoBulkEntries d = bulkE d
  | [] => by simp [Rows.uptoBulkEntries, bulkE]
  | d :: r => by simp [Rows.uptoBulkEntries, bulkE, pttime_bX d, pttime_bE r]
theorem pttime_bX {H : Type} : ∀ d : Lit × DataW H, Rows.uptoBulkEntry d = bulkX d
  | (l, d) => by cases l <;> simp [Rows.uptoBulkEntry, bulkX, pttime_bD d]
end
set_option maxRecDepth 100000 in
theorem pttime_lifted (os : Os) (started : os.Started) (H : Type) (enc : TypeId × Value → H) (F : Stop.Interp) :
    ReturnsInHanded {} Try.checked os 7 .any ((Rows.OpenSpec.upto Rows.partsTimeSpec).pre6 enc Try.prog Try.f7 Rows.partsTimeUptoRow.domain false) (((Rows.OpenSpec.upto Rows.partsTimeSpec).at F).post enc Try.prog Try.f7 false true false false) := by
  refine returnsInHanded_of_cond (C := Try.checked) (s := Rows.OpenSpec.upto Rows.partsTimeSpec) (k := Rows.uptoSmall) rfl pttime_own started (by kernel_rfl) Try.func7
    (OpenSpec.witness (enc := enc) (C := Try.checked) (s := Rows.OpenSpec.upto Rows.partsTimeSpec) (k := Rows.uptoSmall) rfl false ⟨#[], #[.agg #[.int .i64 0, .slice none 0 0, .slice none 0 0, .slice none 0 0, .int .i64 0, .int .i64 0], .int .i64 0, .int .i64 0], []⟩ 8 (by kernel_rfl) (by kernel_rfl) (by kernel_rfl)
      (x := ([.agg [.agg [.lit (.int .i64 0), .nil], .nil, .nil, .lit (.int .i64 0), .lit (.int .i64 0)], .lit (.int .i64 0), .lit (.int .i64 0)], [], [])) (by kernel_rfl) rfl (by kernel_rfl)) ?_
  intro W base args ds gs before hval0 hW _ hk _
  show Calls Try.prog 7 args W fun e W' => ∃ v, e = .returned v ∧ Rows.partsTimeSpec.post enc Try.prog Try.f7 false true false false W args v W'
  have hval : ∀ (j : Nat) t v, Try.f7.params[j]? = some t → args[j]? = some v → Value.okWide Try.prog W .any base t v := hval0
  have hW' := hW
  have hlt := hW.lt
  obtain ⟨p, q, hA0, hV, rfl, hfz, hnd⟩ := hW
  have hA : DataW.TrodAll enc Try.prog W 0 (fun _ => true) true Try.f7.params.toList args.toList ds p := hA0
  have hA1 := hA
  rw [Try.params7] at hA hval
  obtain ⟨v0, vs0, d0, ds0, p0, q0, hargs, rfl, rfl, h0, r0⟩ := trodAll_cons hA
  obtain ⟨v1, vs1, d1, ds1, p1, q1, rfl, rfl, rfl, h1, r1⟩ := trodAll_cons r0
  obtain ⟨v2, vs2, d2, ds2, p2, q2, rfl, rfl, rfl, h2, r2⟩ := trodAll_cons r1
  obtain ⟨rfl, rfl, rfl⟩ := trodAll_nil r2
  obtain rfl : args = #[v0, v1, v2] := by cases args; simp_all
  obtain ⟨rfl, rfl⟩ := trodVars_none hV
  obtain ⟨cs0, rfl, _⟩ := okWide_struct Try.underlying28 (hval 0 28 v0 rfl rfl)
  obtain ⟨y0, u0, b0, e0⟩ := arg_agg (α := Module) opn_Module h0
  obtain ⟨z1, rfl⟩ := okWide_int Try.underlying3 (hval 1 3 v1 rfl rfl)
  obtain ⟨y1, u1, b1, e1⟩ := arg_leaf (α := Int) (opn_int Try.underlying3) rfl h1
  obtain ⟨z2, rfl⟩ := okWide_int Try.underlying3 (hval 2 3 v2 rfl rfl)
  obtain ⟨y2, u2, b2, e2⟩ := arg_leaf (α := Int) (opn_int Try.underlying3) rfl h2
  have hB : Siz.bulk y0 + Siz.bulk y1 + Siz.bulk y2 ≤ 1048576 := by
    have h := of_decide_eq_true hk
    rw [pttime_bL] at h
    simp only [List.append_nil, bulkL] at h
    omega
  have hR := repL_cons (M := fun _ => False) (β := fun _ => none) (cp := fun _ => 0) (.c e0) (repL_cons (M := fun _ => False) (β := fun _ => none) (cp := fun _ => 0) (.c e1) (repL_cons (M := fun _ => False) (β := fun _ => none) (cp := fun _ => 0) (.c e2) (repL_nil)))
  refine (law_callsA (pttime_vc y0 y1 y2 u0 u1 u2 hB) hR).mono fun e W' ⟨he, bel⟩ => ?_
  subst he
  exact ⟨_, rfl, _, _, _, [], _, [], hW', trodAll_mk1 (shut_bool Try.underlying4 _), trodAll_below pttime_laidOut bel (pttime_readOk (by kernel_rfl)) (fun x hx => hlt x (List.mem_append_left _ hx)) hA1, rfl, bel.frame _, fun h => by cases h⟩
theorem PartsTime_proved : Rows.PartsTimeUptoSaid :=
  OpenClaim.holds_of_cond 7 Try.f7 rfl rfl rfl rfl rfl rfl rfl ⟨rfl, rfl, rfl, rfl, rfl⟩ rfl rfl rfl rfl rfl (by kernel_rfl) Try.func7 (by kernel_rfl)
    (of_decide_eq_true (by kernel_rfl)) (by unfold Func.isWrapper; first | (rw [if_pos (by decide +kernel)]; kernel_rfl) | (rw [if_neg (by decide +kernel)]; exact ⟨rfl, rfl⟩))
    (fun os started H enc _ F => pttime_lifted os started H enc F)
end

end Go.Proofs.Ytbnpacdkllmblaa
