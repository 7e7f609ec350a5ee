/- Whatever becomes of those that do not feed a part; for all inputs. -/
import Derived.Test.YtbnpacdkllmblaaApartP
import Derived.Test.YtbnpacdkllmblaaAbsG4
set_option linter.all false
namespace Go.Proofs.Ytbnpacdkllmblaa
open Go Go.Abs

attribute [local irreducible] runPV
def clPart_R (r : Th ((List Part))) : AV := .own 0 fun _ => (r ()).length
def clPart_H (r : Th ((List Part))) : Hp := [vecO 45 fun _ => (r ())]
def clPart_P (l : (List Part)) : Prop := l.length ≤ 1099511627776
def clPart_C : PC := fun A K => match A with
  | [l] => Ob (fun _ => Leaf.ok (List Part) l ∧ clPart_P (Leaf.val l)) (Gen (α := (List Part)) (fun _ => (Leaf.val l)) fun r => K (clPart_R fun _ => r) (clPart_H fun _ => r))
  | _ => Bad 1002
set_option maxRecDepth 100000 in
set_option maxHeartbeats 4000000 in
theorem clPart_vc (l : (List Part)) (hp : clPart_P l) : FnOk Try.prog 21 [Leaf.av fun _ => l] [] (outA (clPart_R fun _ => l) (clPart_H fun _ => l)) := by
  refine fn_ok envOk zl noCon_ok noDraws_ok (keep := [0, 2, 4]) Try.func21 rfl ?_
  have hp' : l.length ≤ 1099511627776 := hp
  cbv
  repeat' first | (refine Stp.mk ?_; cbv) | (refine Gen.mk fun r hr => ?_; (try simp only [Dat.ok, Dat.dec, Leaf.ok, Leaf.val, Window.eta, Table.eta, Ins.eta, Vm.eta, Emit.eta, Part.eta, Wire.eta, Module.eta, val_sl, val_nil] at hr); cbv) | exact trivial | rfl | refine Both.mk ?_ ?_ | (refine Imp.mk fun h => ?_; (try dsimp only at h); (try simp only [nc, Int.toNat_natCast, ne_eq, zz] at h); (try simp only [nc] at h)) | refine Ob.mk ?_ ?_ | refine Chk.mk (by kernel_rfl) ?_ | refine Eq'.mk ?_ | (refine AllN.mk fun i hi => ?_; cbv) | (refine AllC.mk fun c hc hcm => ?_; (try dsimp only at hc); cbv) | (refine AllS.mk fun r hr => ?_; (try simp only [Dat.ok, Dat.dec, Leaf.ok, Leaf.val, Window.eta, Table.eta, Ins.eta, Vm.eta, Emit.eta, Part.eta, Wire.eta, Module.eta, val_sl] at hr); cbv)
  all_goals ((try dsimp only at *); (try simp only [nc, Int.toNat_natCast, ne_eq, zz] at *); (try simp only [nc] at *))
  all_goals first
    | omega
    | (exact ⟨Nat.le_refl _, trivial, by omega, by omega⟩)
    | (simp only [Nat.zero_add, Nat.sub_zero, Nat.not_lt_zero, decide_false, cond_false]; done)
    | (simp_all; done)
    | fail
theorem clPart_ok : PcOk Try.prog 21 (clPart_C) := fun A K h => by
  unfold clPart_C at h
  split at h
  · rename_i l
    cases h with
    | mk h1 h2 =>
      obtain ⟨g0, hp⟩ := h1
      refine FnOk.pre ?_ (A' := [Leaf.av fun _ => (Leaf.val l : (List Part))]) (.mk (Leaf.hle _ g0) (trivial))
      exact FnOk.out (K := fun r H _ => K r H) (clPart_vc (Leaf.val l) hp) rfl h2.out
  · cases h
noncomputable def cPtA : FuncId → Con := fun f => match f with
  | 20 => pureCon (detPC feedC_D)
  | 18 => frzCon (detPC runC_D)
  | 10 => pureCon (detPC ptLives_D)
  | 12 => pureCon (detPC mchkC_D)
  | 22 => pureCon (detPC sameP_D)
  | 21 => pureCon clPart_C
  | _ => fun _ _ _ => Bad 1001
theorem cPtA_ok : ConOk Try.prog cPtA := fun f A H K h => by
  unfold cPtA at h
  split at h
  · exact ⟨⟨Try.f20, Try.func20, by kernel_rfl, by kernel_rfl⟩, pureCon_ok feedC_ok h⟩
  · exact ⟨⟨Try.f18, Try.func18, by kernel_rfl, by kernel_rfl⟩, frzCon_ok runC_ok h⟩
  · exact ⟨⟨Try.f10, Try.func10, by kernel_rfl, by kernel_rfl⟩, pureCon_ok ptLives_ok h⟩
  · exact ⟨⟨Try.f12, Try.func12, by kernel_rfl, by kernel_rfl⟩, pureCon_ok mchkC_ok h⟩
  · exact ⟨⟨Try.f22, Try.func22, by kernel_rfl, by kernel_rfl⟩, pureCon_ok sameP_ok h⟩
  · exact ⟨⟨Try.f21, Try.func21, by kernel_rfl, by kernel_rfl⟩, pureCon_ok clPart_ok h⟩
  · cases h
def dPtA : FuncId → Option Dt := fun f => match f with
  | 22 => some (.c sameP_D)
  | _ => none
theorem dPtA_ok : DetOk Try.prog dPtA := fun f d h => by
  unfold dPtA at h
  split at h
  · cases h; exact ⟨⟨Try.f22, Try.func22, by kernel_rfl, by kernel_rfl⟩, sameP_ok⟩
  · cases h
structure PbX (n : Nat) where
  k : Nat
  hk : k ≤ n
theorem setP_bif {α : Type} (f : Part → α) {l : List Part} {k i : Nat} {x : Part} (hi : i < l.length) : (bif decide (i = k) then f x else f (l.getD i Dat.d0)) = f ((l.set k x).getD i Dat.d0) := by
  rw [setP_any]
  by_cases e : i = k
  · rw [if_pos ⟨e, hi⟩, decide_eq_true e]; rfl
  · rw [if_neg (fun z => e z.1), decide_eq_false e]; rfl
structure PaX (m : Module) (F : List Bool) where
  k : Nat
  l : List Part
  hk : k ≤ m.parts.length
  hl : l.length = m.parts.length
  hs : ∀ j, F.getD j Dat.d0 = true → l.getD j Dat.d0 = m.parts.getD j Dat.d0
  hp : PLen l
set_option maxRecDepth 100000 in
set_option maxHeartbeats 4000000 in
theorem ptapart_vc (m : Module) (other : (List Part)) (part : Int) (n : Int) (fit_m : Siz.fit m) (fit_other : Siz.fit other) (fit_part : Siz.fit part) (fit_n : Siz.fit n) (hB : Siz.bulk m + Siz.bulk other + Siz.bulk part + Siz.bulk n ≤ 1048576) : FnOk Try.prog 5 [.agg (Dat.enc fun _ => m), Leaf.av fun _ => other, .i .i64 fun _ => part, .i .i64 fun _ => n] [] (outA (.bc true) []) := by
  refine fn_ok envOk zl cPtA_ok (draws_ok envOk zl dPtA_ok mixed) (keep := [0, 1, 2, 3, 4, 8, 9, 10, 11, 12, 13, 14, 15, 16, 17, 44, 53, 54, 55, 61, 90, 100, 101, 102, 121]) Try.func5 rfl ?_
  have fin := @fin_b
  have finc := @fin_t
  have hpm := fit_pre fit_m
  generalize outA (.bc true) [] = K at fin finc
  cbv
  repeat' first | (show Stp _; exfalso; first | omega | (exact h ‹_›) | (exact absurd ‹_› h) | (exact Bool.false_ne_true (h.symm.trans (show _ = true by assumption)))) | (refine Stp.mk ?_; cbv) | (refine Gen.mk fun r hr => ?_; (try simp only [Dat.ok, Dat.dec, Leaf.ok, Leaf.val, Window.eta, Table.eta, Ins.eta, Vm.eta, Emit.eta, Part.eta, Wire.eta, Module.eta, val_sl, val_nil] at hr); cbv) | exact trivial | rfl | refine Both.mk ?_ ?_ | (refine Imp.mk fun h => ?_; (try dsimp only at h); (try simp only [nc, Int.toNat_natCast, ne_eq, zz] at h); (try simp only [nc] at h)) | refine Ob.mk ?_ ?_ | refine Chk.mk (by kernel_rfl) ?_ | refine Eq'.mk ?_ | (refine AllN.mk fun i hi => ?_; cbv) | (refine AllC.mk fun c hc hcm => ?_; (try dsimp only at hc); cbv) | (refine AllS.mk fun r hr => ?_; (try simp only [Dat.ok, Dat.dec, Leaf.ok, Leaf.val, Window.eta, Table.eta, Ins.eta, Vm.eta, Emit.eta, Part.eta, Wire.eta, Module.eta, val_sl] at hr); cbv)
  all_goals ((try dsimp only at *); (try simp only [nc, Int.toNat_natCast, ne_eq, zz] at *); (try simp only [nc] at *))
  all_goals try simp only [Dat.dec, Leaf.val, Window.eta, Table.eta, Ins.eta, Vm.eta, Emit.eta, Part.eta, Wire.eta, Module.eta, val_sl] at *
  all_goals try first
    | exact ⟨Dat.hok fun _ => m, hpm⟩
    | exact finc
    | exact ⟨⟨rfl, fun i _ => Dat.hok _⟩, Nat.le_trans (feeds_ok (by assumption)).1.lp (by decide)⟩
  have F0 : (feedsV m part).2 = 0 := by assumption
  have R0 : (runPV m n).2 = 0 := by assumption
  subst hr
  obtain ⟨M, HB, FL, FC, FI⟩ := feeds_ok F0
  have L0 : PLen m.parts := hpm.2.2.2
  refine LoopVC.frame [14, 54, 55, 61] (PaX m (feedsV m part).1) (fun x => [(54, .i .i64 fun _ => x.k)]) (fun x => [(3, .vec 45 6 (fun _ => m.parts.length) fun i => Dat.enc fun _ => x.l.getD (i ()) Dat.d0)]) [] (fun x => m.parts.length - x.k) ⟨0, m.parts, Nat.zero_le _, rfl, fun _ _ => rfl, L0⟩ rfl (fun _ => rfl) ?_ ?_ fun ⟨k, l, hk, hl, hs, hp⟩ => ?_
  · cbv
    repeat' first | (refine Stp.mk ?_; cbv) | (refine Gen.mk fun r hr => ?_; (try simp only [Dat.ok, Dat.dec, Leaf.ok, Leaf.val, Window.eta, Table.eta, Ins.eta, Vm.eta, Emit.eta, Part.eta, Wire.eta, Module.eta, val_sl, val_nil] at hr); cbv) | exact trivial | rfl | refine Both.mk ?_ ?_ | (refine Imp.mk fun h => ?_; (try dsimp only at h); (try simp only [nc, Int.toNat_natCast, ne_eq, zz] at h); (try simp only [nc] at h)) | refine Ob.mk ?_ ?_ | refine Chk.mk (by kernel_rfl) ?_ | refine Eq'.mk ?_ | (refine AllN.mk fun i hi => ?_; cbv) | (refine AllC.mk fun c hc hcm => ?_; (try dsimp only at hc); cbv) | (refine AllS.mk fun r hr => ?_; (try simp only [Dat.ok, Dat.dec, Leaf.ok, Leaf.val, Window.eta, Table.eta, Ins.eta, Vm.eta, Emit.eta, Part.eta, Wire.eta, Module.eta, val_sl] at hr); cbv)
    all_goals fail
  · cbv
    repeat' first | (refine Stp.mk ?_; cbv) | (refine Gen.mk fun r hr => ?_; (try simp only [Dat.ok, Dat.dec, Leaf.ok, Leaf.val, Window.eta, Table.eta, Ins.eta, Vm.eta, Emit.eta, Part.eta, Wire.eta, Module.eta, val_sl, val_nil] at hr); cbv) | exact trivial | rfl | refine Both.mk ?_ ?_ | (refine Imp.mk fun h => ?_; (try dsimp only at h); (try simp only [nc, Int.toNat_natCast, ne_eq, zz] at h); (try simp only [nc] at h)) | refine Ob.mk ?_ ?_ | refine Chk.mk (by kernel_rfl) ?_ | refine Eq'.mk ?_ | (refine AllN.mk fun i hi => ?_; cbv) | (refine AllC.mk fun c hc hcm => ?_; (try dsimp only at hc); cbv) | (refine AllS.mk fun r hr => ?_; (try simp only [Dat.ok, Dat.dec, Leaf.ok, Leaf.val, Window.eta, Table.eta, Ins.eta, Vm.eta, Emit.eta, Part.eta, Wire.eta, Module.eta, val_sl] at hr); cbv)
    all_goals fail
  have e0 : (slV (.sl 6 (fun _ => m.parts.length) fun i => Dat.enc fun _ => l.getD (i ()) Dat.d0) : List Part) = l := lst_eq (d := Dat.d0) (show m.parts.length = l.length from hl.symm) fun i hi => Dat.hdec _
  have S0 : Sim (feedsV m part).1 m ⟨m.table, l, m.wires, m.now, m.lost⟩ := ⟨rfl, rfl, hl.symm, fun j hj => (hs j hj).symm⟩
  have mp : mchkC_P ⟨m.table, l, m.wires, m.now, m.lost⟩ := ⟨hpm.1, by show l.length ≤ _; rw [hl]; exact hpm.2.1, hpm.2.2.1, hp⟩
  have od : ∀ q : Prop, (⟨m.table, l, m.wires, m.now, m.lost⟩ : Module) = ⟨m.table, l, m.wires, m.now, m.lost⟩ ∧ q → q := fun q h => h.2
  have lp := M.lp
  have lo := fit_parts fit_other
  cbv
  repeat' first | (show Stp _; exfalso; first | omega | (exact h ‹_›) | (exact absurd ‹_› h) | (exact Bool.false_ne_true (h.symm.trans (show _ = true by assumption)))) | (refine Stp.mk ?_; cbv) | (refine Gen.mk fun r hr => ?_; (try simp only [Dat.ok, Dat.dec, Leaf.ok, Leaf.val, Window.eta, Table.eta, Ins.eta, Vm.eta, Emit.eta, Part.eta, Wire.eta, Module.eta, val_sl, val_nil] at hr); cbv) | exact trivial | rfl | refine Both.mk ?_ ?_ | (refine Imp.mk fun h => ?_; (try dsimp only at h); (try simp only [nc, Int.toNat_natCast, ne_eq, zz] at h); (try simp only [nc] at h)) | refine Ob.mk ?_ ?_ | refine Chk.mk (by kernel_rfl) ?_ | refine Eq'.mk ?_ | (refine AllN.mk fun i hi => ?_; cbv) | (refine AllC.mk fun c hc hcm => ?_; (try dsimp only at hc); cbv) | (refine AllS.mk fun r hr => ?_; (try simp only [Dat.ok, Dat.dec, Leaf.ok, Leaf.val, Window.eta, Table.eta, Ins.eta, Vm.eta, Emit.eta, Part.eta, Wire.eta, Module.eta, val_sl] at hr); cbv)
  all_goals ((try dsimp only at *); (try simp only [nc, Int.toNat_natCast, ne_eq, zz] at *); (try simp only [nc] at *))
  all_goals try rw [nc] at *
  all_goals try simp only [Dat.dec, Leaf.val, Window.eta, Table.eta, Ins.eta, Vm.eta, Emit.eta, Part.eta, Wire.eta, Module.eta, val_sl, e0] at *
  all_goals try first
    | omega
    | (unfold InR; omega)
    | exact ⟨by omega, by omega⟩
    | assumption
    | exact finc
    | exact ⟨Dat.hok (α := Module) fun _ => ⟨m.table, l, m.wires, m.now, m.lost⟩, mp⟩
    | exact ⟨⟨trivial, ⟨rfl, fun i _ => Dat.hok _⟩, ⟨rfl, fun i _ => Dat.hok _⟩, ⟨rfl, fun i _ => Dat.hok _⟩, trivial, trivial⟩, mp⟩
    | exact ⟨Int.tmod_nonneg _ (by omega), Int.tmod_lt_of_pos _ (by omega)⟩
    | (exfalso
       have h1 := run_part (show (runPV ⟨m.table, l, m.wires, m.now, m.lost⟩ n).2 = 0 by assumption)
       have h1 : (runPV ⟨m.table, l, m.wires, m.now, m.lost⟩ n).1.parts.length = l.length := h1
       have h2 := run_part R0
       have h3 : ¬ ((runPV ⟨m.table, l, m.wires, m.now, m.lost⟩ n).1.parts.length : Int) = (runPV m n).1.parts.length := by assumption
       omega)
    | (refine fin ?_
       rcases run_bad (b := ⟨m.table, l, m.wires, m.now, m.lost⟩) R0 (by assumption) with q | q
       · exact absurd (by assumption) q
       · show (_ == _) = true
         rw [q]; rfl)
  all_goals try (
    have hF : (feedsV m part).1.getD k Dat.d0 = false := by assumption
    have hq := Int.tmod_nonneg (other.length : Int) (show (0 : Int) ≤ k by omega)
    have hq2 := Int.tmod_lt_of_pos (k : Int) (show (0 : Int) < other.length by omega)
    refine ⟨⟨k + 1, l.set k (other.getD ((k : Int).tmod other.length).toNat Dat.d0), by omega, (List.length_set ..).trans hl, fun j hj => (by
      rw [setP_any, if_neg]
      · exact hs j hj
      · rintro ⟨rfl, _⟩
        rw [hF] at hj; cases hj), set_mem hp (lo _ (getD_mem (by omega)))⟩, ?_, ?_, rfl, by (try dsimp only); omega⟩
    · cbv
      repeat' first | (refine Stp.mk ?_; cbv) | (refine Gen.mk fun r hr => ?_; (try simp only [Dat.ok, Dat.dec, Leaf.ok, Leaf.val, Window.eta, Table.eta, Ins.eta, Vm.eta, Emit.eta, Part.eta, Wire.eta, Module.eta, val_sl, val_nil] at hr); cbv) | exact trivial | rfl | refine Both.mk ?_ ?_ | (refine Imp.mk fun h => ?_; (try dsimp only at h); (try simp only [nc, Int.toNat_natCast, ne_eq, zz] at h); (try simp only [nc] at h)) | refine Ob.mk ?_ ?_ | refine Chk.mk (by kernel_rfl) ?_ | refine Eq'.mk ?_ | (refine AllN.mk fun i hi => ?_; cbv) | (refine AllC.mk fun c hc hcm => ?_; (try dsimp only at hc); cbv) | (refine AllS.mk fun r hr => ?_; (try simp only [Dat.ok, Dat.dec, Leaf.ok, Leaf.val, Window.eta, Table.eta, Ins.eta, Vm.eta, Emit.eta, Part.eta, Wire.eta, Module.eta, val_sl] at hr); cbv)
    · cbv
      repeat' first | (refine Stp.mk ?_; cbv) | (refine Gen.mk fun r hr => ?_; (try simp only [Dat.ok, Dat.dec, Leaf.ok, Leaf.val, Window.eta, Table.eta, Ins.eta, Vm.eta, Emit.eta, Part.eta, Wire.eta, Module.eta, val_sl, val_nil] at hr); cbv) | exact trivial | rfl | refine Both.mk ?_ ?_ | (refine Imp.mk fun h => ?_; (try dsimp only at h); (try simp only [nc, Int.toNat_natCast, ne_eq, zz] at h); (try simp only [nc] at h)) | refine Ob.mk ?_ ?_ | refine Chk.mk (by kernel_rfl) ?_ | refine Eq'.mk ?_ | (refine AllN.mk fun i hi => ?_; cbv) | (refine AllC.mk fun c hc hcm => ?_; (try dsimp only at hc); cbv) | (refine AllS.mk fun r hr => ?_; (try simp only [Dat.ok, Dat.dec, Leaf.ok, Leaf.val, Window.eta, Table.eta, Ins.eta, Vm.eta, Emit.eta, Part.eta, Wire.eta, Module.eta, val_sl] at hr); cbv)
      all_goals dsimp only
      all_goals first
        | exact setP_bif (fun p => p.vm.at_) (by omega)
        | exact setP_bif (fun p => p.vm.halts) (by omega)
        | exact setP_bif (fun p => p.vm.fault) (by omega)
        | (rw [setP_any, if_pos ⟨by assumption, by omega⟩]; done)
        | (rw [setP_any, if_neg (fun z => absurd z.1 (by assumption))]; done)
        | fail)
  all_goals try (
    have hT : (feedsV m part).1.getD k Dat.d0 = true := by assumption
    refine ⟨⟨k + 1, l, by omega, hl, hs, hp⟩, ?_, ?_, rfl, by (try dsimp only); omega⟩
    · cbv
      repeat' first | (refine Stp.mk ?_; cbv) | (refine Gen.mk fun r hr => ?_; (try simp only [Dat.ok, Dat.dec, Leaf.ok, Leaf.val, Window.eta, Table.eta, Ins.eta, Vm.eta, Emit.eta, Part.eta, Wire.eta, Module.eta, val_sl, val_nil] at hr); cbv) | exact trivial | rfl | refine Both.mk ?_ ?_ | (refine Imp.mk fun h => ?_; (try dsimp only at h); (try simp only [nc, Int.toNat_natCast, ne_eq, zz] at h); (try simp only [nc] at h)) | refine Ob.mk ?_ ?_ | refine Chk.mk (by kernel_rfl) ?_ | refine Eq'.mk ?_ | (refine AllN.mk fun i hi => ?_; cbv) | (refine AllC.mk fun c hc hcm => ?_; (try dsimp only at hc); cbv) | (refine AllS.mk fun r hr => ?_; (try simp only [Dat.ok, Dat.dec, Leaf.ok, Leaf.val, Window.eta, Table.eta, Ins.eta, Vm.eta, Emit.eta, Part.eta, Wire.eta, Module.eta, val_sl] at hr); cbv)
    · cbv
      repeat' first | (refine Stp.mk ?_; cbv) | (refine Gen.mk fun r hr => ?_; (try simp only [Dat.ok, Dat.dec, Leaf.ok, Leaf.val, Window.eta, Table.eta, Ins.eta, Vm.eta, Emit.eta, Part.eta, Wire.eta, Module.eta, val_sl, val_nil] at hr); cbv) | exact trivial | rfl | refine Both.mk ?_ ?_ | (refine Imp.mk fun h => ?_; (try dsimp only at h); (try simp only [nc, Int.toNat_natCast, ne_eq, zz] at h); (try simp only [nc] at h)) | refine Ob.mk ?_ ?_ | refine Chk.mk (by kernel_rfl) ?_ | refine Eq'.mk ?_ | (refine AllN.mk fun i hi => ?_; cbv) | (refine AllC.mk fun c hc hcm => ?_; (try dsimp only at hc); cbv) | (refine AllS.mk fun r hr => ?_; (try simp only [Dat.ok, Dat.dec, Leaf.ok, Leaf.val, Window.eta, Table.eta, Ins.eta, Vm.eta, Emit.eta, Part.eta, Wire.eta, Module.eta, val_sl] at hr); cbv)
      all_goals fail)
  have R1 : (runPV ⟨m.table, l, m.wires, m.now, m.lost⟩ n).2 = 0 := by assumption
  have SS := run_sim S0 FC OwnR.refl R0 R1
  have hL : (runPV ⟨m.table, l, m.wires, m.now, m.lost⟩ n).1.parts.length = l.length := run_part R1
  have hL2 := run_part R0
  have p1 := fun p hp => ok_len (prt_iff.1 ((run_mok R0).p p hp))
  revert SS hL hL2 p1
  generalize (runPV ⟨m.table, l, m.wires, m.now, m.lost⟩ n).1 = c
  generalize (runPV m n).1 = a
  intro SS hL hL2 p1
  refine LoopVC.frame [8, 17, 101, 102, 121] (PbX a.parts.length) (fun x => [(101, .i .i64 fun _ => x.k)]) (fun _ => []) [] (fun x => a.parts.length - x.k) ⟨0, Nat.zero_le _⟩ rfl (fun _ => rfl) ?_ ?_ fun ⟨j, hj⟩ => ?_
  iterate 2
    · cbv
      repeat' first | (refine Stp.mk ?_; cbv) | (refine Gen.mk fun r hr => ?_; (try simp only [Dat.ok, Dat.dec, Leaf.ok, Leaf.val, Window.eta, Table.eta, Ins.eta, Vm.eta, Emit.eta, Part.eta, Wire.eta, Module.eta, val_sl, val_nil] at hr); cbv) | exact trivial | rfl | refine Both.mk ?_ ?_ | (refine Imp.mk fun h => ?_; (try dsimp only at h); (try simp only [nc, Int.toNat_natCast, ne_eq, zz] at h); (try simp only [nc] at h)) | refine Ob.mk ?_ ?_ | refine Chk.mk (by kernel_rfl) ?_ | refine Eq'.mk ?_ | (refine AllN.mk fun i hi => ?_; cbv) | (refine AllC.mk fun c hc hcm => ?_; (try dsimp only at hc); cbv) | (refine AllS.mk fun r hr => ?_; (try simp only [Dat.ok, Dat.dec, Leaf.ok, Leaf.val, Window.eta, Table.eta, Ins.eta, Vm.eta, Emit.eta, Part.eta, Wire.eta, Module.eta, val_sl] at hr); cbv)
  cbv
  repeat' first | (show Stp _; exfalso; first | omega | (exact h ‹_›) | (exact absurd ‹_› h) | (exact Bool.false_ne_true (h.symm.trans (show _ = true by assumption)))) | (refine Stp.mk ?_; cbv) | (refine Gen.mk fun r hr => ?_; (try simp only [Dat.ok, Dat.dec, Leaf.ok, Leaf.val, Window.eta, Table.eta, Ins.eta, Vm.eta, Emit.eta, Part.eta, Wire.eta, Module.eta, val_sl, val_nil] at hr); cbv) | exact trivial | rfl | refine Both.mk ?_ ?_ | (refine Imp.mk fun h => ?_; (try dsimp only at h); (try simp only [nc, Int.toNat_natCast, ne_eq, zz] at h); (try simp only [nc] at h)) | refine Ob.mk ?_ ?_ | refine Chk.mk (by kernel_rfl) ?_ | refine Eq'.mk ?_ | (refine AllN.mk fun i hi => ?_; cbv) | (refine AllC.mk fun c hc hcm => ?_; (try dsimp only at hc); cbv) | (refine AllS.mk fun r hr => ?_; (try simp only [Dat.ok, Dat.dec, Leaf.ok, Leaf.val, Window.eta, Table.eta, Ins.eta, Vm.eta, Emit.eta, Part.eta, Wire.eta, Module.eta, val_sl] at hr); cbv)
  all_goals ((try dsimp only at *); (try simp only [nc, Int.toNat_natCast, ne_eq, zz] at *); (try simp only [nc] at *))
  all_goals try rw [nc] at *
  all_goals try simp only [Dat.dec, Leaf.val, Window.eta, Table.eta, Ins.eta, Vm.eta, Emit.eta, Part.eta, Wire.eta, Module.eta, val_sl] at *
  all_goals first
    | omega
    | (unfold InR; omega)
    | exact ⟨by omega, by omega⟩
    | exact finc
    | exact ⟨Dat.hok fun _ => a.parts.getD j Dat.d0, Dat.hok fun _ => c.parts.getD j Dat.d0, p1 _ (getD_mem (by omega))⟩
    | (exfalso
       have h9 : sameP_S (a.parts.getD j Dat.d0) (c.parts.getD j Dat.d0) = false := by assumption
       exact of_decide_eq_false h9 (SS.p j (by assumption)))
    | (refine fin ?_
       show (_ == _) = true
       rw [SS.now]
       simp)
    | (refine ⟨⟨j + 1, by omega⟩, ?_, ?_, rfl, by (try dsimp only); omega⟩
       · cbv
         repeat' first | (refine Stp.mk ?_; cbv) | (refine Gen.mk fun r hr => ?_; (try simp only [Dat.ok, Dat.dec, Leaf.ok, Leaf.val, Window.eta, Table.eta, Ins.eta, Vm.eta, Emit.eta, Part.eta, Wire.eta, Module.eta, val_sl, val_nil] at hr); cbv) | exact trivial | rfl | refine Both.mk ?_ ?_ | (refine Imp.mk fun h => ?_; (try dsimp only at h); (try simp only [nc, Int.toNat_natCast, ne_eq, zz] at h); (try simp only [nc] at h)) | refine Ob.mk ?_ ?_ | refine Chk.mk (by kernel_rfl) ?_ | refine Eq'.mk ?_ | (refine AllN.mk fun i hi => ?_; cbv) | (refine AllC.mk fun c hc hcm => ?_; (try dsimp only at hc); cbv) | (refine AllS.mk fun r hr => ?_; (try simp only [Dat.ok, Dat.dec, Leaf.ok, Leaf.val, Window.eta, Table.eta, Ins.eta, Vm.eta, Emit.eta, Part.eta, Wire.eta, Module.eta, val_sl] at hr); cbv)
       · cbv
         repeat' first | (refine Stp.mk ?_; cbv) | (refine Gen.mk fun r hr => ?_; (try simp only [Dat.ok, Dat.dec, Leaf.ok, Leaf.val, Window.eta, Table.eta, Ins.eta, Vm.eta, Emit.eta, Part.eta, Wire.eta, Module.eta, val_sl, val_nil] at hr); cbv) | exact trivial | rfl | refine Both.mk ?_ ?_ | (refine Imp.mk fun h => ?_; (try dsimp only at h); (try simp only [nc, Int.toNat_natCast, ne_eq, zz] at h); (try simp only [nc] at h)) | refine Ob.mk ?_ ?_ | refine Chk.mk (by kernel_rfl) ?_ | refine Eq'.mk ?_ | (refine AllN.mk fun i hi => ?_; cbv) | (refine AllC.mk fun c hc hcm => ?_; (try dsimp only at hc); cbv) | (refine AllS.mk fun r hr => ?_; (try simp only [Dat.ok, Dat.dec, Leaf.ok, Leaf.val, Window.eta, Table.eta, Ins.eta, Vm.eta, Emit.eta, Part.eta, Wire.eta, Module.eta, val_sl] at hr); cbv))
    | fail
section
open Go.ChangeShapes Go.WideShapes Go.ChangeAt Go.RowKit Go.Joins Go.Deep
set_option linter.unusedVariables false
theorem ptapart_own : ownKnob Try.prog.godebug = none := by kernel_rfl
theorem ptapart_laidOut : laidOutB Try.prog = true := by kernel_rfl
theorem ptapart_readOk {ts : Array TypeId} (h : ts.toList.all (fun t => Try.prog.readableRec t && decide (t < Try.prog.types.size)) = true) : ∀ t ∈ ts.toList, Try.prog.readableRec t = true ∧ t < Try.prog.types.size := fun t ht => by
  have := List.all_eq_true.1 h t ht
  simpa using this
mutual
theorem ptapart_bD {H : Type} : ∀ d : DataW H, Rows.uptoBulk d = bulkD d
  | .lit l => by cases l <;> simp [Rows.uptoBulk, bulkD]
  | .nil => by simp [Rows.uptoBulk, bulkD]
  | .ptr d => by simp [Rows.uptoBulk, bulkD, ptapart_bD d]
  | .slice a b => by simp [Rows.uptoBulk, bulkD, ptapart_bL a, ptapart_bL b]
  | .agg a => by simp [Rows.uptoBulk, bulkD, ptapart_bL a]
  | .iface _ d => by simp [Rows.uptoBulk, bulkD, ptapart_bD d]
  | .map e => by simp [Rows.uptoBulk, bulkD, ptapart_bE e]
  | .held _ => by simp [Rows.uptoBulk, bulkD]
theorem ptapart_bL {H : Type} : ∀ d : List (DataW H), Rows.uptoBulkAll d = bulkL d
  | [] => by simp [Rows.uptoBulkAll, bulkL]
  | d :: r => by simp [Rows.uptoBulkAll, bulkL, ptapart_bD d, ptapart_bL r]
theorem ptapart_bE {H : Type} : ∀ d : List (Lit × DataW H), Rows.uptoBulkEntries d = bulkE d
  | [] => by simp [Rows.uptoBulkEntries, bulkE]
  | d :: r => by simp [Rows.uptoBulkEntries, bulkE, ptapart_bX d, ptapart_bE r]
theorem ptapart_bX {H : Type} : ∀ d : Lit × DataW H, Rows.uptoBulkEntry d = bulkX d
  | (l, d) => by cases l <;> simp [Rows.uptoBulkEntry, bulkX, ptapart_bD d]
end
set_option maxRecDepth 100000 in
theorem ptapart_lifted (os : Os) (started : os.Started) (H : Type) (enc : TypeId × Value → H) (F : Stop.Interp) :
    ReturnsInHanded {} Try.checked os 5 .any ((Rows.OpenSpec.upto Rows.partsApartSpec).pre6 enc Try.prog Try.f5 Rows.partsApartUptoRow.domain false) (((Rows.OpenSpec.upto Rows.partsApartSpec).at F).post enc Try.prog Try.f5 false true false false) := by
  refine returnsInHanded_of_cond (C := Try.checked) (s := Rows.OpenSpec.upto Rows.partsApartSpec) (k := Rows.uptoSmall) rfl ptapart_own started (by kernel_rfl) Try.func5
    (OpenSpec.witness (enc := enc) (C := Try.checked) (s := Rows.OpenSpec.upto Rows.partsApartSpec) (k := Rows.uptoSmall) rfl false ⟨#[], #[.agg #[.int .i64 0, .slice none 0 0, .slice none 0 0, .slice none 0 0, .int .i64 0, .int .i64 0], .slice none 0 0, .int .i64 0, .int .i64 0], []⟩ 8 (by kernel_rfl) (by kernel_rfl) (by kernel_rfl)
      (x := ([.agg [.agg [.lit (.int .i64 0), .nil], .nil, .nil, .lit (.int .i64 0), .lit (.int .i64 0)], .nil, .lit (.int .i64 0), .lit (.int .i64 0)], [], [])) (by kernel_rfl) rfl (by kernel_rfl)) ?_
  intro W base args ds gs before hval0 hW _ hk _
  show Calls Try.prog 5 args W fun e W' => ∃ v, e = .returned v ∧ Rows.partsApartSpec.post enc Try.prog Try.f5 false true false false W args v W'
  have hval : ∀ (j : Nat) t v, Try.f5.params[j]? = some t → args[j]? = some v → Value.okWide Try.prog W .any base t v := hval0
  have hW' := hW
  have hlt := hW.lt
  obtain ⟨p, q, hA0, hV, rfl, hfz, hnd⟩ := hW
  have hA : DataW.TrodAll enc Try.prog W 0 (fun _ => true) true Try.f5.params.toList args.toList ds p := hA0
  have hA1 := hA
  rw [Try.params5] at hA hval
  obtain ⟨v0, vs0, d0, ds0, p0, q0, hargs, rfl, rfl, h0, r0⟩ := trodAll_cons hA
  obtain ⟨v1, vs1, d1, ds1, p1, q1, rfl, rfl, rfl, h1, r1⟩ := trodAll_cons r0
  obtain ⟨v2, vs2, d2, ds2, p2, q2, rfl, rfl, rfl, h2, r2⟩ := trodAll_cons r1
  obtain ⟨v3, vs3, d3, ds3, p3, q3, rfl, rfl, rfl, h3, r3⟩ := trodAll_cons r2
  obtain ⟨rfl, rfl, rfl⟩ := trodAll_nil r3
  obtain rfl : args = #[v0, v1, v2, v3] := by cases args; simp_all
  obtain ⟨rfl, rfl⟩ := trodVars_none hV
  obtain ⟨cs0, rfl, _⟩ := okWide_struct Try.underlying28 (hval 0 28 v0 rfl rfl)
  obtain ⟨y0, u0, b0, e0⟩ := arg_agg (α := Module) opn_Module h0
  obtain ⟨z1, z'1, z''1, rfl⟩ := okWide_slice Try.underlying25 (hval 1 25 v1 rfl rfl)
  obtain ⟨y1, u1, b1, e1⟩ := arg_leaf (α := (List Part)) (opn_slice Try.underlying25 (by kernel_rfl) (by decide) opn_Part) rfl h1
  obtain ⟨z2, rfl⟩ := okWide_int Try.underlying3 (hval 2 3 v2 rfl rfl)
  obtain ⟨y2, u2, b2, e2⟩ := arg_leaf (α := Int) (opn_int Try.underlying3) rfl h2
  obtain ⟨z3, rfl⟩ := okWide_int Try.underlying3 (hval 3 3 v3 rfl rfl)
  obtain ⟨y3, u3, b3, e3⟩ := arg_leaf (α := Int) (opn_int Try.underlying3) rfl h3
  have hB : Siz.bulk y0 + Siz.bulk y1 + Siz.bulk y2 + Siz.bulk y3 ≤ 1048576 := by
    have h := of_decide_eq_true hk
    rw [ptapart_bL] at h
    simp only [List.append_nil, bulkL] at h
    omega
  have hR := repL_cons (M := fun _ => False) (β := fun _ => none) (cp := fun _ => 0) (.c e0) (repL_cons (M := fun _ => False) (β := fun _ => none) (cp := fun _ => 0) (.c e1) (repL_cons (M := fun _ => False) (β := fun _ => none) (cp := fun _ => 0) (.c e2) (repL_cons (M := fun _ => False) (β := fun _ => none) (cp := fun _ => 0) (.c e3) (repL_nil))))
  refine (law_callsA (ptapart_vc y0 y1 y2 y3 u0 u1 u2 u3 hB) hR).mono fun e W' ⟨he, bel⟩ => ?_
  subst he
  exact ⟨_, rfl, _, _, _, [], _, [], hW', trodAll_mk1 (shut_bool Try.underlying4 _), trodAll_below ptapart_laidOut bel (ptapart_readOk (by kernel_rfl)) (fun x hx => hlt x (List.mem_append_left _ hx)) hA1, rfl, bel.frame _, fun h => by cases h⟩
theorem PartsApart_proved : Rows.PartsApartUptoSaid :=
  OpenClaim.holds_of_cond 5 Try.f5 rfl rfl rfl rfl rfl rfl rfl ⟨rfl, rfl, rfl, rfl, rfl⟩ rfl rfl rfl rfl rfl (by kernel_rfl) Try.func5 (by kernel_rfl)
    (of_decide_eq_true (by kernel_rfl)) (by unfold Func.isWrapper; first | (rw [if_pos (by decide +kernel)]; kernel_rfl) | (rw [if_neg (by decide +kernel)]; exact ⟨rfl, rfl⟩))
    (fun os started H enc _ F => ptapart_lifted os started H enc F)
end

end Go.Proofs.Ytbnpacdkllmblaa
