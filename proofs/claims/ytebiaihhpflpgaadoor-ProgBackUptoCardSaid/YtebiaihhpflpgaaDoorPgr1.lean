/- Words of an instruction: walked. -/
import Derived.Test.YtebiaihhpflpgaaDoorStrs2
set_option linter.all false
namespace Go.Proofs.YtebiaihhpflpgaaDoor
open Go Go.Abs

def bz (l : List UInt8) : ByteArray := ⟨l.toArray⟩
def wordsV (s : shape) (i : Ins) : List ByteArray :=
  ([s.word] ++ if s.a = true then [regV i.a] else []) ++ if s.b.n = 114 then [regV i.b] else if s.b.n = 110 then [itoaB i.b] else []
def insIn (i : Ins) : Prop := (-9223372036854775808 ≤ i.a ∧ i.a ≤ 9223372036854775807) ∧ -9223372036854775808 ≤ i.b ∧ i.b ≤ 9223372036854775807
noncomputable def cWo : FuncId → Con := fun f => match f with
  | 35 => pureCon (detPC regC_D)
  | 36 => pureCon (detPC itoaC_D)
  | _ => fun _ _ _ => Bad 1001
theorem cWo_ok : ConOk Tryd.prog cWo := fun f A H K h => by
  unfold cWo at h
  split at h
  · exact ⟨⟨Tryd.f35, Tryd.func35, by kernel_rfl, by kernel_rfl⟩, pureCon_ok regC_ok h⟩
  · exact ⟨⟨Tryd.f36, Tryd.func36, by kernel_rfl, by kernel_rfl⟩, pureCon_ok itoaC_ok h⟩
  · cases h
def wordsC_R (r : Th ((List ByteArray))) : AV := .own 0 fun _ => (r ()).length
def wordsC_H (r : Th ((List ByteArray))) : Hp := [vecO 9 fun _ => (r ())]
def wordsC_P (s : shape) (i : Ins) : Prop := insIn i
def wordsC_C : PC := fun A K => match A with
  | [.agg s, .agg i] => Ob (fun _ => Dat.ok shape s ∧ Dat.ok Ins i ∧ wordsC_P (Dat.dec s) (Dat.dec i)) (Gen (α := (List ByteArray)) (fun _ => wordsV (Dat.dec s) (Dat.dec i)) fun r => K (wordsC_R fun _ => r) (wordsC_H fun _ => r))
  | _ => Bad 1002
set_option maxRecDepth 100000 in
set_option maxHeartbeats 4000000 in
theorem wordsC_vc (s : shape) (i : Ins) (hp : wordsC_P s i) : FnOk Tryd.prog 18 [.agg (Dat.enc fun _ => s), .agg (Dat.enc fun _ => i)] [] (outA (wordsC_R fun _ => wordsV s i) (wordsC_H fun _ => wordsV s i)) := by
  refine fn_ok envOk zl cWo_ok noDraws_ok (keep := [0, 1, 2, 3, 4, 5, 10, 18, 19, 27]) Tryd.func18 rfl ?_
  cbv
  repeat' first | (show Stp _; exfalso; first | omega | (exact h ‹_›) | (exact absurd ‹_› h) | (exact Bool.false_ne_true (h.symm.trans (show _ = true by assumption)))) | (refine Stp.mk ?_; cbv) | (refine Gen.mk fun r hr => ?_; (try simp only [Dat.ok, Dat.dec, Leaf.ok, Leaf.val, Z0, Z1, val_sl, val_nil] at hr); cbv) | exact trivial | rfl | refine Both.mk ?_ ?_ | (refine Imp.mk fun h => ?_; (try dsimp only at h); (try simp only [nc, Int.toNat_natCast, ne_eq, zz] at h); (try simp only [nc] at h)) | refine Ob.mk ?_ ?_ | refine Chk.mk (by kernel_rfl) ?_ | refine Eq'.mk ?_ | (refine AllN.mk fun i hi => ?_; cbv) | (refine AllC.mk fun c hc hcm => ?_; (try dsimp only at hc); cbv) | (refine AllS.mk fun r hr => ?_; (try simp only [Dat.ok, Dat.dec, Leaf.ok, Leaf.val, Z0, Z1, val_sl] at hr); cbv)
  all_goals ((try dsimp only at *); (try simp only [nc, Int.toNat_natCast, ne_eq, zz] at *); (try simp only [nc] at *))
  all_goals try simp only [Dat.dec, Leaf.val, Z0, Z1, val_sl] at *
  all_goals first
    | exact hp.1
    | exact hp.2
    | omega
    | decide
    | (simp [wordsV, *]; done)
    | (rcases i with _ | _ | _ | i
       all_goals first
         | omega
         | (simp [wordsV, *]; done))
    | fail
theorem wordsC_ok : PcOk Tryd.prog 18 (wordsC_C) := fun A K h => by
  unfold wordsC_C at h
  split at h
  · rename_i s i
    cases h with
    | mk h1 h2 =>
      obtain ⟨g0, g1, hp⟩ := h1
      refine FnOk.pre ?_ (A' := [.agg (Dat.enc fun _ => (Dat.dec s : shape)), .agg (Dat.enc fun _ => (Dat.dec i : Ins))]) (.mk (Dat.hle _ g0) (.mk (Dat.hle _ g1) (trivial)))
      exact FnOk.out (K := fun r H _ => K r H) (wordsC_vc (Dat.dec s) (Dat.dec i) hp) rfl h2.out
  · cases h
def wordsF_R (r : Th ((List ByteArray))) : AV := Leaf.av fun _ => (r ())
def wordsF_D : Det := fun A => match A with
  | [.agg s, .agg i] => some (fun _ => Dat.ok shape s ∧ Dat.ok Ins i ∧ wordsC_P (Dat.dec s) (Dat.dec i), wordsF_R fun _ => wordsV (Dat.dec s) (Dat.dec i))
  | _ => none
theorem wordsF_ok : PcOk Tryd.prog 18 (detPC wordsF_D) := det_okF fun A p r h hp0 => by
  unfold wordsF_D at h
  split at h
  · rename_i s i
    cases h
    obtain ⟨g0, g1, hp⟩ := hp0
    exact FnOk.froz (FnOk.pre (A' := [.agg (Dat.enc fun _ => (Dat.dec s : shape)), .agg (Dat.enc fun _ => (Dat.dec i : Ins))]) (wordsC_vc (Dat.dec s) (Dat.dec i) hp) (.mk (Dat.hle _ g0) (.mk (Dat.hle _ g1) (trivial)))) rfl (q := _) (d := _) rfl (by intro p hp; repeat (first | (cases hp; done) | (rcases List.mem_cons.1 hp with rfl | hp; · exact Nat.le_refl _))) rfl ⟨rfl, rfl⟩
  · cases h
theorem wordsF_okF : ∀ A p r, wordsF_D A = some (p, r) → p () → FrOk Tryd.prog 18 A r := fun A p r h hp0 => by
  unfold wordsF_D at h
  split at h
  · rename_i s i
    cases h
    obtain ⟨g0, g1, hp⟩ := hp0
    exact FnOk.fresh (A := [.agg s, .agg i]) (FnOk.pre (A' := [.agg (Dat.enc fun _ => (Dat.dec s : shape)), .agg (Dat.enc fun _ => (Dat.dec i : Ins))]) (wordsC_vc (Dat.dec s) (Dat.dec i) hp) (.mk (Dat.hle _ g0) (.mk (Dat.hle _ g1) (trivial)))) rfl (q := _) (d := _) rfl (by intro p hp; repeat (first | (cases hp; done) | (rcases List.mem_cons.1 hp with rfl | hp; · exact Nat.le_refl _))) rfl rfl ⟨.mk fun _ _ => rfl, trivial⟩
  · cases h
def shapesV : List shape := [⟨.empty, false, ⟨0⟩⟩, ⟨bz [115, 101, 116], true, ⟨110⟩⟩, ⟨bz [99, 111, 112, 121], true, ⟨114⟩⟩, ⟨bz [97, 100, 100], true, ⟨114⟩⟩, ⟨bz [115, 117, 98], true, ⟨114⟩⟩, ⟨bz [109, 117, 108], true, ⟨114⟩⟩,
  ⟨bz [106, 117, 109, 112], false, ⟨110⟩⟩, ⟨bz [122, 101, 114, 111], true, ⟨110⟩⟩, ⟨bz [108, 101, 115, 115], true, ⟨110⟩⟩, ⟨bz [105, 110], true, ⟨0⟩⟩, ⟨bz [111, 117, 116], true, ⟨110⟩⟩, ⟨bz [104, 97, 108, 116], false, ⟨0⟩⟩]
def shapesC_R (r : Th ((List shape))) : AV := .own 0 fun _ => (r ()).length
def shapesC_H (r : Th ((List shape))) : Hp := [vecO 52 fun _ => (r ())]
def shapesC_C : PC := fun A K => match A with
  | [] => Ob (fun _ => True) (Gen (α := (List shape)) (fun _ => shapesV ) fun r => K (shapesC_R fun _ => r) (shapesC_H fun _ => r))
  | _ => Bad 1002
set_option maxRecDepth 100000 in
set_option maxHeartbeats 4000000 in
theorem shapesC_vc  : FnOk Tryd.prog 16 [] [] (outA (shapesC_R fun _ => shapesV ) (shapesC_H fun _ => shapesV )) := by
  refine fn_ok envOk zl noCon_ok noDraws_ok (keep := [0]) Tryd.func16 rfl ?_
  cbv
  repeat' first | (refine Stp.mk ?_; cbv) | (refine Gen.mk fun r hr => ?_; (try simp only [Dat.ok, Dat.dec, Leaf.ok, Leaf.val, Z0, Z1, val_sl, val_nil] at hr); cbv) | exact trivial | rfl | refine Both.mk ?_ ?_ | (refine Imp.mk fun h => ?_; (try dsimp only at h); (try simp only [nc, Int.toNat_natCast, ne_eq, zz] at h); (try simp only [nc] at h)) | refine Ob.mk ?_ ?_ | refine Chk.mk (by kernel_rfl) ?_ | refine Eq'.mk ?_ | (refine AllN.mk fun i hi => ?_; cbv) | (refine AllC.mk fun c hc hcm => ?_; (try dsimp only at hc); cbv) | (refine AllS.mk fun r hr => ?_; (try simp only [Dat.ok, Dat.dec, Leaf.ok, Leaf.val, Z0, Z1, val_sl] at hr); cbv)
  all_goals ((try dsimp only at *); (try simp only [nc, Int.toNat_natCast, ne_eq, zz] at *); (try simp only [nc] at *))
  all_goals first
    | rfl
    | (have hi3 : i < 12 := hi
       rcases i with _ | _ | _ | _ | _ | _ | _ | _ | _ | _ | _ | _ | i
       all_goals first
         | omega
         | (cbv
            repeat' first | (refine Stp.mk ?_; cbv) | (refine Gen.mk fun r hr => ?_; (try simp only [Dat.ok, Dat.dec, Leaf.ok, Leaf.val, Z0, Z1, val_sl, val_nil] at hr); cbv) | exact trivial | rfl | refine Both.mk ?_ ?_ | (refine Imp.mk fun h => ?_; (try dsimp only at h); (try simp only [nc, Int.toNat_natCast, ne_eq, zz] at h); (try simp only [nc] at h)) | refine Ob.mk ?_ ?_ | refine Chk.mk (by kernel_rfl) ?_ | refine Eq'.mk ?_ | (refine AllN.mk fun i hi => ?_; cbv) | (refine AllC.mk fun c hc hcm => ?_; (try dsimp only at hc); cbv) | (refine AllS.mk fun r hr => ?_; (try simp only [Dat.ok, Dat.dec, Leaf.ok, Leaf.val, Z0, Z1, val_sl] at hr); cbv)
            all_goals rfl))
    | fail
theorem shapesC_ok : PcOk Tryd.prog 16 (shapesC_C) := fun A K h => by
  unfold shapesC_C at h
  split at h
  · cases h with
    | mk h1 h2 =>
      refine FnOk.pre ?_ (A' := []) (trivial)
      exact FnOk.out (K := fun r H _ => K r H) (shapesC_vc ) rfl h2.out
  · cases h
def shapesF_R (r : Th ((List shape))) : AV := Leaf.av fun _ => (r ())
def shapesF_D : Det := fun A => match A with
  | [] => some (fun _ => True, shapesF_R fun _ => shapesV )
  | _ => none
theorem shapesF_ok : PcOk Tryd.prog 16 (detPC shapesF_D) := det_okF fun A p r h hp0 => by
  unfold shapesF_D at h
  split at h
  · cases h
    exact FnOk.froz (FnOk.pre (A' := []) (shapesC_vc ) (trivial)) rfl (q := _) (d := _) rfl (by intro p hp; repeat (first | (cases hp; done) | (rcases List.mem_cons.1 hp with rfl | hp; · exact Nat.le_refl _))) rfl ⟨rfl, rfl⟩
  · cases h
theorem shapesF_okF : ∀ A p r, shapesF_D A = some (p, r) → p () → FrOk Tryd.prog 16 A r := fun A p r h hp0 => by
  unfold shapesF_D at h
  split at h
  · cases h
    exact FnOk.fresh (A := []) (FnOk.pre (A' := []) (shapesC_vc ) (trivial)) rfl (q := _) (d := _) rfl (by intro p hp; repeat (first | (cases hp; done) | (rcases List.mem_cons.1 hp with rfl | hp; · exact Nat.le_refl _))) rfl rfl ⟨.mk fun _ _ => rfl, trivial⟩
  · cases h

end Go.Proofs.YtebiaihhpflpgaaDoor
