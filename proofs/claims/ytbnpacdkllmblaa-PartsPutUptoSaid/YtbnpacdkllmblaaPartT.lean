/- parts.tick: walked. -/
import Derived.Test.YtbnpacdkllmblaaPartD
set_option linter.all false
namespace Go.Proofs.Ytbnpacdkllmblaa
open Go Go.Abs

inductive SndI (A : List AV) (H : Hp) (K : Kont) : Prop where
  | mk (m : Module) (i : Int) (x : Emit) (h1 : SOk m) (h2 : H.length = 2) (h3 : leL 2 A [.ptr 0 0, .i .i64 fun _ => i, .agg [.i .i64 fun _ => x.port, .i .i64 fun _ => x.n]]) (h4 : leH H [.blk (mdA 1 fun _ => m), psO (fun _ => m.parts.length) fun _ => m.parts])
    (h5 : ∀ R, sendW i x m.wires m = R → K (.tup []) [.blk (mdA 1 fun _ => R), psO (fun _ => R.parts.length) fun _ => R.parts] [1])
noncomputable def snd_K : Con := subCon SndI
theorem snd_ok {A : List AV} {H : Hp} {K : Kont} (hv : snd_K A H K) : FnOk Try.prog 48 A H K :=
  subCon_ok (fun {A H K} hv => by
    obtain ⟨m, i, x, h1, h2, h3, h4, h5⟩ := hv
    exact preL (FnOk.le (send_vc m h1 i x _ rfl) rfl (h5 _ rfl)) h2 h3 h4) hv
def runF_R (r : Th (Vm × (List Emit) × Int × Int × Int)) : AV := .tup [.agg [.i .i64 fun _ => (r ()).1.at_, Leaf.av fun _ => (r ()).1.regs, .b fun _ => (r ()).1.halts, .b fun _ => (r ()).1.fault], Leaf.av fun _ => (r ()).2.1, .i .i64 fun _ => (r ()).2.2.1, .i .i64 fun _ => (r ()).2.2.2.1, .i .i64 fun _ => (r ()).2.2.2.2]
def runF_D : Det := fun A => match A with
  | [p, .agg v, inp, .i .i64 fuel] => some (fun _ => Leaf.ok (List Ins) p ∧ Dat.ok Vm v ∧ Leaf.ok (List Int) inp ∧ run_P (Leaf.val p) (Dat.dec v) (Leaf.val inp) (fuel ()), runF_R fun _ => runV (Leaf.val p) (Dat.dec v) (Leaf.val inp) (fuel ()))
  | _ => none
theorem runF_ok : PcOk Try.prog 46 (detPC runF_D) := det_okF fun A p r h hp0 => by
  unfold runF_D at h
  split at h
  · rename_i p v inp fuel
    cases h
    obtain ⟨g0, g1, g2, hp⟩ := hp0
    exact FnOk.froz (FnOk.pre (A' := [Leaf.av fun _ => (Leaf.val p : (List Ins)), .agg (Dat.enc fun _ => (Dat.dec v : Vm)), Leaf.av fun _ => (Leaf.val inp : (List Int)), .i .i64 fun _ => fuel ()]) (run_vc (Leaf.val p) (Dat.dec v) (Leaf.val inp) (fuel ()) hp) (.mk (Leaf.hle _ g0) (.mk (Dat.hle _ g1) (.mk (Leaf.hle _ g2) (.mk (.mk (.mk rfl) (.mk rfl)) (trivial)))))) rfl (q := _) (d := _) rfl (by intro p hp; repeat (first | (cases hp; done) | (rcases List.mem_cons.1 hp with rfl | hp; · exact Nat.le_refl _))) rfl ⟨rfl, rfl⟩
  · cases h
theorem runF_okF : ∀ A p r, runF_D A = some (p, r) → p () → FrOk Try.prog 46 A r := fun A p r h hp0 => by
  unfold runF_D at h
  split at h
  · rename_i p v inp fuel
    cases h
    obtain ⟨g0, g1, g2, hp⟩ := hp0
    exact FnOk.fresh (A := [p, .agg v, inp, .i .i64 fuel]) (FnOk.pre (A' := [Leaf.av fun _ => (Leaf.val p : (List Ins)), .agg (Dat.enc fun _ => (Dat.dec v : Vm)), Leaf.av fun _ => (Leaf.val inp : (List Int)), .i .i64 fun _ => fuel ()]) (run_vc (Leaf.val p) (Dat.dec v) (Leaf.val inp) (fuel ()) hp) (.mk (Leaf.hle _ g0) (.mk (Dat.hle _ g1) (.mk (Leaf.hle _ g2) (.mk (.mk (.mk rfl) (.mk rfl)) (trivial)))))) rfl (q := _) (d := _) rfl (by intro p hp; repeat (first | (cases hp; done) | (rcases List.mem_cons.1 hp with rfl | hp; · exact Nat.le_refl _))) rfl rfl ⟨.mk fun _ _ => rfl, .mk fun _ _ => rfl, trivial⟩
  · cases h
noncomputable def cTk : FuncId → Con := fun f => match f with
  | 37 => pureCon (detPC pinC_D)
  | 48 => snd_K
  | _ => fun _ _ _ => Bad 1001
theorem cTk_ok : ConOk Try.prog cTk := fun f A H K h => by
  unfold cTk at h
  split at h
  · exact ⟨⟨Try.f37, Try.func37, by kernel_rfl, by kernel_rfl⟩, pureCon_ok pinC_ok h⟩
  · exact ⟨⟨Try.f48, Try.func48, by kernel_rfl, by kernel_rfl⟩, snd_ok h⟩
  · cases h
def dTn : FuncId → Option Dt := fun f => match f with
  | 11 => some (.c wowner_D)
  | 46 => some (.f runF_D)
  | 47 => some (.o (ownDet Int 3 dlInt_S))
  | _ => none
theorem dTn_ok : DetOk Try.prog dTn := fun f d h => by
  unfold dTn at h
  split at h
  · cases h; exact ⟨⟨Try.f11, Try.func11, by kernel_rfl, by kernel_rfl⟩, wowner_ok⟩
  · cases h; exact ⟨⟨Try.f46, Try.func46, by kernel_rfl, by kernel_rfl⟩, runF_okF⟩
  · cases h; exact ⟨⟨Try.f47, Try.func47, by kernel_rfl, by kernel_rfl⟩, dlInt_okO⟩
  · cases h
def dTe : FuncId → Option Dt := fun f => match f with
  | 11 => some (.c wowner_D)
  | 46 => some (.f runF_D)
  | 47 => some (.o (ownDet Int 3 dlE_S))
  | _ => none
theorem dTe_ok : DetOk Try.prog dTe := fun f d h => by
  unfold dTe at h
  split at h
  · cases h; exact ⟨⟨Try.f11, Try.func11, by kernel_rfl, by kernel_rfl⟩, wowner_ok⟩
  · cases h; exact ⟨⟨Try.f46, Try.func46, by kernel_rfl, by kernel_rfl⟩, runF_okF⟩
  · cases h; exact ⟨⟨Try.f47, Try.func47, by kernel_rfl, by kernel_rfl⟩, dlE_okO⟩
  · cases h
def rowP (ps : List Part) (i : Th Nat) : List NC := [.c (.sl 3 (fun _ => (ps.getD (i ()) Dat.d0).code.length) fun j => Dat.enc fun _ => (ps.getD (i ()) Dat.d0).code.getD (j ()) Dat.d0), .c (.i .i64 fun _ => (ps.getD (i ()) Dat.d0).vm.at_),
  .c (.sl 1 (fun _ => (ps.getD (i ()) Dat.d0).vm.regs.length) fun j => Dat.enc fun _ => (ps.getD (i ()) Dat.d0).vm.regs.getD (j ()) Dat.d0), .c (.b fun _ => (ps.getD (i ()) Dat.d0).vm.halts), .c (.b fun _ => (ps.getD (i ()) Dat.d0).vm.fault),
  .sl 3 1 (fun _ => (ps.getD (i ()) Dat.d0).box.length) fun j => Dat.enc fun _ => (ps.getD (i ()) Dat.d0).box.getD (j ()) Dat.d0]
def psA (ps : List Part) : AV := .sl 6 (fun _ => ps.length) fun i => rowCL (rowP ps i)
theorem rowP_ok {ps : List Part} {i : Nat} : Dat.ok Part (rowCL (rowP ps fun _ => i)) := by
  have := Dat.hok fun _ => ps.getD i Dat.d0
  exact this
theorem psA_ok {ps : List Part} : Leaf.ok (List Part) (psA ps) := ⟨rfl, fun i _ => rowP_ok⟩
theorem psA_val {ps : List Part} : (slV (psA ps) : List Part) = ps := by
  refine lst_eq (d := Dat.d0) rfl fun i hi => ?_
  exact (Dat.hdec fun _ => ps.getD i Dat.d0 : Dat.dec (Dat.enc fun _ => ps.getD i Dat.d0) = _)
theorem partB_eq {m : Module} {t : Table} {w : List Wire} {a b i : Int} {c : Bool} (h : partB ⟨t, slV (psA m.parts), w, a, b⟩ i = c) : partB m i = c := by
  rw [psA_val] at h; exact h
theorem sendW_ok {i : Int} {x : Emit} : ∀ {l : List Wire} {m : Module}, (∀ p ∈ m.parts, p.box.length ≤ 50) → (sendW i x l m).wires = m.wires ∧ (sendW i x l m).table = m.table ∧ (sendW i x l m).now = m.now ∧ (sendW i x l m).parts.length = m.parts.length ∧ (m.lost ≤ (sendW i x l m).lost ∧ (sendW i x l m).lost ≤ m.lost + l.length) ∧ ∀ p ∈ (sendW i x l m).parts, p.box.length ≤ 50
  | [], m, h => ⟨rfl, rfl, rfl, rfl, ⟨Int.le_refl _, by show m.lost ≤ m.lost + 0; omega⟩, h⟩
  | w :: r, m, h => by
    rw [sendW, List.length_cons]
    split
    · have ih := sendW_ok (i := i) (x := x) (l := r) (sendB_b (w := w) (n := x.n) h)
      have := @sendB_x m w x.n
      exact ⟨ih.1.trans sendB_w, ih.2.1.trans sendB_t, ih.2.2.1.trans sendB_n, ih.2.2.2.1.trans sendB_l, ⟨by omega, by omega⟩, ih.2.2.2.2.2⟩
    · have ih := sendW_ok (i := i) (x := x) (l := r) h
      exact ⟨ih.1, ih.2.1, ih.2.2.1, ih.2.2.2.1, ⟨by omega, by omega⟩, ih.2.2.2.2.2⟩
theorem out_len {p : Part} : (outP p).length ≤ 1 := by
  unfold outP runV
  split
  · show (runM p.code 1 (mac0 p.vm p.box)).1.out.length ≤ 1
    rw [runM]
    split
    · exact Nat.zero_le _
    · split
      · exact Nat.zero_le _
      · cases h : stepM p.code (mac0 p.vm p.box) with
        | none => exact Nat.zero_le _
        | some m' =>
          show (runM p.code 0 m').1.out.length ≤ 1
          rw [runM]
          show m'.out.length ≤ 1
          unfold stepM at h
          repeat' split at h
          all_goals first
            | (cases h; done)
            | (cases h; first | exact Nat.zero_le _ | exact Nat.le_refl _)
  · exact Nat.zero_le _
structure TkX (i : Int) (out : List Emit) (m1 : Module) where
  k : Nat
  m' : Module
  hk : k ≤ out.length
  hS : SOk m'
  hx : m'.lost ≤ m1.lost + 32 * k
  he : sendsV i out m1 = sendsV i (out.drop k) m'
theorem sends_step {i : Int} {out : List Emit} {m : Module} {k : Nat} (hk : k < out.length) : sendsV i (out.drop k) m = sendsV i (out.drop (k + 1)) (sendW i (out.getD k Dat.d0) m.wires m) := by rw [drop_cons Dat.d0 hk, sendsV]
theorem sok_step {i : Int} {x : Emit} {m : Module} (h : SOk m) (hx : m.lost ≤ 2199023255552) : SOk (sendW i x m.wires m) ∧ (sendW i x m.wires m).lost ≤ m.lost + 32 := by
  have := sendW_ok (i := i) (x := x) (l := m.wires) h.b
  obtain ⟨a1, a2, a3, a4, a5, a6⟩ := this
  have := h.lw
  have := h.lost
  exact ⟨⟨by rw [a4]; exact h.lp, by rw [a1]; exact h.lw, by rw [a1, a4]; exact h.w, ⟨by omega, by omega⟩, a6⟩, by omega⟩
set_option maxRecDepth 100000 in
set_option maxHeartbeats 4000000 in
theorem tickn_vc (m : Module) (hm : mchkV m = 0) (R : Module × Int) (hR : tickV m = R) (hne : partB m (ownerV m.table m.now).1 = true → 0 < (m.parts.getD (ownerV m.table m.now).1.toNat Dat.d0).box.length) :
    FnOk Try.prog 39 [.ptr 0 0] [.blk (mdA 1 fun _ => m), psO (fun _ => m.parts.length) fun _ => m.parts] (outLe 2 (.i .i64 fun _ => R.2) [.blk (mdA 1 fun _ => R.1), psO (fun _ => R.1.parts.length) fun _ => R.1.parts] [1]) := by
  generalize hK : outLe 2 (.i .i64 fun _ => R.2) [.blk (mdA 1 fun _ => R.1), psO (fun _ => R.1.parts.length) fun _ => R.1.parts] [1] = K
  have M := mchk_iff.1 hm
  have T := wchk_iff.1 M.t
  have lp := M.lp
  have lw := M.lw
  refine fn_ok envOk zl cTk_ok (drawsN_ok envOk zl dTn_ok mixed) (keep := [0, 2, 3, 5, 6, 7, 8, 12, 24, 49, 88, 89, 90, 91]) Try.func39 rfl ?_
  cbv
  repeat' first | (show Stp _; exfalso; first | omega | (exact h ‹_›) | (exact absurd ‹_› h) | (exact Bool.false_ne_true (h.symm.trans (show _ = true by assumption)))) | (refine Stp.mk ?_; cbv) | (refine Gen.mk fun r hr => ?_; (try simp only [Dat.ok, Dat.dec, Leaf.ok, Leaf.val, Z0, Z1, Z2, Z3, Z4, Z5, Z6, Z7, val_sl, val_nil] at hr); cbv) | exact trivial | rfl | refine Both.mk ?_ ?_ | (refine Imp.mk fun h => ?_; (try dsimp only at h); (try simp only [nc, Int.toNat_natCast, ne_eq, zz] at h); (try simp only [nc] at h)) | refine Ob.mk ?_ ?_ | refine Chk.mk (by kernel_rfl) ?_ | refine Eq'.mk ?_ | (refine AllN.mk fun i hi => ?_; cbv) | (refine AllC.mk fun c hc hcm => ?_; (try dsimp only at hc); cbv) | (refine AllS.mk fun r hr => ?_; (try simp only [Dat.ok, Dat.dec, Leaf.ok, Leaf.val, Z0, Z1, Z2, Z3, Z4, Z5, Z6, Z7, val_sl] at hr); cbv)
  all_goals ((try dsimp only at *); (try simp only [nc, Int.toNat_natCast, ne_eq, zz] at *); (try simp only [nc] at *))
  all_goals try simp only [Dat.dec, Leaf.val, Z0, Z1, Z2, Z3, Z4, Z5, Z6, Z7, val_sl] at *
  all_goals first
    | (subst hK
       have hR2 : R = (m, 6) := by rw [← hR, tickV, if_pos (by omega)]
       subst hR2
       cbv
       repeat' first | (refine Stp.mk ?_; cbv) | (refine Gen.mk fun r hr => ?_; (try simp only [Dat.ok, Dat.dec, Leaf.ok, Leaf.val, Z0, Z1, Z2, Z3, Z4, Z5, Z6, Z7, val_sl, val_nil] at hr); cbv) | exact trivial | rfl | refine Both.mk ?_ ?_ | (refine Imp.mk fun h => ?_; (try dsimp only at h); (try simp only [nc, Int.toNat_natCast, ne_eq, zz] at h); (try simp only [nc] at h)) | refine Ob.mk ?_ ?_ | refine Chk.mk (by kernel_rfl) ?_ | refine Eq'.mk ?_ | (refine AllN.mk fun i hi => ?_; cbv) | (refine AllC.mk fun c hc hcm => ?_; (try dsimp only at hc); cbv) | (refine AllS.mk fun r hr => ?_; (try simp only [Dat.ok, Dat.dec, Leaf.ok, Leaf.val, Z0, Z1, Z2, Z3, Z4, Z5, Z6, Z7, val_sl] at hr); cbv)
       done)
    | exact ⟨⟨trivial, rfl, fun i _ => Dat.hok _⟩, by show (_ : Nat) ≤ _; have := T.len; omega⟩
    | (have := M.now; unfold InR; omega)
    | exact Nat.le_refl _
    | exact ⟨⟨trivial, ⟨rfl, fun i _ => Dat.hok _⟩, ⟨rfl, fun i _ => rowP_ok (ps := m.parts)⟩, ⟨rfl, fun i _ => Dat.hok _⟩, trivial, trivial⟩, by show (slV (psA m.parts) : List Part).length ≤ _; rw [psA_val]; omega⟩
    | (have hb : partB m (ownerV m.table m.now).1 = false := partB_eq (by assumption)
       subst hK
       have hR2 : R = (⟨m.table, m.parts, m.wires, m.now + 1, m.lost⟩, 0) := by rw [← hR, tickV, if_neg (by omega), if_pos hb]
       subst hR2
       cbv
       repeat' first | (refine Stp.mk ?_; cbv) | (refine Gen.mk fun r hr => ?_; (try simp only [Dat.ok, Dat.dec, Leaf.ok, Leaf.val, Z0, Z1, Z2, Z3, Z4, Z5, Z6, Z7, val_sl, val_nil] at hr); cbv) | exact trivial | rfl | refine Both.mk ?_ ?_ | (refine Imp.mk fun h => ?_; (try dsimp only at h); (try simp only [nc, Int.toNat_natCast, ne_eq, zz] at h); (try simp only [nc] at h)) | refine Ob.mk ?_ ?_ | refine Chk.mk (by kernel_rfl) ?_ | refine Eq'.mk ?_ | (refine AllN.mk fun i hi => ?_; cbv) | (refine AllC.mk fun c hc hcm => ?_; (try dsimp only at hc); cbv) | (refine AllS.mk fun r hr => ?_; (try simp only [Dat.ok, Dat.dec, Leaf.ok, Leaf.val, Z0, Z1, Z2, Z3, Z4, Z5, Z6, Z7, val_sl] at hr); cbv)
       done)
    | (have hb : partB m (ownerV m.table m.now).1 = true := partB_eq (by assumption)
       have hb2 := of_decide_eq_true hb
       first
         | exact ⟨hb2.1, hb2.2⟩
         | omega)
    | (have hb : partB m (ownerV m.table m.now).1 = true := partB_eq (by assumption)
       have hb2 := of_decide_eq_true hb
       have P := prt_iff.1 (M.p (m.parts.getD (ownerV m.table m.now).1.toNat Dat.d0) (by
         have h9 : (ownerV m.table m.now).1.toNat < m.parts.length := by omega
         rw [List.getD_eq_getElem?_getD, List.getElem?_eq_getElem h9]; exact List.getElem_mem h9))
       have bd := @runV_bd (m.parts.getD (ownerV m.table m.now).1.toNat Dat.d0).code (m.parts.getD (ownerV m.table m.now).1.toNat Dat.d0).vm (m.parts.getD (ownerV m.table m.now).1.toNat Dat.d0).box 1
       have c1 := check_len P.c
       have c2 := (rightV_ok P.v).2.1
       have c3 := P.l
       first
         | exact ⟨Nat.le_refl _, ⟨rfl, fun i _ => Dat.hok _⟩, ⟨trivial, ⟨rfl, fun i _ => Dat.hok _⟩, trivial, trivial⟩, ⟨rfl, fun i _ => Dat.hok _⟩, Nat.le_trans c1 (by decide), Nat.le_trans (Nat.le_of_eq c2) (by decide), Nat.le_trans c3 (by decide)⟩
         | exact ⟨rfl, trivial, fun i _ => Dat.hok _, Int.le_refl _, bd.1, bd.2.1, hne hb, Nat.le_trans c3 (by decide)⟩)
    | skip
  have hb : partB m (ownerV m.table m.now).1 = true := partB_eq (by assumption)
  have hb2 := of_decide_eq_true hb
  obtain ⟨q, hq⟩ : ∃ q : Nat, (ownerV m.table m.now).1 = q := ⟨(ownerV m.table m.now).1.toNat, by omega⟩
  have hq2 : q < m.parts.length := by omega
  have P := prt_iff.1 (M.p (m.parts.getD q Dat.d0) (by rw [List.getD_eq_getElem?_getD, List.getElem?_eq_getElem hq2]; exact List.getElem_mem hq2))
  have bd := @runV_bd (m.parts.getD q Dat.d0).code (m.parts.getD q Dat.d0).vm (m.parts.getD q Dat.d0).box 1
  have ol := @out_len (m.parts.getD q Dat.d0)
  have eF : dlInt_F (m.parts.getD q Dat.d0).box 0 (runV (m.parts.getD q Dat.d0).code (m.parts.getD q Dat.d0).vm (m.parts.getD q Dat.d0).box 1).2.2.1 = (ranP (m.parts.getD q Dat.d0)).box := by
    show delU _ _ _ = List.drop _ _
    simp [delU]
  have eN : dlInt_N (m.parts.getD q Dat.d0).box 0 (runV (m.parts.getD q Dat.d0).code (m.parts.getD q Dat.d0).vm (m.parts.getD q Dat.d0).box 1).2.2.1 = (ranP (m.parts.getD q Dat.d0)).box.length := congrArg List.length eF
  have eT : tickV m = (sendsV q (outP (m.parts.getD q Dat.d0)) ⟨m.table, m.parts.set q (ranP (m.parts.getD q Dat.d0)), m.wires, m.now + 1, m.lost⟩, 0) := by
    rw [tickV, if_neg (by omega), if_neg (by rw [hb]; decide), hq, Int.toNat_natCast]
  rw [hq] at *
  simp only [Int.toNat_natCast] at *
  have hS0 : SOk ⟨m.table, m.parts.set q (ranP (m.parts.getD q Dat.d0)), m.wires, m.now + 1, m.lost⟩ := by
    refine ⟨by rw [List.length_set]; exact lp, lw, by rw [List.length_set]; exact M.w, ⟨M.lost.1, by have := M.lost.2; show m.lost ≤ _; omega⟩, fun p hp => ?_⟩
    rcases List.mem_or_eq_of_mem_set hp with hp | rfl
    · exact (prt_iff.1 (M.p p hp)).l
    · have := P.l
      unfold ranP
      show (List.drop _ _).length ≤ 50
      rw [List.length_drop]; omega
  refine .cls ?_
  cbv
  repeat' first | (refine Stp.mk ?_; cbv) | (refine Gen.mk fun r hr => ?_; (try simp only [Dat.ok, Dat.dec, Leaf.ok, Leaf.val, Z0, Z1, Z2, Z3, Z4, Z5, Z6, Z7, val_sl, val_nil] at hr); cbv) | exact trivial | rfl | refine Both.mk ?_ ?_ | (refine Imp.mk fun h => ?_; (try dsimp only at h); (try simp only [nc, Int.toNat_natCast, ne_eq, zz] at h); (try simp only [nc] at h)) | refine Ob.mk ?_ ?_ | refine Chk.mk (by kernel_rfl) ?_ | refine Eq'.mk ?_ | (refine AllN.mk fun i hi => ?_; cbv) | (refine AllC.mk fun c hc hcm => ?_; (try dsimp only at hc); cbv) | (refine AllS.mk fun r hr => ?_; (try simp only [Dat.ok, Dat.dec, Leaf.ok, Leaf.val, Z0, Z1, Z2, Z3, Z4, Z5, Z6, Z7, val_sl] at hr); cbv)
  refine LoopI.frameC (5 :: [12, 90, 91]) (TkX q (outP (m.parts.getD q Dat.d0)) ⟨m.table, m.parts.set q (ranP (m.parts.getD q Dat.d0)), m.wires, m.now + 1, m.lost⟩) (fun x => [(90, .i .i64 fun _ => x.k), (5, .any)]) (fun x => [(0, .blk (mdA 1 fun _ => x.m')), (1, psO (fun _ => x.m'.parts.length) fun _ => x.m'.parts)]) [1, 2, 4, 5, 6, 7, 8, 9, 10, 11, 12] (fun x => (outP (m.parts.getD q Dat.d0)).length - x.k)
    ⟨0, _, Nat.zero_le _, hS0, by show m.lost ≤ m.lost + 32 * 0; omega, by rw [List.drop_zero]⟩ rfl (fun _ => rfl) ?_ ?_ fun ⟨k, m', hk, hS, hx, he⟩ => ?_
  · cbv
    repeat' first | (refine Stp.mk ?_; cbv) | (refine Gen.mk fun r hr => ?_; (try simp only [Dat.ok, Dat.dec, Leaf.ok, Leaf.val, Z0, Z1, Z2, Z3, Z4, Z5, Z6, Z7, val_sl, val_nil] at hr); cbv) | exact trivial | rfl | refine Both.mk ?_ ?_ | (refine Imp.mk fun h => ?_; (try dsimp only at h); (try simp only [nc, Int.toNat_natCast, ne_eq, zz] at h); (try simp only [nc] at h)) | refine Ob.mk ?_ ?_ | refine Chk.mk (by kernel_rfl) ?_ | refine Eq'.mk ?_ | (refine AllN.mk fun i hi => ?_; cbv) | (refine AllC.mk fun c hc hcm => ?_; (try dsimp only at hc); cbv) | (refine AllS.mk fun r hr => ?_; (try simp only [Dat.ok, Dat.dec, Leaf.ok, Leaf.val, Z0, Z1, Z2, Z3, Z4, Z5, Z6, Z7, val_sl] at hr); cbv)
    all_goals fail
  · cbv
    repeat' first | (refine Stp.mk ?_; cbv) | (refine Gen.mk fun r hr => ?_; (try simp only [Dat.ok, Dat.dec, Leaf.ok, Leaf.val, Z0, Z1, Z2, Z3, Z4, Z5, Z6, Z7, val_sl, val_nil] at hr); cbv) | exact trivial | rfl | refine Both.mk ?_ ?_ | (refine Imp.mk fun h => ?_; (try dsimp only at h); (try simp only [nc, Int.toNat_natCast, ne_eq, zz] at h); (try simp only [nc] at h)) | refine Ob.mk ?_ ?_ | refine Chk.mk (by kernel_rfl) ?_ | refine Eq'.mk ?_ | (refine AllN.mk fun i hi => ?_; cbv) | (refine AllC.mk fun c hc hcm => ?_; (try dsimp only at hc); cbv) | (refine AllS.mk fun r hr => ?_; (try simp only [Dat.ok, Dat.dec, Leaf.ok, Leaf.val, Z0, Z1, Z2, Z3, Z4, Z5, Z6, Z7, val_sl] at hr); cbv)
    all_goals ((try dsimp only at *); (try simp only [nc, Int.toNat_natCast, ne_eq, zz] at *); (try simp only [nc] at *))
    all_goals try simp only [eN, eF] at *
    all_goals first
      | rfl
      | exact (List.length_set).symm
      | exact setP_f (fun p => p.vm.at_) (by assumption) rfl
      | exact setP_f (fun p => p.vm.halts) (by assumption) rfl
      | exact setP_f (fun p => p.vm.fault) (by assumption) rfl
      | exact setP_f (fun p => p.box.length) (by assumption) rfl
      | exact setP_f (fun p => p.box.getD _ Dat.d0) (by assumption) rfl
      | (rw [setP_y] <;> first | rfl | assumption)
      | exact congrArg (fun (p : Part) => p.code.length) (setP_n (by assumption) (by assumption)).symm
      | exact congrArg (fun (p : Part) => (p.code.getD _ Dat.d0).code) (setP_n (by assumption) (by assumption)).symm
      | exact congrArg (fun (p : Part) => (p.code.getD _ Dat.d0).a) (setP_n (by assumption) (by assumption)).symm
      | exact congrArg (fun (p : Part) => (p.code.getD _ Dat.d0).b) (setP_n (by assumption) (by assumption)).symm
      | exact congrArg (fun (p : Part) => p.vm.regs.length) (setP_n (by assumption) (by assumption)).symm
      | exact congrArg (fun (p : Part) => p.vm.regs.getD _ Dat.d0) (setP_n (by assumption) (by assumption)).symm
      | (simp; done)
      | fail
  have hx : m'.lost ≤ m.lost + 32 * k := hx
  have hx9 : m'.lost + 32 ≤ m.lost + 32 * ((k + 1 : Nat) : Int) := by rw [show ((k + 1 : Nat) : Int) = (k : Int) + 1 from rfl, Int.mul_add]; omega
  have hl2 : m'.lost ≤ 2199023255552 := by omega
  have st := fun h => @sends_step q (outP (m.parts.getD q Dat.d0)) m' k h
  have sk := @sok_step q ((outP (m.parts.getD q Dat.d0)).getD k Dat.d0) m' hS hl2
  cbv
  repeat' first | (refine Stp.mk ?_; cbv) | (refine Gen.mk fun r hr => ?_; (try simp only [Dat.ok, Dat.dec, Leaf.ok, Leaf.val, Z0, Z1, Z2, Z3, Z4, Z5, Z6, Z7, val_sl, val_nil] at hr); cbv) | exact trivial | rfl | refine Both.mk ?_ ?_ | (refine Imp.mk fun h => ?_; (try dsimp only at h); (try simp only [nc, Int.toNat_natCast, ne_eq, zz] at h); (try simp only [nc] at h)) | refine Ob.mk ?_ ?_ | refine Chk.mk (by kernel_rfl) ?_ | refine Eq'.mk ?_ | (refine AllN.mk fun i hi => ?_; cbv) | (refine AllC.mk fun c hc hcm => ?_; (try dsimp only at hc); cbv) | (refine AllS.mk fun r hr => ?_; (try simp only [Dat.ok, Dat.dec, Leaf.ok, Leaf.val, Z0, Z1, Z2, Z3, Z4, Z5, Z6, Z7, val_sl] at hr); cbv)
  · have h9 : k < (outP (m.parts.getD q Dat.d0)).length := Int.ofNat_lt.1 h
    exact ⟨Int.natCast_nonneg k, Int.ofNat_lt.2 h9⟩
  · have h9 : k < (outP (m.parts.getD q Dat.d0)).length := Int.ofNat_lt.1 h
    have st := st h9
    refine SndI.mk m' q ((outP (m.parts.getD q Dat.d0)).getD k Dat.d0) hS rfl ?_ ?_ fun R2 hR2 => ?_
    · cbv
      repeat' first | (refine Stp.mk ?_; cbv) | (refine Gen.mk fun r hr => ?_; (try simp only [Dat.ok, Dat.dec, Leaf.ok, Leaf.val, Z0, Z1, Z2, Z3, Z4, Z5, Z6, Z7, val_sl, val_nil] at hr); cbv) | exact trivial | rfl | refine Both.mk ?_ ?_ | (refine Imp.mk fun h => ?_; (try dsimp only at h); (try simp only [nc, Int.toNat_natCast, ne_eq, zz] at h); (try simp only [nc] at h)) | refine Ob.mk ?_ ?_ | refine Chk.mk (by kernel_rfl) ?_ | refine Eq'.mk ?_ | (refine AllN.mk fun i hi => ?_; cbv) | (refine AllC.mk fun c hc hcm => ?_; (try dsimp only at hc); cbv) | (refine AllS.mk fun r hr => ?_; (try simp only [Dat.ok, Dat.dec, Leaf.ok, Leaf.val, Z0, Z1, Z2, Z3, Z4, Z5, Z6, Z7, val_sl] at hr); cbv)
      all_goals fail
    · cbv
      repeat' first | (refine Stp.mk ?_; cbv) | (refine Gen.mk fun r hr => ?_; (try simp only [Dat.ok, Dat.dec, Leaf.ok, Leaf.val, Z0, Z1, Z2, Z3, Z4, Z5, Z6, Z7, val_sl, val_nil] at hr); cbv) | exact trivial | rfl | refine Both.mk ?_ ?_ | (refine Imp.mk fun h => ?_; (try dsimp only at h); (try simp only [nc, Int.toNat_natCast, ne_eq, zz] at h); (try simp only [nc] at h)) | refine Ob.mk ?_ ?_ | refine Chk.mk (by kernel_rfl) ?_ | refine Eq'.mk ?_ | (refine AllN.mk fun i hi => ?_; cbv) | (refine AllC.mk fun c hc hcm => ?_; (try dsimp only at hc); cbv) | (refine AllS.mk fun r hr => ?_; (try simp only [Dat.ok, Dat.dec, Leaf.ok, Leaf.val, Z0, Z1, Z2, Z3, Z4, Z5, Z6, Z7, val_sl] at hr); cbv)
      all_goals fail
    · cbv
      repeat' first | (refine Stp.mk ?_; cbv) | (refine Gen.mk fun r hr => ?_; (try simp only [Dat.ok, Dat.dec, Leaf.ok, Leaf.val, Z0, Z1, Z2, Z3, Z4, Z5, Z6, Z7, val_sl, val_nil] at hr); cbv) | exact trivial | rfl | refine Both.mk ?_ ?_ | (refine Imp.mk fun h => ?_; (try dsimp only at h); (try simp only [nc, Int.toNat_natCast, ne_eq, zz] at h); (try simp only [nc] at h)) | refine Ob.mk ?_ ?_ | refine Chk.mk (by kernel_rfl) ?_ | refine Eq'.mk ?_ | (refine AllN.mk fun i hi => ?_; cbv) | (refine AllC.mk fun c hc hcm => ?_; (try dsimp only at hc); cbv) | (refine AllS.mk fun r hr => ?_; (try simp only [Dat.ok, Dat.dec, Leaf.ok, Leaf.val, Z0, Z1, Z2, Z3, Z4, Z5, Z6, Z7, val_sl] at hr); cbv)
      all_goals first
        | (show InR ((k : Int) + 1); unfold InR; omega)
        | (have sk2 := sk
           rw [hR2] at sk2 st
           refine ⟨⟨k + 1, R2, by omega, sk2.1, Int.le_trans sk2.2 hx9, he.trans st⟩, ?_, ?_, rfl, by (try dsimp only); omega⟩
           · cbv
             repeat' first | (refine Stp.mk ?_; cbv) | (refine Gen.mk fun r hr => ?_; (try simp only [Dat.ok, Dat.dec, Leaf.ok, Leaf.val, Z0, Z1, Z2, Z3, Z4, Z5, Z6, Z7, val_sl, val_nil] at hr); cbv) | exact trivial | rfl | refine Both.mk ?_ ?_ | (refine Imp.mk fun h => ?_; (try dsimp only at h); (try simp only [nc, Int.toNat_natCast, ne_eq, zz] at h); (try simp only [nc] at h)) | refine Ob.mk ?_ ?_ | refine Chk.mk (by kernel_rfl) ?_ | refine Eq'.mk ?_ | (refine AllN.mk fun i hi => ?_; cbv) | (refine AllC.mk fun c hc hcm => ?_; (try dsimp only at hc); cbv) | (refine AllS.mk fun r hr => ?_; (try simp only [Dat.ok, Dat.dec, Leaf.ok, Leaf.val, Z0, Z1, Z2, Z3, Z4, Z5, Z6, Z7, val_sl] at hr); cbv)
           · cbv
             repeat' first | (refine Stp.mk ?_; cbv) | (refine Gen.mk fun r hr => ?_; (try simp only [Dat.ok, Dat.dec, Leaf.ok, Leaf.val, Z0, Z1, Z2, Z3, Z4, Z5, Z6, Z7, val_sl, val_nil] at hr); cbv) | exact trivial | rfl | refine Both.mk ?_ ?_ | (refine Imp.mk fun h => ?_; (try dsimp only at h); (try simp only [nc, Int.toNat_natCast, ne_eq, zz] at h); (try simp only [nc] at h)) | refine Ob.mk ?_ ?_ | refine Chk.mk (by kernel_rfl) ?_ | refine Eq'.mk ?_ | (refine AllN.mk fun i hi => ?_; cbv) | (refine AllC.mk fun c hc hcm => ?_; (try dsimp only at hc); cbv) | (refine AllS.mk fun r hr => ?_; (try simp only [Dat.ok, Dat.dec, Leaf.ok, Leaf.val, Z0, Z1, Z2, Z3, Z4, Z5, Z6, Z7, val_sl] at hr); cbv)
             all_goals fail)
        | fail
  · have h9 : (outP (m.parts.getD q Dat.d0)).length ≤ k := Int.ofNat_le.1 h
    have eR : R = (m', 0) := by rw [← hR, eT, he, List.drop_eq_nil_of_le h9, sendsV]
    subst eR
    subst hK
    cbv
    repeat' first | (refine Stp.mk ?_; cbv) | (refine Gen.mk fun r hr => ?_; (try simp only [Dat.ok, Dat.dec, Leaf.ok, Leaf.val, Z0, Z1, Z2, Z3, Z4, Z5, Z6, Z7, val_sl, val_nil] at hr); cbv) | exact trivial | rfl | refine Both.mk ?_ ?_ | (refine Imp.mk fun h => ?_; (try dsimp only at h); (try simp only [nc, Int.toNat_natCast, ne_eq, zz] at h); (try simp only [nc] at h)) | refine Ob.mk ?_ ?_ | refine Chk.mk (by kernel_rfl) ?_ | refine Eq'.mk ?_ | (refine AllN.mk fun i hi => ?_; cbv) | (refine AllC.mk fun c hc hcm => ?_; (try dsimp only at hc); cbv) | (refine AllS.mk fun r hr => ?_; (try simp only [Dat.ok, Dat.dec, Leaf.ok, Leaf.val, Z0, Z1, Z2, Z3, Z4, Z5, Z6, Z7, val_sl] at hr); cbv)
    all_goals fail

end Go.Proofs.Ytbnpacdkllmblaa
