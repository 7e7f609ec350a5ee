/- A message read. -/
import Derived.Test.YtjgobknjnjdphaaWire2
set_option linter.all false
namespace Go.Proofs.Ytjgobknjnjdphaa
open Go Go.Abs

def msg0 : Msg := ⟨0, 0, 0, 0, .empty⟩
def msgV (s : ByteArray) : Msg := ⟨byteAt s 2, byteAt s 3, numR (s.extract 4 s.size) 4, numR (s.extract 8 s.size) 4, s.extract 12 (s.size - 4)⟩
def readV (s : ByteArray) : Msg × Int :=
  if (longV s).2 = false then (msg0, 3)
  else if ¬ (longV s).1 = s.size ∨ (longV s).1 < 16 then (msg0, 4)
  else if ¬ s.extract (s.size - 4) s.size = sealV (s.extract 0 (s.size - 4)) then (msg0, 5)
  else if ¬ checkM (msgV s) = 0 then (msg0, checkM (msgV s))
  else (msgV s, 0)
theorem read_a {s : ByteArray} (h : (longV s).2 = false) : readV s = (msg0, 3) := by rw [readV, if_pos h]
theorem read_b {s : ByteArray} (h : (longV s).2 = true) (h1 : ¬ (longV s).1 = s.size ∨ (longV s).1 < 16) : readV s = (msg0, 4) := by rw [readV, if_neg (by rw [h]; decide), if_pos h1]
theorem read_c {s : ByteArray} (h : (longV s).2 = true) (h1 : (longV s).1 = s.size) (h2 : 16 ≤ (longV s).1) (h3 : ¬ s.extract (s.size - 4) s.size = sealV (s.extract 0 (s.size - 4))) : readV s = (msg0, 5) := by
  rw [readV, if_neg (by rw [h]; decide), if_neg (by omega), if_pos h3]
theorem read_d {s : ByteArray} (h : (longV s).2 = true) (h1 : (longV s).1 = s.size) (h2 : 16 ≤ (longV s).1) (h3 : s.extract (s.size - 4) s.size = sealV (s.extract 0 (s.size - 4))) (h4 : ¬ checkM (msgV s) = 0) : readV s = (msg0, checkM (msgV s)) := by
  rw [readV, if_neg (by rw [h]; decide), if_neg (by omega), if_neg (by simp [h3]), if_pos h4]
theorem read_e {s : ByteArray} (h : (longV s).2 = true) (h1 : (longV s).1 = s.size) (h2 : 16 ≤ (longV s).1) (h3 : s.extract (s.size - 4) s.size = sealV (s.extract 0 (s.size - 4))) (h4 : checkM (msgV s) = 0) : readV s = (msgV s, 0) := by
  rw [readV, if_neg (by rw [h]; decide), if_neg (by omega), if_neg (by simp [h3]), if_neg (by simp [h4])]
theorem extract_size (s : ByteArray) (i j : Nat) : (s.extract i j).size = min j s.size - i := ByteArray.size_extract
def wread_R (r : Th (Msg × Int)) : AV := .tup [.agg [.i .i64 fun _ => (r ()).1.kind, .i .i64 fun _ => (r ()).1.frm, .i .i64 fun _ => (r ()).1.epoch, .i .i64 fun _ => (r ()).1.num, .s fun _ => (r ()).1.data], .i .i64 fun _ => (r ()).2]
def wread_P (s : ByteArray) : Prop := s.size ≤ 1099511627776
def wread_D : Det := fun A => match A with
  | [.s s] => some (fun _ => wread_P (s ()), wread_R fun _ => readV (s ()))
  | _ => none
noncomputable def cWR : FuncId → Con := fun f => match f with
  | 34 => pureCon (detPC wlong_D)
  | 33 => pureCon (detPC wseal_D)
  | 35 => pureCon (detPC wnum_D)
  | 31 => pureCon (detPC wcheck_D)
  | _ => fun _ _ _ => Bad 1001
theorem cWR_ok : ConOk Try.prog cWR := fun f A H K h => by
  unfold cWR at h
  split at h
  · exact ⟨⟨Try.f34, Try.func34, by kernel_rfl, by kernel_rfl⟩, pureCon_ok wlong_ok h⟩
  · exact ⟨⟨Try.f33, Try.func33, by kernel_rfl, by kernel_rfl⟩, pureCon_ok wseal_ok h⟩
  · exact ⟨⟨Try.f35, Try.func35, by kernel_rfl, by kernel_rfl⟩, pureCon_ok wnum_ok h⟩
  · exact ⟨⟨Try.f31, Try.func31, by kernel_rfl, by kernel_rfl⟩, pureCon_ok wcheck_ok h⟩
  · cases h
def dWR : FuncId → Option Dt := fun f => match f with
  | 34 => some (.c wlong_D)
  | 33 => some (.c wseal_D)
  | 35 => some (.c wnum_D)
  | 31 => some (.c wcheck_D)
  | _ => none
theorem dWR_ok : DetOk Try.prog dWR := fun f d h => by
  unfold dWR at h
  split at h
  · cases h; exact ⟨⟨Try.f34, Try.func34, by kernel_rfl, by kernel_rfl⟩, wlong_ok⟩
  · cases h; exact ⟨⟨Try.f33, Try.func33, by kernel_rfl, by kernel_rfl⟩, wseal_ok⟩
  · cases h; exact ⟨⟨Try.f35, Try.func35, by kernel_rfl, by kernel_rfl⟩, wnum_ok⟩
  · cases h; exact ⟨⟨Try.f31, Try.func31, by kernel_rfl, by kernel_rfl⟩, wcheck_ok⟩
  · cases h
set_option maxRecDepth 100000 in
set_option maxHeartbeats 4000000 in
theorem wread_vc (s : ByteArray) (hp : wread_P s) : FnOk Try.prog 13 [.s fun _ => s] [] (outA (wread_R fun _ => readV s) []) := by
  refine fn_ok envOk zl cWR_ok (draws_ok envOk zl dWR_ok mixed) (keep := [0, 2, 3, 4, 5, 6, 7, 13, 17, 27, 59]) Try.func13 rfl ?_
  have hp' : s.size ≤ 1099511627776 := hp
  cbv
  repeat' first | (show Stp _; exfalso; first | omega | (exact h ‹_›) | (exact absurd ‹_› h) | (exact Bool.false_ne_true (h.symm.trans (show _ = true by assumption)))) | (refine Stp.mk ?_; cbv) | (refine Gen.mk fun r hr => ?_; (try simp only [Dat.ok, Dat.dec, Leaf.ok, Leaf.val, Ins.eta, Vm.eta, Emit.eta, Msg.eta, val_sl, val_nil] at hr); cbv) | exact trivial | rfl | refine Both.mk ?_ ?_ | (refine Imp.mk fun h => ?_; (try dsimp only at h); (try simp only [nc, Int.toNat_natCast, Bool.not_eq_true', Bool.not_eq_false', decide_eq_true_eq, decide_eq_false_iff_not, beq_iff_eq, beq_eq_false_iff_ne, ba_inj, bne_iff_ne, ne_eq, Bool.and_eq_true, Bool.or_eq_true, Bool.and_eq_false_iff, Bool.or_eq_false_iff, Int.not_le, Int.not_lt, Nat.not_le, Nat.not_lt] at h); (try simp only [nc] at h)) | refine Ob.mk ?_ ?_ | refine Chk.mk (by kernel_rfl) ?_ | refine Eq'.mk ?_ | (refine AllN.mk fun i hi => ?_; cbv) | (refine AllC.mk fun c hc hcm => ?_; (try dsimp only at hc); cbv) | (refine AllS.mk fun r hr => ?_; (try simp only [Dat.ok, Dat.dec, Leaf.ok, Leaf.val, Ins.eta, Vm.eta, Emit.eta, Msg.eta, val_sl] at hr); cbv)
  all_goals ((try dsimp only at *); (try simp only [nc, Int.toNat_natCast, Bool.not_eq_true', Bool.not_eq_false', decide_eq_true_eq, decide_eq_false_iff_not, beq_iff_eq, beq_eq_false_iff_ne, ba_inj, bne_iff_ne, ne_eq, Bool.and_eq_true, Bool.or_eq_true, Bool.and_eq_false_iff, Bool.or_eq_false_iff, Int.not_le, Int.not_lt, Nat.not_le, Nat.not_lt] at *); (try simp only [nc] at *))
  all_goals try have e1 : (longV s).1 = s.size := by assumption
  all_goals try have e3 : ((longV s).1 - 4).toNat = s.size - 4 := by omega
  all_goals first
    | (rw [read_a (by assumption)]; done)
    | (rw [read_a (by assumption)]; rfl)
    | (rw [read_b (by assumption) (by omega)]; done)
    | (rw [read_b (by assumption) (by omega)]; rfl)
    | exact hp'
    | omega
    | (unfold InR; omega)
    | skip
  all_goals simp only [e3] at *
  all_goals first
    | (rw [read_c (by assumption) (by assumption) (by assumption) (by assumption)]; done)
    | (rw [read_c (by assumption) (by assumption) (by assumption) (by assumption)]; rfl)
    | (show (ByteArray.extract _ _ _).size ≤ 1099511627776; rw [extract_size]; omega)
    | exact (show _ ∧ _ ∧ _ by rw [extract_size]; exact ⟨by decide, by omega, by decide⟩)
    | exact ⟨rfl, trivial⟩
    | skip
  all_goals try (
    have e5 : msgV s = Dat.dec [.i .i64 fun _ => IntKind.i64.wrap (byteAt s 2), .i .i64 fun _ => IntKind.i64.wrap (byteAt s 3), .i .i64 fun _ => wnum_S (s.extract (Int.toNat 4) s.size) 4, .i .i64 fun _ => wnum_S (s.extract (Int.toNat 8) s.size) 4, .s fun _ => s.extract (Int.toNat 12) (s.size - 4)] := by
      show msgV s = ⟨IntKind.i64.wrap (byteAt s 2), IntKind.i64.wrap (byteAt s 3), wnum_S (s.extract (Int.toNat 4) s.size) 4, wnum_S (s.extract (Int.toNat 8) s.size) 4, s.extract (Int.toNat 12) (s.size - 4)⟩
      rw [wrap_byte64, wrap_byte64]; rfl
    first
      | (have h4 : checkM (msgV s) = 0 := by rw [e5]; assumption
         have h5 := read_e (by assumption) (by assumption) (by assumption) (by assumption) h4
         first
           | (rw [h5]; done)
           | (rw [h5]; rfl)
           | (rw [h5, wrap_byte64]; done)
           | (rw [h5, wrap_byte64]; rfl))
      | (have h4 : ¬ checkM (msgV s) = 0 := by rw [e5]; assumption
         have h5 := read_d (by assumption) (by assumption) (by assumption) (by assumption) h4
         first
           | (rw [h5]; done)
           | (rw [h5]; rfl)
           | (rw [h5, ← e5]; done)
           | (rw [h5, ← e5]; rfl))
      | exact ⟨trivial, trivial, trivial, trivial, trivial⟩)
theorem wread_ok : PcOk Try.prog 13 (detPC wread_D) := det_okA fun A p r h hp0 => by
  unfold wread_D at h
  split at h
  · rename_i s
    cases h
    have hp := hp0
    exact ⟨rfl, FnOk.pre (A' := [.s fun _ => s ()]) (wread_vc (s ()) hp) (.mk (.mk rfl) (trivial))⟩
  · cases h

end Go.Proofs.Ytjgobknjnjdphaa
