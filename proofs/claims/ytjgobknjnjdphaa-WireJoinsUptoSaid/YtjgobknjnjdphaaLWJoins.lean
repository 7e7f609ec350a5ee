/- Of two texts the sum is told by that of the first one, and the second one. -/
import Derived.Test.YtjgobknjnjdphaaWireL
set_option linter.all false
namespace Go.Proofs.Ytjgobknjnjdphaa
open Go Go.Abs

theorem sumR_app (f : Nat → Int) : ∀ (n m k : Nat) (x : Int), sumR f (n + m) k x = sumR f m (k + n) (sumR f n k x)
  | 0, m, k, x => by rw [Nat.zero_add]; rfl
  | n + 1, m, k, x => by
    rw [show n + 1 + m = (n + m) + 1 by omega, sumR, sumR, sumR_app f n m (k + 1), show k + 1 + n = k + (n + 1) by omega]
theorem sumR_congr {f g : Nat → Int} : ∀ (n k l : Nat) (x : Int), (∀ i, i < n → f (k + i) = g (l + i)) → sumR f n k x = sumR g n l x
  | 0, _, _, _, _ => rfl
  | n + 1, k, l, x, h => by
    have h0 := h 0 (by omega)
    simp only [Nat.add_zero] at h0
    rw [sumR, sumR, h0]
    exact sumR_congr n (k + 1) (l + 1) _ fun i hi => by
      have := h (i + 1) (by omega)
      rwa [show k + 1 + i = k + (i + 1) by omega, show l + 1 + i = l + (i + 1) by omega]
theorem byteAt_app1 (a c : ByteArray) (i : Nat) (h : i < a.size) : byteAt (a ++ c) (i : Nat) = byteAt a (i : Nat) := by
  have h1 : i < a.data.size := h
  simp only [byteAt, ByteArray.data_append, Int.toNat_natCast, Array.getD_eq_getD_getElem?, Array.getElem?_append, if_pos h1]
theorem byteAt_app2 (a c : ByteArray) (i : Nat) : byteAt (a ++ c) ((a.size + i : Nat) : Int) = byteAt c (i : Nat) := by
  simp only [byteAt, ByteArray.data_append, Int.toNat_natCast]
  have : a.size = a.data.size := rfl
  rw [this]
  simp only [Array.getD_eq_getD_getElem?, Array.getElem?_append]
  rw [if_neg (by omega), Nat.add_sub_cancel_left]
theorem sum_app (a c : ByteArray) (x : Int) : sumR (fun k => byteAt (a ++ c) k) (a ++ c).size 0 x = sumR (fun k => byteAt c k) c.size 0 (sumR (fun k => byteAt a k) a.size 0 x) := by
  rw [ByteArray.size_append, sumR_app]
  rw [sumR_congr (f := fun k => byteAt (a ++ c) k) (g := fun k => byteAt a k) a.size 0 0 x fun i hi => by rw [Nat.zero_add]; exact byteAt_app1 a c i hi]
  exact sumR_congr _ _ _ _ fun i hi => by rw [Nat.zero_add, Nat.zero_add]; exact byteAt_app2 a c i
theorem bXor_bv (a b : Int) : bXor .u32 a b = ((BitVec.ofInt 32 a ^^^ BitVec.ofInt 32 b).toNat : Int) := by
  have h := (BitVec.ofInt 32 a ^^^ BitVec.ofInt 32 b).isLt
  show IntKind.u32.wrap ((BitVec.ofInt 32 a ^^^ BitVec.ofInt 32 b).toNat : Int) = _
  rw [wrap_u32 (by omega) (by omega)]
theorem bXor_rng (a b : Int) : 0 ≤ bXor .u32 a b ∧ bXor .u32 a b < 4294967296 := by
  have h := (BitVec.ofInt 32 a ^^^ BitVec.ofInt 32 b).isLt
  rw [bXor_bv]; omega
theorem ofInt_inj {y z : Int} (h0 : 0 ≤ y) (h1 : y < 4294967296) (h2 : 0 ≤ z) (h3 : z < 4294967296) (h : BitVec.ofInt 32 y = BitVec.ofInt 32 z) : y = z := by
  have h4 := congrArg BitVec.toNat h
  rw [BitVec.toNat_ofInt, BitVec.toNat_ofInt] at h4
  omega
theorem bXor_inj {c y z : Int} (h0 : 0 ≤ y) (h1 : y < 4294967296) (h2 : 0 ≤ z) (h3 : z < 4294967296) (h : bXor .u32 c y = bXor .u32 c z) : y = z := by
  rw [bXor_bv, bXor_bv] at h
  refine ofInt_inj h0 h1 h2 h3 ?_
  have h4 : (BitVec.ofInt 32 c ^^^ BitVec.ofInt 32 y) = (BitVec.ofInt 32 c ^^^ BitVec.ofInt 32 z) := BitVec.eq_of_toNat_eq (by omega)
  simpa using h4
theorem bitN_rng : ∀ (n : Nat) (x : Int), 0 ≤ x ∧ x < 4294967296 → 0 ≤ bitN n x ∧ bitN n x < 4294967296
  | 0, _, h => h
  | n + 1, x, _ => bitN_rng n _ (bXor_rng _ _)
theorem sumR_rng (f : Nat → Int) : ∀ (n k : Nat) (x : Int), 0 ≤ x ∧ x < 4294967296 → 0 ≤ sumR f n k x ∧ sumR f n k x < 4294967296
  | 0, _, _, h => h
  | n + 1, k, x, _ => sumR_rng f n _ _ (bitN_rng 8 _ (bXor_rng _ _))
theorem sum_joins {a b : ByteArray} (c : ByteArray) (h : wsumK a = wsumK b) : wsumK (a ++ c) = wsumK (b ++ c) := by
  have r := fun s : ByteArray => sumR_rng (fun k => byteAt s k) s.size 0 4294967295 (by decide)
  have e : sumR (fun k => byteAt a k) a.size 0 4294967295 = sumR (fun k => byteAt b k) b.size 0 4294967295 := bXor_inj (c := 4294967295) (r a).1 (r a).2 (r b).1 (r b).2 (by unfold wsumK sumV at h; exact h)
  unfold wsumK sumV
  rw [sum_app, sum_app, e]
noncomputable def cWJ : FuncId → Con := fun f => match f with
  | 15 => pureCon (detPC wsum_D)
  | 14 => pureCon (detPC wlives_D)
  | _ => fun _ _ _ => Bad 1001
theorem cWJ_ok : ConOk Try.prog cWJ := fun f A H K h => by
  unfold cWJ at h
  split at h
  · exact ⟨⟨Try.f15, Try.func15, by kernel_rfl, by kernel_rfl⟩, pureCon_ok wsum_ok h⟩
  · exact ⟨⟨Try.f14, Try.func14, by kernel_rfl, by kernel_rfl⟩, pureCon_ok wlives_ok h⟩
  · cases h
def dWJ : FuncId → Option Dt := fun f => match f with
  | 15 => some (.c wsum_D)
  | _ => none
theorem dWJ_ok : DetOk Try.prog dWJ := fun f d h => by
  unfold dWJ at h
  split at h
  · cases h; exact ⟨⟨Try.f15, Try.func15, by kernel_rfl, by kernel_rfl⟩, wsum_ok⟩
  · cases h
set_option maxRecDepth 100000 in
set_option maxHeartbeats 4000000 in
theorem wjoins_vc (a : ByteArray) (b : ByteArray) (c : ByteArray) (fit_a : Siz.fit a) (fit_b : Siz.fit b) (fit_c : Siz.fit c) (hB : Siz.bulk a + Siz.bulk b + Siz.bulk c ≤ 1048576) : FnOk Try.prog 5 [.s fun _ => a, .s fun _ => b, .s fun _ => c] [] (outA (.bc true) []) := by
  refine fn_ok envOk zl cWJ_ok (draws_ok envOk zl dWJ_ok mixed) (keep := [0, 1, 2, 6, 15]) Try.func5 rfl ?_
  have fin := @fin_b
  have finc := @fin_t
  generalize outA (.bc true) [] = K at fin finc
  cbv
  repeat' first | (show Stp _; exfalso; first | omega | (exact h ‹_›) | (exact absurd ‹_› h) | (exact Bool.false_ne_true (h.symm.trans (show _ = true by assumption)))) | (refine Stp.mk ?_; cbv) | (refine Gen.mk fun r hr => ?_; (try simp only [Dat.ok, Dat.dec, Leaf.ok, Leaf.val, Ins.eta, Vm.eta, Emit.eta, Msg.eta, val_sl, val_nil] at hr); cbv) | exact trivial | rfl | refine Both.mk ?_ ?_ | (refine Imp.mk fun h => ?_; (try dsimp only at h); (try simp only [nc, Int.toNat_natCast, Bool.not_eq_true', Bool.not_eq_false', decide_eq_true_eq, decide_eq_false_iff_not, beq_iff_eq, beq_eq_false_iff_ne, ba_inj, bne_iff_ne, ne_eq, Bool.and_eq_true, Bool.or_eq_true, Bool.and_eq_false_iff, Bool.or_eq_false_iff, Int.not_le, Int.not_lt, Nat.not_le, Nat.not_lt] at h); (try simp only [nc] at h)) | refine Ob.mk ?_ ?_ | refine Chk.mk (by kernel_rfl) ?_ | refine Eq'.mk ?_ | (refine AllN.mk fun i hi => ?_; cbv) | (refine AllS.mk fun r hr => ?_; (try simp only [Dat.ok, Dat.dec, Leaf.ok, Leaf.val, Ins.eta, Vm.eta, Emit.eta, Msg.eta, val_sl] at hr); cbv)
  all_goals ((try dsimp only at *); (try simp only [nc, Int.toNat_natCast, Bool.not_eq_true', Bool.not_eq_false', decide_eq_true_eq, decide_eq_false_iff_not, beq_iff_eq, beq_eq_false_iff_ne, ba_inj, bne_iff_ne, ne_eq, Bool.and_eq_true, Bool.or_eq_true, Bool.and_eq_false_iff, Bool.or_eq_false_iff, Int.not_le, Int.not_lt, Nat.not_le, Nat.not_lt] at *); (try simp only [nc] at *))
  all_goals simp only [Siz.bulk] at hB
  all_goals first
    | exact finc
    | omega
    | (show ByteArray.size _ ≤ 1099511627776; omega)
    | (show ByteArray.size _ ≤ 1099511627776; rw [ByteArray.size_append]; omega)
    | exact fin (by rw [sum_joins c (by assumption)]; simp)
    | fail
section
open Go.ChangeShapes Go.WideShapes Go.ChangeAt Go.RowKit Go.Joins Go.Deep
set_option linter.unusedVariables false
theorem wjoins_own : ownKnob Try.prog.godebug = none := by kernel_rfl
theorem wjoins_laidOut : laidOutB Try.prog = true := by kernel_rfl
theorem wjoins_readOk {ts : Array TypeId} (h : ts.toList.all (fun t => Try.prog.readableRec t && decide (t < Try.prog.types.size)) = true) : ∀ t ∈ ts.toList, Try.prog.readableRec t = true ∧ t < Try.prog.types.size := fun t ht => by
  have := List.all_eq_true.1 h t ht
  simpa using this
mutual
theorem wjoins_bD {H : Type} : ∀ d : DataW H, Rows.uptoBulk d = bulkD d
  | .lit l => by cases l <;> simp [Rows.uptoBulk, bulkD]
  | .nil => by simp [Rows.uptoBulk, bulkD]
  | .ptr d => by simp [Rows.uptoBulk, bulkD, wjoins_bD d]
  | .slice a b => by simp [Rows.uptoBulk, bulkD, wjoins_bL a, wjoins_bL b]
  | .agg a => by simp [Rows.uptoBulk, bulkD, wjoins_bL a]
  | .iface _ d => by simp [Rows.uptoBulk, bulkD, wjoins_bD d]
  | .map e => by simp [Rows.uptoBulk, bulkD, wjoins_bE e]
  | .held _ => by simp [Rows.uptoBulk, bulkD]
theorem wjoins_bL {H : Type} : ∀ d : List (DataW H), Rows.uptoBulkAll d = bulkL d
  | [] => by simp [Rows.uptoBulkAll, bulkL]
  | d :: r => by simp [Rows.uptoBulkAll, bulkL, wjoins_bD d, wjoins_bL r]
theorem wjoins_bE {H : Type} : ∀ d : List (Lit × DataW H), Rows.uptoBulkEntries d = bulkE d
  | [] => by simp [Rows.uptoBulkEntries, bulkE]
  | d :: r => by simp [Rows.uptoBulkEntries, bulkE, wjoins_bX d, wjoins_bE r]
theorem wjoins_bX {H : Type} : ∀ d : Lit × DataW H, Rows.uptoBulkEntry d = bulkX d
  | (l, d) => by cases l <;> simp [Rows.uptoBulkEntry, bulkX, wjoins_bD d]
end
set_option maxRecDepth 100000 in
theorem wjoins_lifted (os : Os) (started : os.Started) (H : Type) (enc : TypeId × Value → H) (F : Stop.Interp) :
    ReturnsInHanded {} Try.checked os 5 .any ((Rows.OpenSpec.upto Rows.wireJoinsSpec).pre6 enc Try.prog Try.f5 Rows.wireJoinsUptoRow.domain false) (((Rows.OpenSpec.upto Rows.wireJoinsSpec).at F).post enc Try.prog Try.f5 false true false false) := by
  refine returnsInHanded_of_cond (C := Try.checked) (s := Rows.OpenSpec.upto Rows.wireJoinsSpec) (k := Rows.uptoSmall) rfl wjoins_own started (by kernel_rfl) Try.func5
    (OpenSpec.witness (enc := enc) (C := Try.checked) (s := Rows.OpenSpec.upto Rows.wireJoinsSpec) (k := Rows.uptoSmall) rfl false ⟨#[], #[.string .empty, .string .empty, .string .empty], []⟩ 8 (by kernel_rfl) (by kernel_rfl) (by kernel_rfl)
      (x := ([.lit (.string []), .lit (.string []), .lit (.string [])], [], [])) (by kernel_rfl) rfl (by kernel_rfl)) ?_
  intro W base args ds gs before hval0 hW _ hk _
  show Calls Try.prog 5 args W fun e W' => ∃ v, e = .returned v ∧ Rows.wireJoinsSpec.post enc Try.prog Try.f5 false true false false W args v W'
  have hval : ∀ (j : Nat) t v, Try.f5.params[j]? = some t → args[j]? = some v → Value.okWide Try.prog W .any base t v := hval0
  have hW' := hW
  have hlt := hW.lt
  obtain ⟨p, q, hA0, hV, rfl, hfz, hnd⟩ := hW
  have hA : DataW.TrodAll enc Try.prog W 0 (fun _ => true) true Try.f5.params.toList args.toList ds p := hA0
  have hA1 := hA
  rw [Try.params5] at hA hval
  obtain ⟨v0, vs0, d0, ds0, p0, q0, hargs, rfl, rfl, h0, r0⟩ := trodAll_cons hA
  obtain ⟨v1, vs1, d1, ds1, p1, q1, rfl, rfl, rfl, h1, r1⟩ := trodAll_cons r0
  obtain ⟨v2, vs2, d2, ds2, p2, q2, rfl, rfl, rfl, h2, r2⟩ := trodAll_cons r1
  obtain ⟨rfl, rfl, rfl⟩ := trodAll_nil r2
  obtain rfl : args = #[v0, v1, v2] := by cases args; simp_all
  obtain ⟨rfl, rfl⟩ := trodVars_none hV
  obtain ⟨z0, rfl⟩ := okWide_string Try.underlying9 (hval 0 9 v0 rfl rfl)
  obtain ⟨y0, u0, b0, e0⟩ := arg_leaf (α := ByteArray) (opn_str Try.underlying9) rfl h0
  obtain ⟨z1, rfl⟩ := okWide_string Try.underlying9 (hval 1 9 v1 rfl rfl)
  obtain ⟨y1, u1, b1, e1⟩ := arg_leaf (α := ByteArray) (opn_str Try.underlying9) rfl h1
  obtain ⟨z2, rfl⟩ := okWide_string Try.underlying9 (hval 2 9 v2 rfl rfl)
  obtain ⟨y2, u2, b2, e2⟩ := arg_leaf (α := ByteArray) (opn_str Try.underlying9) rfl h2
  have hB : Siz.bulk y0 + Siz.bulk y1 + Siz.bulk y2 ≤ 1048576 := by
    have h := of_decide_eq_true hk
    rw [wjoins_bL] at h
    simp only [List.append_nil, bulkL] at h
    omega
  have hR := repL_cons (M := fun _ => False) (β := fun _ => none) (cp := fun _ => 0) (.c e0) (repL_cons (M := fun _ => False) (β := fun _ => none) (cp := fun _ => 0) (.c e1) (repL_cons (M := fun _ => False) (β := fun _ => none) (cp := fun _ => 0) (.c e2) (repL_nil)))
  refine (law_callsA (wjoins_vc y0 y1 y2 u0 u1 u2 hB) hR).mono fun e W' ⟨he, bel⟩ => ?_
  subst he
  exact ⟨_, rfl, _, _, _, [], _, [], hW', trodAll_mk1 (shut_bool Try.underlying4 _), trodAll_below wjoins_laidOut bel (wjoins_readOk (by kernel_rfl)) (fun x hx => hlt x (List.mem_append_left _ hx)) hA1, rfl, bel.frame _, fun h => by cases h⟩
theorem WireJoins_proved : Rows.WireJoinsUptoSaid :=
  OpenClaim.holds_of_cond 5 Try.f5 rfl rfl rfl rfl rfl rfl rfl ⟨rfl, rfl, rfl, rfl, rfl⟩ rfl rfl rfl rfl rfl (by kernel_rfl) Try.func5 (by kernel_rfl)
    (of_decide_eq_true (by kernel_rfl)) (by unfold Func.isWrapper; first | (rw [if_pos (by decide +kernel)]; kernel_rfl) | (rw [if_neg (by decide +kernel)]; exact ⟨rfl, rfl⟩))
    (fun os started H enc _ F => wjoins_lifted os started H enc F)
end

end Go.Proofs.Ytjgobknjnjdphaa
