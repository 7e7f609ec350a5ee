/- Parts, plain: the windows of those that do not feed a part. -/
import Derived.Test.YtbnpacdkllmblaaApartP
set_option linter.all false
namespace Go.Proofs.Ytbnpacdkllmblaa
open Go Go.Abs

def dropB (F : List Bool) (w : Window) : Bool := decide (w.owner < F.length) && !F.getD w.owner.toNat Dat.d0
def keepW (F : List Bool) : List Window → List Window
  | [] => []
  | w :: r => if dropB F w = true then keepW F r else w :: keepW F r
theorem keepW_eq {F : List Bool} : ∀ {l : List Window}, keepW F l = l.filter fun w => !dropB F w
  | [] => rfl
  | w :: r => by
    rw [keepW, List.filter_cons, keepW_eq (l := r)]
    cases dropB F w <;> rfl
theorem keepW_sub {F : List Bool} : ∀ {l : List Window}, (∀ w ∈ keepW F l, w ∈ l) ∧ (keepW F l).length ≤ l.length
  | [] => ⟨fun w h => h, Nat.le_refl _⟩
  | w :: r => by
    obtain ⟨a, b⟩ := keepW_sub (F := F) (l := r)
    rw [keepW]
    split
    · exact ⟨fun v hv => List.mem_cons_of_mem _ (a v hv), by rw [List.length_cons]; omega⟩
    · refine ⟨fun v hv => ?_, by simp; omega⟩
      rcases List.mem_cons.1 hv with rfl | hv
      · exact List.mem_cons_self
      · exact List.mem_cons_of_mem _ (a v hv)
theorem okW_le {f : Int} : ∀ {l : List Window} {e e' : Int}, e' ≤ e → okW f e l = true → okW f e' l = true
  | [], _, _, _, _ => rfl
  | w :: r, e, e', h, q => by
    rw [okW, Bool.and_eq_true] at q ⊢
    have := tinB_iff.1 q.1
    exact ⟨tinB_iff.2 (by omega), q.2⟩
theorem okW_keep {f : Int} {F : List Bool} : ∀ {l : List Window} {e : Int}, okW f e l = true → okW f e (keepW F l) = true
  | [], _, _ => rfl
  | w :: r, e, q => by
    rw [okW, Bool.and_eq_true] at q
    have h := tinB_iff.1 q.1
    rw [keepW]
    split
    · exact okW_le (by omega) (okW_keep q.2)
    · rw [okW, Bool.and_eq_true]; exact ⟨q.1, okW_keep q.2⟩
theorem at_early {f x : Int} : ∀ {l : List Window} {e : Int}, okW f e l = true → x < e → (atW f x l).1 = -1
  | [], _, _, _ => rfl
  | w :: r, e, q, h => by
    rw [okW, Bool.and_eq_true] at q
    have := tinB_iff.1 q.1
    rw [atW, if_pos (by omega)]
theorem at_keep {f x : Int} {F : List Bool} : ∀ {l : List Window} {e : Int}, okW f e l = true → (atW f x (keepW F l)).1 = (atW f x l).1 ∨ ((atW f x (keepW F l)).1 = -1 ∧ F.getD (atW f x l).1.toNat Dat.d0 = false)
  | [], _, _ => .inl rfl
  | w :: r, e, q => by
    rw [okW, Bool.and_eq_true] at q
    have h := tinB_iff.1 q.1
    have ih := at_keep (x := x) (F := F) q.2
    have ok2 := okW_keep (F := F) q.2
    rw [keepW]
    split
    · rename_i hd
      rw [dropB, Bool.and_eq_true] at hd
      have hF : F.getD w.owner.toNat Dat.d0 = false := by simpa using hd.2
      rw [atW]
      by_cases h1 : x < w.frm
      · rw [if_pos h1]; exact .inl (at_early ok2 (by omega))
      · rw [if_neg h1]
        by_cases h2 : x < w.frm + w.long
        · rw [if_pos h2]; exact .inr ⟨at_early ok2 h2, hF⟩
        · rw [if_neg h2]; exact ih
    · rw [atW, atW]
      by_cases h1 : x < w.frm
      · rw [if_pos h1, if_pos h1]; exact .inl rfl
      · rw [if_neg h1, if_neg h1]
        by_cases h2 : x < w.frm + w.long
        · rw [if_pos h2, if_pos h2]; exact .inl rfl
        · rw [if_neg h2, if_neg h2]; exact ih
theorem own_keep {t : Table} {F : List Bool} {n : Nat} (h : wchkV t = 0) : wchkV ⟨t.frame, keepW F t.windows⟩ = 0 ∧ OwnR F n t ⟨t.frame, keepW F t.windows⟩ := by
  have R := wchk_iff.1 h
  have h2 : wchkV ⟨t.frame, keepW F t.windows⟩ = 0 := wchk_iff.2 ⟨R.s1, R.s2, Nat.le_trans keepW_sub.2 R.len, okW_keep R.ok⟩
  refine ⟨h2, fun x h3 h4 => ?_⟩
  unfold ownerV
  rw [if_pos h, if_pos h2, if_neg (by omega), if_neg (by omega)]
  exact at_keep R.ok
theorem time_ok {m : Module} (M : MOk m) {F : List Bool} : mchkV ⟨⟨m.table.frame, keepW F m.table.windows⟩, m.parts, m.wires, m.now, m.lost⟩ = 0 :=
  mchk_iff.2 ⟨(own_keep (n := 0) M.t).1, M.lp, M.lw, M.p, M.w, M.now, M.lost⟩
theorem time_run {m : Module} {i n : Int} (hF : (feedsV m i).2 = 0) (ha : (runPV m n).2 = 0) :
    (¬ (runPV ⟨⟨m.table.frame, keepW (feedsV m i).1 m.table.windows⟩, m.parts, m.wires, m.now, m.lost⟩ n).2 = 0 → (runPV ⟨⟨m.table.frame, keepW (feedsV m i).1 m.table.windows⟩, m.parts, m.wires, m.now, m.lost⟩ n).2 = 6) ∧
    ((runPV ⟨⟨m.table.frame, keepW (feedsV m i).1 m.table.windows⟩, m.parts, m.wires, m.now, m.lost⟩ n).2 = 0 → Sim (feedsV m i).1 (runPV m n).1 (runPV ⟨⟨m.table.frame, keepW (feedsV m i).1 m.table.windows⟩, m.parts, m.wires, m.now, m.lost⟩ n).1) := by
  obtain ⟨M, _, _, FC, _⟩ := feeds_ok hF
  refine ⟨fun h => (run_bad ha h).resolve_left fun q => q (time_ok M), fun h => ?_⟩
  exact run_sim (a := m) ⟨rfl, rfl, rfl, fun _ _ => rfl⟩ FC (own_keep M.t).2 ha h

end Go.Proofs.Ytbnpacdkllmblaa
