/- What is worked at: plain. -/
import Derived.Test.YtcnfdohlgmipoaaPlayA
import Derived.Test.YtcnfdohlgmipoaaSpanR
set_option linter.all false
namespace Go.Proofs.Ytcnfdohlgmipoaa
open Go Go.Abs

def ofT (i : Int) (q : List job) : List job := q.filter fun z => decide (z.done.task = i)
def ofD (i : Int) (d : List Done) : List Done := d.filter fun z => decide (z.task = i)
def rowI : Nat → Int → List Int
  | 0, _ => []
  | n + 1, k => k :: rowI n (k + 1)
theorem rowI_len : ∀ (n : Nat) (k : Int), (rowI n k).length = n
  | 0, _ => rfl
  | n + 1, k => by rw [rowI, List.length_cons, rowI_len]
theorem rowI_get : ∀ (n : Nat) (k : Int) (j : Nat), j < n → (rowI n k)[j]? = some (k + j)
  | 0, _, j, h => absurd h (Nat.not_lt_zero _)
  | n + 1, k, 0, h => by simp [rowI]
  | n + 1, k, j + 1, h => by
    rw [rowI, List.getElem?_cons_succ, rowI_get n (k + 1) j (by omega)]
    congr 1
    omega
theorem jobsF_row {i : Int} {t : Task} {b : Int} : ∀ {g : Nat} {k a : Int}, ∃ n, (jobsF i t b g k a).map (fun z => z.done.job) = rowI n k
  | 0, k, a => ⟨0, rfl⟩
  | g + 1, k, a => by
    rw [jobsF]
    split
    · obtain ⟨n, h⟩ := jobsF_row (i := i) (t := t) (b := b) (g := g) (k := k + 1) (a := a + t.every)
      exact ⟨n + 1, by rw [List.map_cons, h, rowI]⟩
    · exact ⟨0, rfl⟩
theorem jobsF_srt {i : Int} {t : Task} {b : Int} (he : 1 ≤ t.every) : ∀ {g : Nat} {k a : Int}, SrtJ (jobsF i t b g k a)
  | 0, k, a => List.Pairwise.nil
  | g + 1, k, a => by
    rw [jobsF]
    split
    · refine List.pairwise_cons.2 ⟨fun y hy => ?_, jobsF_srt he⟩
      obtain ⟨_, h2, h3, _⟩ := jobsF_mem y hy
      have : 0 ≤ (y.done.job - (k + 1)) * t.every := Int.mul_nonneg (by omega) (by omega)
      show a ≤ y.done.came
      omega
    · exact List.Pairwise.nil
theorem sortS_of {l : List job} (h : SrtJ l) : sortS l = l := sortS_uniq h fun _ => rfl
theorem ofT_jobsL {b : Int} : ∀ {l : List Task} {first : List Int} {i : Nat} (j : Int), ofT j (jobsL b i l first) = [] ∨ ∃ t n, t ∈ l ∧ ofT j (jobsL b i l first) = jobsN j t b 0 n
  | [], _, i, j => .inl (by simp [jobsL, ofT])
  | t :: l, [], i, j => .inl (by simp [jobsL, ofT])
  | t :: l, n :: r, i, j => by
    rw [jobsL]
    unfold ofT
    rw [List.filter_append]
    by_cases hj : j = i
    · right
      subst hj
      refine ⟨t, n, List.mem_cons_self .., ?_⟩
      have h1 : (jobsN i t b 0 n).filter (fun z => decide (z.done.task = (i : Int))) = jobsN i t b 0 n := List.filter_eq_self.2 fun y hy => by simpa using (jobsF_mem y hy).1
      have h2 : (jobsL b (i + 1) l r).filter (fun z => decide (z.done.task = (i : Int))) = [] := List.filter_eq_nil_iff.2 fun y hy => by
        have := (jobsL_mem hy).1
        simp; omega
      rw [h1, h2, List.append_nil]
    · have h1 : (jobsN i t b 0 n).filter (fun z => decide (z.done.task = j)) = [] := List.filter_eq_nil_iff.2 fun y hy => by
        have := (jobsF_mem y hy).1
        simp; omega
      rw [h1, List.nil_append]
      rcases ofT_jobsL (b := b) (l := l) (first := r) (i := i + 1) j with h | ⟨t', n', h, h'⟩
      · exact .inl h
      · exact .inr ⟨t', n', List.mem_cons_of_mem _ h, h'⟩
theorem ofT_row {b : Int} {l : List Task} {first : List Int} (hl : l.all okT = true) (j : Int) : ∃ n, (ofT j (sortS (jobsL b 0 l first))).map (fun z => z.done.job) = rowI n 0 := by
  have e : ofT j (sortS (jobsL b 0 l first)) = sortS (ofT j (jobsL b 0 l first)) := (sortS_filter _ _).symm
  rw [e]
  rcases ofT_jobsL (b := b) (l := l) (first := first) (i := 0) j with h | ⟨t, n, h, h'⟩
  · rw [h]; exact ⟨0, rfl⟩
  · have hs : SrtJ (jobsN j t b 0 n) := jobsF_srt (okT_iff.1 (List.all_eq_true.1 hl t h)).1
    rw [h', sortS_of hs]
    exact jobsF_row
structure Jb (l : List Task) (first : List Int) (y : job) : Prop where
  t0 : 0 ≤ y.done.task
  t1 : y.done.task < l.length
  n0 : 0 ≤ y.done.job
  came : y.done.came = first.getD y.done.task.toNat Dat.d0 + y.done.job * (l.getD y.done.task.toNat Dat.d0).every
  due : y.due = y.done.came + (l.getD y.done.task.toNat Dat.d0).due
theorem jb_of {b : Int} {l : List Task} {first : List Int} {y : job} (h : y ∈ sortS (jobsL b 0 l first)) : Jb l first y ∧ y.left = (l.getD y.done.task.toNat Dat.d0).long ∧ y.done.came < b := by
  obtain ⟨h1, h2, h3⟩ := jobsL_mem ((sortS_perm _).mem_iff.1 h)
  obtain ⟨h4, h5, h6, h7, h8, h9, _⟩ := jobsF_mem y h3
  have e : y.done.task.toNat - 0 = y.done.task.toNat := rfl
  rw [e] at h6 h7 h8
  rw [Int.sub_zero] at h6
  exact ⟨⟨by omega, by omega, h5, h6, h7⟩, h8, h9⟩
def longD (l : List Task) (d : Done) : Int := (l.getD d.task.toNat Dat.d0).long
def spent (l : List Task) (y : job) : Int := longD l y.done - y.left
def sumD (l : List Task) : List Done → Int
  | [] => 0
  | d :: r => longD l d + sumD l r
def sumQ (l : List Task) : List job → Int
  | [] => 0
  | y :: r => spent l y + sumQ l r
theorem sumD_app (l : List Task) : ∀ (a b : List Done), sumD l (a ++ b) = sumD l a + sumD l b
  | [], b => by simp [sumD]
  | x :: a, b => by rw [List.cons_append, sumD, sumD, sumD_app]; omega
theorem sumQ_ins {l : List Task} {fx : Bool} {x : job} : ∀ {q : List job}, sumQ l (insQ fx x q) = spent l x + sumQ l q
  | [] => rfl
  | y :: r => by
    rw [insQ]
    split
    · rfl
    · rw [sumQ, sumQ, sumQ_ins]; omega
structure Work (fx : Bool) (l : List Task) (first : List Int) (s : Set) (t : Int) (x : QS) : Prop where
  fit : Fit fx x.td x.q
  jtd : ∀ y ∈ x.td, Jb l first y ∧ y.left = longD l y.done
  jq : ∀ y ∈ x.q, Jb l first y ∧ 1 ≤ y.left ∧ y.left ≤ longD l y.done ∧ y.done.came ≤ t ∧ spent l y ≤ uptoV s t - uptoV s y.done.came
  row : ∀ i : Int, ∃ n, (ofD i x.out).map (fun z => z.job) ++ (ofT i x.q).map (fun z => z.done.job) ++ (ofT i x.td).map (fun z => z.done.job) = rowI n 0
  don : ∀ d ∈ x.out, 0 ≤ d.task ∧ d.task < l.length ∧ d.came = first.getD d.task.toNat Dat.d0 + d.job * (l.getD d.task.toNat Dat.d0).every ∧ 0 ≤ d.came ∧ d.came ≤ d.at_ ∧ d.at_ ≤ t ∧ longD l d ≤ uptoV s d.at_ - uptoV s d.came
  inc : x.out.Pairwise fun a b => a.at_ < b.at_
  sum : sumD l x.out + sumQ l x.q + x.idle = uptoV s t
theorem insQ_mem {fx : Bool} {x y : job} {q : List job} (h : y ∈ insQ fx x q) : y = x ∨ y ∈ q := List.mem_cons.1 (insQ_perm.mem_iff.1 h)
theorem insQ_same {fx : Bool} {x : job} {i : Int} (hi : x.done.task = i) : ∀ {q : List job}, q.Pairwise (keyLt fx) → (∀ y ∈ q, y.done.task = i → keyLt fx y x) → ofT i (insQ fx x q) = ofT i q ++ [x]
  | [], _, _ => by simp [insQ, ofT, hi]
  | y :: r, hs, hk => by
    have h2 := List.pairwise_cons.1 hs
    rw [insQ]
    split
    · rename_i hxy
      have hn : ofT i (y :: r) = [] := by
        unfold ofT
        rw [List.filter_eq_nil_iff]
        intro z hz hzi
        have hzi : z.done.task = i := by simpa using hzi
        have h3 := hk z hz hzi
        rcases List.mem_cons.1 hz with rfl | hz
        · exact key_as _ _ hxy h3
        · exact key_as _ _ (key_trans hxy (h2.1 z hz)) h3
      rw [hn]
      unfold ofT at hn ⊢
      rw [List.filter_cons, if_pos (by simpa using hi), hn]
      rfl
    · have ih := insQ_same hi h2.2 fun z hz => hk z (List.mem_cons_of_mem _ hz)
      unfold ofT at ih ⊢
      rw [List.filter_cons, List.filter_cons, ih]
      split <;> rfl
theorem rowI_lt {n : Nat} {k : Int} {a b : List Int} {x y : Int} (h : a ++ b = rowI n k) (hx : x ∈ a) (hy : y ∈ b) : x < y := by
  obtain ⟨i, hi, e1⟩ := List.mem_iff_getElem.1 hx
  obtain ⟨j, hj, e2⟩ := List.mem_iff_getElem.1 hy
  have hl : a.length + b.length = n := by rw [← List.length_append, h, rowI_len]
  have h1 := rowI_get n k i (by omega)
  have h2 := rowI_get n k (a.length + j) (by omega)
  rw [← h] at h1 h2
  rw [List.getElem?_append_left hi, List.getElem?_eq_getElem hi, e1] at h1
  rw [List.getElem?_append_right (by omega), show a.length + j - a.length = j by omega, List.getElem?_eq_getElem hj, e2] at h2
  cases h1
  cases h2
  omega
theorem mem_ofT {i : Int} {y : job} {q : List job} (h : y ∈ q) (hi : y.done.task = i) : y.done.job ∈ (ofT i q).map fun z => z.done.job :=
  List.mem_map.2 ⟨y, List.mem_filter.2 ⟨h, by simpa using hi⟩, rfl⟩
variable {fx : Bool} {l : List Task} {first : List Int} {s : Set}
theorem Work.pull (hl : l.all okT = true) {t : Int} (ht : 0 ≤ t) (hR : Right s) (hfirst : ∀ k : Nat, 0 ≤ first.getD k Dat.d0) : ∀ {td q : List job} {out : List Done} {idle : Int}, Work fx l first s t ⟨td, q, out, idle⟩ → Work fx l first s t ⟨(pullQ fx t td q).1, (pullQ fx t td q).2, out, idle⟩
  | [], q, out, idle, h => h
  | x :: r, q, out, idle, h => by
    rw [pullQ]
    split
    · rename_i hc
      have hx := h.jtd x (List.mem_cons_self ..)
      have h2 := List.pairwise_cons.1 h.fit.ap
      have hx0 : 0 ≤ x.done.came := by
        rw [hx.1.came]
        have h3 := hfirst x.done.task.toNat
        have h4 := okT_iff.1 (tk_get (show x.done.task.toNat < l.length by have := hx.1.t0; have := hx.1.t1; omega) hl)
        have : 0 ≤ x.done.job * (l.getD x.done.task.toNat Dat.d0).every := Int.mul_nonneg hx.1.n0 (by omega)
        omega
      have hx5 := okT_iff.1 (tk_get (show x.done.task.toNat < l.length by have := hx.1.t0; have := hx.1.t1; omega) hl)
      refine Work.pull hl ht hR hfirst ⟨⟨?_, insQ_srt (fun y hy => h2.1 y (List.mem_append_right _ hy)) h.fit.srt⟩, fun y hy => h.jtd y (List.mem_cons_of_mem _ hy), fun y hy => ?_, fun i => ?_, h.don, h.inc, ?_⟩
      · have hp : (r ++ insQ fx x q).Perm (x :: r ++ q) := ((insQ_perm (fx := fx) (x := x) (q := q)).append_left r).trans List.perm_middle
        exact (hp.pairwise_iff fun h => apart_sym h).2 h.fit.ap
      · rcases insQ_mem hy with rfl | hy
        · have hle := (upto_le hR hx0 hc).1
          have hlong : longD l y.done = (l.getD y.done.task.toNat Dat.d0).long := rfl
          refine ⟨hx.1, by rw [hx.2, hlong]; omega, by rw [hx.2]; exact Int.le_refl _, hc, ?_⟩
          unfold spent
          rw [hx.2]; omega
        · exact h.jq y hy
      · obtain ⟨n, hn⟩ := h.row i
        dsimp only at hn ⊢
        refine ⟨n, ?_⟩
        by_cases hi : x.done.task = i
        · have hk : ∀ y ∈ q, y.done.task = i → keyLt fx y x := by
            intro y hy hyi
            have hj : y.done.job < x.done.job := rowI_lt (a := (ofD i out).map (fun z => z.job) ++ (ofT i q).map (fun z => z.done.job)) hn (List.mem_append_right _ (mem_ofT hy hyi)) (mem_ofT (List.mem_cons_self ..) hi)
            have hyq := h.jq y hy
            unfold keyLt
            cases fx
            · left
              refine ⟨rfl, ?_⟩
              rw [hyq.1.due, hx.1.due, hyq.1.came, hx.1.came, hyi, hi]
              have hev := (okT_iff.1 (tk_get (show i.toNat < l.length by have := hx.1.t0; have := hx.1.t1; omega) hl)).1
              have h6 := Int.mul_lt_mul_of_pos_right hj (show 0 < (l.getD i.toNat Dat.d0).every by omega)
              omega
            · right
              exact ⟨.inl rfl, .inr ⟨by rw [hyi, hi], hj⟩⟩
          rw [insQ_same hi h.fit.srt hk]
          have e : ofT i (x :: r) = x :: ofT i r := by unfold ofT; rw [List.filter_cons, if_pos (by simpa using hi)]
          rw [e] at hn
          rw [← hn]
          simp
        · have e1 : ofT i (insQ fx x q) = ofT i q := insQ_neg (by simpa using hi)
          have e : ofT i (x :: r) = ofT i r := by unfold ofT; rw [List.filter_cons, if_neg (by simpa using hi)]
          rw [e] at hn
          rw [e1]
          exact hn
      · have := h.sum
        dsimp only at this ⊢
        rw [sumQ_ins]
        unfold spent
        rw [hx.2]
        omega
    · exact h
theorem Work.tick {t : Int} (ht : 0 ≤ t) (ht2 : t ≤ 1099511627776) (hR : Right s) {td q : List job} {out : List Done} {idle : Int} (hfirst : ∀ y, Jb l first y → 0 ≤ y.done.came) (h : Work fx l first s t ⟨td, q, out, idle⟩) :
    Work fx l first s (t + 1) ⟨td, (tickQ s t (q, out, idle)).1, (tickQ s t (q, out, idle)).2.1, (tickQ s t (q, out, idle)).2.2⟩ := by
  have hh := has_iff hR ht ht2
  have hst := upto_step hR ht
  have hdon : ∀ d ∈ out, 0 ≤ d.task ∧ d.task < l.length ∧ d.came = first.getD d.task.toNat Dat.d0 + d.job * (l.getD d.task.toNat Dat.d0).every ∧ 0 ≤ d.came ∧ d.came ≤ d.at_ ∧ d.at_ ≤ t + 1 ∧ longD l d ≤ uptoV s d.at_ - uptoV s d.came := fun d hd => by
    obtain ⟨a1, a2, a3, a4, a5, a6, a7⟩ := h.don d hd
    exact ⟨a1, a2, a3, a4, a5, by omega, a7⟩
  have hq : ∀ y ∈ q, Jb l first y ∧ 1 ≤ y.left ∧ y.left ≤ longD l y.done ∧ y.done.came ≤ t + 1 ∧ spent l y ≤ uptoV s (t + 1) - uptoV s y.done.came := fun y hy => by
    obtain ⟨a1, a2, a3, a4, a5⟩ := h.jq y hy
    exact ⟨a1, a2, a3, by omega, by omega⟩
  have hsum := h.sum
  dsimp only at hsum
  unfold tickQ
  dsimp only
  by_cases hin : (hasV s t).1 = true
  · have hone : uptoV s (t + 1) - uptoV s t = 1 := by
      rw [hh] at hin
      exact of_decide_eq_true hin
    rw [if_pos hin]
    cases q with
    | nil => exact ⟨h.fit, h.jtd, hq, h.row, hdon, h.inc, by dsimp only; omega⟩
    | cons j r =>
      have hj := h.jq j (List.mem_cons_self ..)
      dsimp only
      rw [sumQ] at hsum
      by_cases hl1 : j.left - 1 = 0
      · rw [if_pos hl1]
        have hc0 := hfirst j hj.1
        have hspent : spent l j = longD l j.done - 1 := by unfold spent; omega
        refine ⟨h.fit.tail, h.jtd, fun y hy => hq y (List.mem_cons_of_mem _ hy), fun i => ?_, fun d hd => ?_, ?_, ?_⟩
        · obtain ⟨n, hn⟩ := h.row i
          refine ⟨n, ?_⟩
          dsimp only at hn ⊢
          rw [← hn]
          unfold ofD ofT
          rw [List.filter_append, List.filter_cons (x := j)]
          by_cases hi : j.done.task = i
          · rw [List.filter_cons, if_pos (by simpa using hi), if_pos (by simpa using hi)]
            simp
          · rw [List.filter_cons, if_neg (by simpa using hi), if_neg (by simpa using hi)]
            simp
        · rcases List.mem_append.1 hd with hd | hd
          · exact hdon d hd
          · rcases List.mem_singleton.1 hd with rfl
            refine ⟨hj.1.t0, hj.1.t1, hj.1.came, hc0, ?_, Int.le_refl _, ?_⟩
            · have := hj.2.2.2.1
              show j.done.came ≤ t + 1
              omega
            · have h9 := hj.2.2.2.2
              rw [hspent] at h9
              show longD l ⟨j.done.task, j.done.job, j.done.came, t + 1⟩ ≤ uptoV s (t + 1) - uptoV s j.done.came
              have e : longD l ⟨j.done.task, j.done.job, j.done.came, t + 1⟩ = longD l j.done := rfl
              rw [e]; omega
        · rw [List.pairwise_append]
          refine ⟨h.inc, List.pairwise_singleton _ _, fun a ha b hb => ?_⟩
          rcases List.mem_singleton.1 hb with rfl
          have := (h.don a ha).2.2.2.2.2.1
          show a.at_ < t + 1
          omega
        · dsimp only
          have e : sumD l [⟨j.done.task, j.done.job, j.done.came, t + 1⟩] = longD l j.done := Int.add_zero _
          rw [sumD_app, e]
          omega
      · rw [if_neg hl1]
        have e : spent l ⟨j.done, j.due, j.left - 1⟩ = spent l j + 1 := by unfold spent; dsimp only; omega
        refine ⟨h.fit.same, h.jtd, fun y hy => ?_, fun i => ?_, hdon, h.inc, ?_⟩
        · rcases List.mem_cons.1 hy with rfl | hy
          · refine ⟨⟨hj.1.t0, hj.1.t1, hj.1.n0, hj.1.came, hj.1.due⟩, ?_, ?_, ?_, ?_⟩
            · have := hj.2.1
              show 1 ≤ j.left - 1
              omega
            · have := hj.2.2.1
              show j.left - 1 ≤ longD l j.done
              omega
            · have := hj.2.2.2.1
              show j.done.came ≤ t + 1
              omega
            · have := hj.2.2.2.2
              rw [e]
              show spent l j + 1 ≤ uptoV s (t + 1) - uptoV s j.done.came
              omega
          · exact hq y (List.mem_cons_of_mem _ hy)
        · obtain ⟨n, hn⟩ := h.row i
          refine ⟨n, ?_⟩
          dsimp only at hn ⊢
          rw [← hn]
          unfold ofT
          rw [List.filter_cons (x := j), List.filter_cons]
          by_cases hi : j.done.task = i
          · rw [if_pos (by simpa using hi), if_pos (by simpa using hi)]
            simp
          · rw [if_neg (by simpa using hi), if_neg (by simpa using hi)]
        · dsimp only
          rw [sumQ, e]
          omega
  · have hone : uptoV s (t + 1) = uptoV s t := by
      rw [hh] at hin
      have : ¬ uptoV s (t + 1) - uptoV s t = 1 := fun q => hin (decide_eq_true q)
      omega
    rw [if_neg hin]
    exact ⟨h.fit, h.jtd, hq, h.row, hdon, h.inc, by dsimp only; omega⟩
theorem Work.run (hl : l.all okT = true) (hR : Right s) (hfirst : ∀ k : Nat, 0 ≤ first.getD k Dat.d0) : ∀ {n : Nat} {t : Int} {x : QS}, 0 ≤ t → t + n ≤ 1099511627776 → Work fx l first s t x → Work fx l first s (t + n) (runQ fx s n t x)
  | 0, t, x, h0, h1, h => by simpa [runQ] using h
  | n + 1, t, x, h0, h1, h => by
    have hc : ∀ y, Jb l first y → 0 ≤ y.done.came := fun y hy => by
      have h3 := hfirst y.done.task.toNat
      have h4 := okT_iff.1 (tk_get (show y.done.task.toNat < l.length by have := hy.t0; have := hy.t1; omega) hl)
      have h5 : 0 ≤ y.done.job * (l.getD y.done.task.toNat Dat.d0).every := Int.mul_nonneg hy.n0 (by omega)
      rw [hy.came]; omega
    have h2 := (Work.pull hl h0 hR hfirst (td := x.td) (q := x.q) (out := x.out) (idle := x.idle) h).tick h0 (by omega) hR hc
    have h3 := Work.run hl hR hfirst (n := n) (t := t + 1) (x := stepQ fx s t x) (by omega) (by omega) h2
    rw [runQ, show t + ((n + 1 : Nat) : Int) = t + 1 + (n : Int) by omega]
    exact h3
theorem uptoW {s : Set} (h : Right s) : uptoV s 0 = 0 := by
  have h1 := upto_at h (q := 0) (m := 0) (Int.le_refl _) (Int.le_refl _) (by have := h.s1; omega)
  rw [Int.zero_mul, Int.zero_mul, Int.zero_add, Int.zero_add] at h1
  rw [h1]
  exact part0 fun x hx => by have := (okSp_bd h.ok).2.2 x hx; omega
structure DoneOk (l : List Task) (first : List Int) (s : Set) (u : Int) (d : List Done) (p : Nat) : Prop where
  t0 : 0 ≤ (d.getD p Dat.d0).task
  t1 : (d.getD p Dat.d0).task < l.length
  job : (d.getD p Dat.d0).job = (ofD (d.getD p Dat.d0).task (d.take p)).length
  inc : 0 < p → (d.getD (p - 1) Dat.d0).at_ < (d.getD p Dat.d0).at_
  came : (d.getD p Dat.d0).came = first.getD (d.getD p Dat.d0).task.toNat Dat.d0 + (d.getD p Dat.d0).job * (l.getD (d.getD p Dat.d0).task.toNat Dat.d0).every
  c0 : 0 ≤ (d.getD p Dat.d0).came
  c1 : (d.getD p Dat.d0).came ≤ (d.getD p Dat.d0).at_
  c2 : (d.getD p Dat.d0).at_ ≤ u
  long : (l.getD (d.getD p Dat.d0).task.toNat Dat.d0).long ≤ uptoV s (d.getD p Dat.d0).at_ - uptoV s (d.getD p Dat.d0).came
theorem dget_mem {d : List Done} {p : Nat} (h : p < d.length) : d.getD p Dat.d0 ∈ d := by
  have e : d.getD p Dat.d0 = d[p] := by simp [h]
  rw [e]; exact List.getElem_mem _
theorem sumQ_nonneg : ∀ {q : List job}, (∀ y ∈ q, y.left ≤ longD l y.done) → 0 ≤ sumQ l q
  | [], _ => Int.le_refl _
  | y :: r, h => by
    have := h y (List.mem_cons_self ..)
    have := sumQ_nonneg fun z hz => h z (List.mem_cons_of_mem _ hz)
    rw [sumQ]
    unfold spent
    omega
theorem play_work {policy u : Int} (h : (playJ l s first policy u).2.2 = 0) : Right s ∧ (0 ≤ u ∧ u ≤ 20000) ∧ l.all okT = true ∧ l.length ≤ 16 ∧ first.length = l.length ∧ first.any badF = false ∧ (∀ p, p < (playJ l s first policy u).1.length → DoneOk l first s u (playJ l s first policy u).1 p) ∧
    sumD l (playJ l s first policy u).1 + (playJ l s first policy u).2.1 ≤ uptoV s u ∧ 0 ≤ (playJ l s first policy u).2.1 := by
  obtain ⟨⟨a0, a1⟩, a2, a3, _, a5, a6, e1⟩ := playJ_ok h
  have hR := check_iff.1 a2
  have hfl : first.length = l.length ∧ first.any badF = false := by
    unfold firstsV at a3
    split at a3
    · assumption
    · cases a3
  have hfirst : ∀ k : Nat, 0 ≤ first.getD k Dat.d0 := fun k => by
    by_cases hk : k < first.length
    · exact (anyB_get hfl.2 hk).1
    · rw [List.getD_eq_getElem?_getD, List.getElem?_eq_none (by omega)]; exact Int.le_refl _
  have hW0 : Work (decide (policy = 2)) l first s 0 ⟨sortS (jobsL u 0 l first), [], [], 0⟩ := by
    refine ⟨⟨sortS_apart, List.Pairwise.nil⟩, fun y hy => ⟨(jb_of hy).1, (jb_of hy).2.1⟩, fun y hy => (by cases hy), fun i => ?_, fun d hd => (by cases hd), List.Pairwise.nil, ?_⟩
    · obtain ⟨n, hn⟩ := ofT_row (b := u) (first := first) a1 i
      exact ⟨n, hn⟩
    · rw [uptoW hR]; rfl
  have hW := Work.run a1 hR hfirst (n := u.toNat) (Int.le_refl 0) (by omega) hW0
  have hu : (0 : Int) + (u.toNat : Int) = u := by omega
  rw [hu] at hW
  rw [e1]
  dsimp only
  have hid := (runQ_ext (fx := decide (policy = 2)) (s := s) (n := u.toNat) (t := 0) (x := ⟨sortS (jobsL u 0 l first), [], [], 0⟩)).2
  revert hW hid
  generalize runQ (decide (policy = 2)) s u.toNat 0 ⟨sortS (jobsL u 0 l first), [], [], 0⟩ = x
  intro hW hid
  refine ⟨hR, a5, a1, a0, hfl.1, hfl.2, fun p hp => ?_, ?_, ?_⟩
  · obtain ⟨b1, b2, b3, b4, b5, b6, b7⟩ := hW.don _ (dget_mem hp)
    refine ⟨b1, b2, ?_, fun h0 => ?_, b3, b4, b5, b6, b7⟩
    · obtain ⟨n, hn⟩ := hW.row (x.out.getD p Dat.d0).task
      have e : x.out = x.out.take p ++ x.out.getD p Dat.d0 :: x.out.drop (p + 1) := by
        rw [← drop_cons Dat.d0 hp, List.take_append_drop]
      generalize hz : x.out.getD p Dat.d0 = z at *
      have e2 : ofD z.task x.out = ofD z.task (x.out.take p) ++ z :: ofD z.task (x.out.drop (p + 1)) := by
        conv => lhs; rw [e]
        unfold ofD
        rw [List.filter_append, List.filter_cons, if_pos (by simp)]
      rw [e2, List.map_append, List.map_cons] at hn
      have h4 : (ofD z.task (x.out.take p)).length < n := by
        have := congrArg List.length hn
        rw [rowI_len] at this
        simp at this
        omega
      have h3 := rowI_get n 0 (ofD z.task (x.out.take p)).length h4
      rw [← hn] at h3
      rw [List.append_assoc, List.append_assoc, List.getElem?_append_right (by simp)] at h3
      simp at h3
      exact h3
    · have h5 := List.pairwise_iff_getElem.1 hW.inc (p - 1) p (by omega) hp (by omega)
      have e1 : x.out.getD (p - 1) Dat.d0 = x.out[p - 1]'(by omega) := by simp [show p - 1 < x.out.length by omega]
      have e2 : x.out.getD p Dat.d0 = x.out[p] := by simp [hp]
      rw [e1, e2]; exact h5
  · have h6 := sumQ_nonneg (l := l) (q := x.q) fun y hy => (hW.jq y hy).2.2.1
    have h7 := hW.sum
    omega
  · exact hid

end Go.Proofs.Ytcnfdohlgmipoaa
