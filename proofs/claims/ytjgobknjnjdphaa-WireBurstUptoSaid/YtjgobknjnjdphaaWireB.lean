/- Texts of bytes, put together. -/
import Derived.Test.YtjgobknjnjdphaaWire
set_option linter.all false
namespace Go.Proofs.Ytjgobknjnjdphaa
open Go Go.Abs

def b1 (x : Int) : ByteArray := ⟨#[UInt8.ofNat x.toNat]⟩
structure U8R (n : Nat) (f : Nat → List AV) (s : ByteArray) : Prop where
  u : ∀ i, i < n → isU8 (f i) = true
  e : sOf n (fun i => u8At (f i)) = s
theorem isU8_some {l : List AV} (h : isU8 l = true) : ∃ n, l = [.i .u8 n] := by
  unfold isU8 at h
  split at h
  · exact ⟨_, rfl⟩
  · cases h
theorem row1_t {c : Th Bool} {l m : List AV} (hl : isU8 l = true) (hm : isU8 m = true) (hc : c () = true) : isU8 (rowL 1 c l m) = true ∧ u8At (rowL 1 c l m) = u8At l := by
  obtain ⟨a, rfl⟩ := isU8_some hl
  obtain ⟨b, rfl⟩ := isU8_some hm
  refine ⟨rfl, ?_⟩
  show (bif c () then a () else b ()) = a ()
  rw [hc]; rfl
theorem row1_f {c : Th Bool} {l m : List AV} (hl : isU8 l = true) (hm : isU8 m = true) (hc : c () = false) : isU8 (rowL 1 c l m) = true ∧ u8At (rowL 1 c l m) = u8At m := by
  obtain ⟨a, rfl⟩ := isU8_some hl
  obtain ⟨b, rfl⟩ := isU8_some hm
  refine ⟨rfl, ?_⟩
  show (bif c () then a () else b ()) = b ()
  rw [hc]; rfl
theorem sOf_congr {n : Nat} {f g : Nat → Int} (h : ∀ i, i < n → f i = g i) : sOf n f = sOf n g := by
  unfold sOf
  congr 2
  apply List.map_congr_left
  intro i hi
  rw [h i (List.mem_range.1 hi)]
theorem sOf_add (n m : Nat) (f : Nat → Int) : sOf (n + m) f = sOf n f ++ sOf m (fun i => f (n + i)) := by
  apply ByteArray.ext
  rw [ByteArray.data_append]
  apply Array.toList_inj.1
  simp [sOf, List.range_add, Function.comp_def]
theorem sOf_byteAt (s : ByteArray) : sOf s.size (fun i => byteAt s i) = s := by
  apply ByteArray.ext
  apply Array.toList_inj.1
  apply List.ext_getElem
  · simp [sOf]
  · intro i h1 h2
    have : i < s.data.size := by simpa using h2
    have h3 : s.data[i]? = some s.data[i] := Array.getElem?_eq_getElem h2
    simp [sOf, byteAt, h3]
theorem U8R.app {n m : Nat} {f g h : Nat → List AV} {s t : ByteArray} (hs : U8R n f s) (ht : U8R m g t) (hu : ∀ i, isU8 (f i) = true) (hv : ∀ i, isU8 (h i) = true) (hh : ∀ i, h (n + i) = g i) :
    U8R (n + m) (fun i => rowL 1 (fun _ => decide (i < n)) (f i) (h i)) (s ++ t) := by
  refine ⟨fun i hi => ?_, ?_⟩
  · by_cases h1 : i < n
    · exact (row1_t (hu i) (hv i) (by simp [h1])).1
    · exact (row1_f (hu i) (hv i) (by simp [h1])).1
  · rw [sOf_add]
    congr 1
    · rw [← hs.e]
      exact sOf_congr fun i hi => (row1_t (hu i) (hv i) (by simp [hi])).2
    · rw [← ht.e]
      refine sOf_congr fun i hi => ?_
      rw [← hh i]
      exact (row1_f (hu _) (hv _) (by simp)).2
/-- As 'U8R', and each row a byte. -/
structure U8A (n : Nat) (f : Nat → List AV) (s : ByteArray) : Prop where
  r : U8R n f s
  a : ∀ i, isU8 (f i) = true
theorem U8A.one (x : Int) : U8A 1 (fun _ => [.i .u8 fun _ => x]) (b1 x) := ⟨⟨fun _ _ => rfl, rfl⟩, fun _ => rfl⟩
theorem U8A.app1 {n : Nat} {f : Nat → List AV} {s : ByteArray} (hs : U8A n f s) (x : Int) : U8A (n + 1) (fun i => rowL 1 (fun _ => decide (i < n)) (f i) [.i .u8 fun _ => x]) (s ++ b1 x) :=
  ⟨hs.r.app (g := fun _ => [.i .u8 fun _ => x]) (h := fun _ => [.i .u8 fun _ => x]) (U8A.one x).r hs.a (fun _ => rfl) fun _ => rfl, fun i => by
    obtain ⟨a, h⟩ := isU8_some (hs.a i)
    show isU8 (rowL 1 _ (f i) _) = true
    rw [h]; rfl⟩
theorem U8A.appT {n : Nat} {f : Nat → List AV} {s : ByteArray} (hs : U8A n f s) (t : ByteArray) : U8A (n + t.size) (fun i => rowL 1 (fun _ => decide (i < n)) (f i) [.i .u8 fun _ => byteAt t ((i - n : Nat) : Int)]) (s ++ t) :=
  ⟨hs.r.app (g := fun i => [.i .u8 fun _ => byteAt t (i : Nat)]) (h := fun i => [.i .u8 fun _ => byteAt t ((i - n : Nat) : Int)]) ⟨fun _ _ => rfl, sOf_byteAt t⟩ hs.a (fun _ => rfl) fun i => by rw [Nat.add_sub_cancel_left], fun i => by
    obtain ⟨a, h⟩ := isU8_some (hs.a i)
    show isU8 (rowL 1 _ (f i) _) = true
    rw [h]; rfl⟩
def bS (n k : Int) : Int := IntKind.u8.wrap (bShr .i64 n k)
def headV (m : Msg) : ByteArray := b1 (bS (14 + m.data.size) 8) ++ b1 (bS (14 + m.data.size) 0) ++ b1 (bS m.kind 0) ++ b1 (bS m.frm 0) ++ b1 (bS m.epoch 24) ++ b1 (bS m.epoch 16) ++ b1 (bS m.epoch 8) ++ b1 (bS m.epoch 0) ++ b1 (bS m.num 24) ++ b1 (bS m.num 16) ++ b1 (bS m.num 8) ++ b1 (bS m.num 0)
def bodyV (m : Msg) : ByteArray := headV m ++ m.data
def bodyA (m : Msg) := (((((((((((((U8A.one (bS (14 + m.data.size) 8)).app1 (bS (14 + m.data.size) 0)).app1 (bS m.kind 0)).app1 (bS m.frm 0)).app1 (bS m.epoch 24)).app1 (bS m.epoch 16)).app1 (bS m.epoch 8)).app1 (bS m.epoch 0)).app1 (bS m.num 24)).app1 (bS m.num 16)).app1 (bS m.num 8)).app1 (bS m.num 0)).appT m.data)
theorem size_b1 (x : Int) : (b1 x).size = 1 := rfl
theorem headV_size (m : Msg) : (headV m).size = 12 := by
  unfold headV
  simp only [ByteArray.size_append, size_b1]
theorem bodyV_size (m : Msg) : (bodyV m).size = 12 + m.data.size := by
  unfold bodyV
  rw [ByteArray.size_append, headV_size]
theorem sOf_size (n : Nat) (f : Nat → Int) : (sOf n f).size = n := by
  show ((List.range n).map _).toArray.size = n
  simp
theorem sealV_size (s : ByteArray) : (sealV s).size = 4 := sOf_size _ _
def writeV (m : Msg) : ByteArray × Int := (if checkM m = 0 then bodyV m ++ sealV (bodyV m) else .empty, checkM m)
theorem check0 {m : Msg} (h : checkM m = 0) : MsgR m ∧ m.data.size ≤ 1000 := by
  unfold checkM at h
  by_cases h1 : MsgR m
  · rw [if_pos h1] at h
    refine ⟨h1, ?_⟩
    by_cases h2 : 1000 < m.data.size
    · rw [if_pos h2] at h; omega
    · omega
  · rw [if_neg h1] at h; omega

end Go.Proofs.Ytjgobknjnjdphaa
