import Derived.Test.Qxb6500339aW1
import Derived.Deep.AppendLies
import Derived.Laws.OwnMore
import Derived.Deep.RegionHeld3
import Derived.Deep.Onto
import Derived.BigRegion
import Derived.BigQuiet
import Derived.Deep.LoopGhost
import Derived.Deep.CutRange
namespace Go.Proofs.Qxb6500339a
open Go.RowKit
set_option linter.unusedVariables false
set_option linter.unusedSimpArgs false

/-! ### The disk's block -/
/-- Eight blocks' cells. -/
def lsN (n : Nat → Bl) : List Value := [.int .u8 (n 0).a, .int .u8 (n 0).b, .int .u8 (n 0).c, .int .u8 (n 0).d, .int .u8 (n 1).a, .int .u8 (n 1).b, .int .u8 (n 1).c, .int .u8 (n 1).d, .int .u8 (n 2).a, .int .u8 (n 2).b, .int .u8 (n 2).c, .int .u8 (n 2).d, .int .u8 (n 3).a, .int .u8 (n 3).b, .int .u8 (n 3).c, .int .u8 (n 3).d, .int .u8 (n 4).a, .int .u8 (n 4).b, .int .u8 (n 4).c, .int .u8 (n 4).d, .int .u8 (n 5).a, .int .u8 (n 5).b, .int .u8 (n 5).c, .int .u8 (n 5).d, .int .u8 (n 6).a, .int .u8 (n 6).b, .int .u8 (n 6).c, .int .u8 (n 6).d, .int .u8 (n 7).a, .int .u8 (n 7).b, .int .u8 (n 7).c, .int .u8 (n 7).d]
def dkC (n bs : Nat → Bl) (av vv : Value) : Array Value := (lsN n ++ (lsN bs ++ [av, vv])).toArray
def Dk (w : World) (d : Nat) (n bs : Nat → Bl) (av vv : Value) : Prop := w.heap[d]? = some (.cells (dkC n bs av vv) 46)
theorem lt8 {p : Nat} (h : p < 8) : p = 0 ∨ p = 1 ∨ p = 2 ∨ p = 3 ∨ p = 4 ∨ p = 5 ∨ p = 6 ∨ p = 7 := by omega
section
variable {w w' : World} {d : Nat} {n bs : Nat → Bl} {av vv : Value}
theorem Dk.na (h : Dk w d n bs av vv) {b : Nat} (hb : b < 8) : w.cell? ⟨d, b * 4, none⟩ = some (.int .u8 (n b).a) := by
  rcases lt8 hb with rfl | rfl | rfl | rfl | rfl | rfl | rfl | rfl <;> exact blk_cell h _
theorem Dk.ba (h : Dk w d n bs av vv) {b : Nat} (hb : b < 8) : w.cell? ⟨d, 32 + b * 4, none⟩ = some (.int .u8 (bs b).a) := by
  rcases lt8 hb with rfl | rfl | rfl | rfl | rfl | rfl | rfl | rfl <;> exact blk_cell h _
theorem Dk.nb (h : Dk w d n bs av vv) {b : Nat} (hb : b < 8) : w.cell? ⟨d, b * 4 + 1, none⟩ = some (.int .u8 (n b).b) := by
  rcases lt8 hb with rfl | rfl | rfl | rfl | rfl | rfl | rfl | rfl <;> exact blk_cell h _
theorem Dk.bb (h : Dk w d n bs av vv) {b : Nat} (hb : b < 8) : w.cell? ⟨d, 32 + b * 4 + 1, none⟩ = some (.int .u8 (bs b).b) := by
  rcases lt8 hb with rfl | rfl | rfl | rfl | rfl | rfl | rfl | rfl <;> exact blk_cell h _
theorem Dk.nc (h : Dk w d n bs av vv) {b : Nat} (hb : b < 8) : w.cell? ⟨d, b * 4 + 2, none⟩ = some (.int .u8 (n b).c) := by
  rcases lt8 hb with rfl | rfl | rfl | rfl | rfl | rfl | rfl | rfl <;> exact blk_cell h _
theorem Dk.bc (h : Dk w d n bs av vv) {b : Nat} (hb : b < 8) : w.cell? ⟨d, 32 + b * 4 + 2, none⟩ = some (.int .u8 (bs b).c) := by
  rcases lt8 hb with rfl | rfl | rfl | rfl | rfl | rfl | rfl | rfl <;> exact blk_cell h _
theorem Dk.nd (h : Dk w d n bs av vv) {b : Nat} (hb : b < 8) : w.cell? ⟨d, b * 4 + 3, none⟩ = some (.int .u8 (n b).d) := by
  rcases lt8 hb with rfl | rfl | rfl | rfl | rfl | rfl | rfl | rfl <;> exact blk_cell h _
theorem Dk.bd (h : Dk w d n bs av vv) {b : Nat} (hb : b < 8) : w.cell? ⟨d, 32 + b * 4 + 3, none⟩ = some (.int .u8 (bs b).d) := by
  rcases lt8 hb with rfl | rfl | rfl | rfl | rfl | rfl | rfl | rfl <;> exact blk_cell h _
theorem Dk.at (h : Dk w d n bs av vv) : w.cell? ⟨d, 64, none⟩ = some av := blk_cell h 64
theorem Dk.vl (h : Dk w d n bs av vv) : w.cell? ⟨d, 65, none⟩ = some vv := blk_cell h 65
theorem Dk.fr (h : Dk w d n bs av vv) (i : Nat) : w.frozen? ⟨d, i, none⟩ = false := blk_frozen h i
theorem Dk.keep {S : List Nat} (h : Dk w d n bs av vv) (hf : Fr S w w') (hn : d ∉ S) : Dk w' d n bs av vv := Fr.keep hf h hn
theorem Dk.far (h : Dk w d n bs av vv) {p : Addr} {v : Value} (hp : d ≠ p.block) : Dk (w.setCell p v) d n bs av vv := blk_set_far h p v hp
theorem Dk.alloc (h : Dk w d n bs av vv) (o : Obj) : Dk (w.alloc o) d n bs av vv := blk_alloc h o
theorem Dk.drew (h : Dk w d n bs av vv) : Dk w.drew d n bs av vv := h
theorem Dk.setAt (h : Dk w d n bs av vv) (u : Value) : Dk (w.setCell ⟨d, 64, none⟩ u) d n bs u vv := by unfold Dk; rw [blk_set h]; rfl
theorem Dk.setVl (h : Dk w d n bs av vv) (u : Value) : Dk (w.setCell ⟨d, 65, none⟩ u) d n bs av u := by unfold Dk; rw [blk_set h]; rfl
/-- A whole block is written. -/
theorem Dk.setN (h : Dk w d n bs av vv) {b : Nat} (hb : b < 8) (x : Bl) : Dk ((((w.setCell ⟨d, b * 4, none⟩ (.int .u8 x.a)).setCell ⟨d, b * 4 + 1, none⟩ (.int .u8 x.b)).setCell ⟨d, b * 4 + 2, none⟩ (.int .u8 x.c)).setCell ⟨d, b * 4 + 3, none⟩ (.int .u8 x.d)) d (upd n b x) bs av vv := by
  unfold Dk
  rw [blk_set (blk_set (blk_set (blk_set h _ _) _ _) _ _)]
  rcases lt8 hb with rfl | rfl | rfl | rfl | rfl | rfl | rfl | rfl <;> rfl
end

/-! ### Eight blocks at once -/
def setL (c : Array Value) : Nat → List Value → Array Value
  | _, [] => c
  | o, v :: r => setL (c.setIfInBounds o v) (o + 1) r
theorem blk_setCells {b : Nat} {t : TypeId} {f : Nat × Nat} (vs : List Value) : ∀ (w : World) (c : Array Value) (o : Nat), w.heap[b]? = some (.cells c t f) → (w.setCells b o vs).heap[b]? = some (.cells (setL c o vs) t f) := by
  induction vs with
  | nil => intro w c o h; exact h
  | cons v r ih => intro w c o h; exact ih _ _ _ (blk_set h o v)
theorem blk_setCells_far {b d : Nat} {x : Obj} (hne : d ≠ b) (vs : List Value) : ∀ (w : World) (o : Nat), w.heap[d]? = some x → (w.setCells b o vs).heap[d]? = some x := by
  induction vs with
  | nil => intro w o h; exact h
  | cons v r ih => intro w o h; exact ih _ _ (blk_set_far h _ _ hne)
theorem Fr.setCells {S : List Nat} {a : World} {b : Nat} (hb : b ∈ S ∨ a.heap.size ≤ b) (vs : List Value) : ∀ (w : World) (o : Nat), Fr S a w → Fr S a (w.setCells b o vs) := by
  induction vs with
  | nil => intro w o h; exact h
  | cons v r ih => intro w o h; exact ih _ _ (h.setCell hb v)
theorem info42 : (Try.prog.info? 42).map (·.size) = some 32 := by kernel_rfl
theorem lsN_len (n : Nat → Bl) : (lsN n).length = 32 := rfl
theorem lsN_one (n : Nat → Bl) : (lsN n).toArray.all (·.oneCell') = true := by simp [lsN, Value.oneCell']
theorem setL_mid (new : List Value) : ∀ (pre old post : List Value), old.length = new.length → setL (pre ++ (old ++ post)).toArray pre.length new = (pre ++ (new ++ post)).toArray := by
  induction new with
  | nil =>
    intro pre old post h
    have : old = [] := List.length_eq_zero_iff.1 h
    subst this; rfl
  | cons v r ih =>
    intro pre old post h
    cases old with
    | nil => simp at h
    | cons u old =>
      simp only [setL]
      have e : (pre ++ (u :: old ++ post)).toArray.setIfInBounds pre.length v = ((pre ++ [v]) ++ (old ++ post)).toArray := by
        simp
      rw [e]
      have := ih (pre ++ [v]) old post (by simpa using h)
      rw [List.length_append] at this
      simp only [List.length_singleton] at this
      rw [this]; simp
section
variable {w : World} {d : Nat} {n bs : Nat → Bl} {av vv : Value}
theorem Dk.rangeN (h : Dk w d n bs av vv) : w.rangeAt d 0 (lsN n) := fun j v hj => by
  rw [blk_cell h]
  have hlt : j < (lsN n).length := (List.getElem?_eq_some_iff.1 hj).1
  simp only [dkC, Nat.zero_add, List.getElem?_toArray]
  rw [List.getElem?_append_left hlt, hj]
theorem Dk.rangeB (h : Dk w d n bs av vv) : w.rangeAt d 32 (lsN bs) := fun j v hj => by
  rw [blk_cell h]
  have hlt : j < (lsN bs).length := (List.getElem?_eq_some_iff.1 hj).1
  simp only [dkC, List.getElem?_toArray]
  rw [List.getElem?_append_right (by rw [lsN_len]; omega), lsN_len, Nat.add_sub_cancel_left, List.getElem?_append_left hlt, hj]
theorem dkC_size (n bs : Nat → Bl) (av vv : Value) : (dkC n bs av vv).size = 66 := by simp [dkC, lsN_len]
theorem Dk.thereN (h : Dk w d n bs av vv) : w.there d 0 32 := fun j hj => by
  rw [blk_cell h, Array.getElem?_eq_getElem (by rw [dkC_size]; omega)]
  exact ⟨rfl, blk_frozen h _⟩
theorem Dk.thereB (h : Dk w d n bs av vv) : w.there d 32 32 := fun j hj => by
  rw [blk_cell h, Array.getElem?_eq_getElem (by rw [dkC_size]; omega)]
  exact ⟨rfl, blk_frozen h _⟩
theorem Dk.putB (h : Dk w d n bs av vv) (m : Nat → Bl) : Dk (w.setCells d 32 (lsN m)) d n m av vv := by
  unfold Dk
  rw [blk_setCells (lsN m) w _ 32 h]
  have := setL_mid (lsN m) (lsN n) (lsN bs) [av, vv] rfl
  rw [lsN_len] at this
  unfold dkC
  rw [this]
theorem Dk.putN (h : Dk w d n bs av vv) (m : Nat → Bl) : Dk (w.setCells d 0 (lsN m)) d m bs av vv := by
  unfold Dk
  rw [blk_setCells (lsN m) w _ 0 h]
  have := setL_mid (lsN m) [] (lsN n) (lsN bs ++ [av, vv]) rfl
  simp only [List.nil_append, List.length_nil] at this
  unfold dkC
  rw [this]
end
theorem zero46 (W : World) : (zeroValue 46).run Try.prog W = .ok (.agg (dkC (fun _ => zB) (fun _ => zB) (.slice none 0 0) (.slice none 0 0))) W := by kernel_rfl

set_option maxHeartbeats 1600000 in
theorem disk_new (w : World) : Calls Try.prog 8 #[] w fun e w' => e = .returned (.pointer (some ⟨w.heap.size, 0, none⟩)) ∧ Dk w' w.heap.size (fun _ => zB) (fun _ => zB) (.slice none 0 0) (.slice none 0 0) ∧ w' = w.alloc (.cells (dkC (fun _ => zB) (fun _ => zB) (.slice none 0 0) (.slice none 0 0)) 46) := by
  have hz := zero46
  go_enter Try.func8, Try.ntmps8
  go_wp2
  go_ret
  exact ⟨rfl, blk_new _ _, rfl⟩

set_option maxHeartbeats 1600000 in
theorem read_any (w : World) (d : Nat) (n bs : Nat → Bl) (av vv : Value) (h : Dk w d n bs av vv) (b : Nat) (hb : b < 8) :
    Calls Try.prog 27 #[.pointer (some ⟨d, 0, none⟩), .int .i64 b] w fun e w' => e = .returned (.tuple #[bV (n b), .int .i64 0]) ∧ Fr [] w w' := by
  have hl := blk_lt h
  have ca := h.na hb
  have cb := h.nb hb
  have cc := h.nc hb
  have cd := h.nd hb
  have hbi : (b : Int) < 8 := by omega
  clear h
  go_enter Try.func27, Try.ntmps27
  go_wp2
  exact bodyPost_ret (v := .tuple #[bV (n b), .int .i64 0]) (by simp [results, Try.results27, go_sem, bV]) rfl ⟨rfl, (Fr.refl _ _).alloc _⟩

set_option maxHeartbeats 1600000 in
theorem mark_any (w : World) (d : Nat) (n bs : Nat → Bl) (av vv : Value) (h : Dk w d n bs av vv) :
    Calls Try.prog 23 #[.pointer (some ⟨d, 0, none⟩)] w fun e w' => e = .returned (.tuple #[]) ∧ Dk w' d n n (.slice none 0 0) (.slice none 0 0) ∧ Fr [d] w w' := by
  have c0 := h.at
  have c1 := h.vl
  have f0 := h.fr 64
  have f1 := h.fr 65
  have D1 := (h.setAt (.slice none 0 0)).setVl (.slice none 0 0)
  have hr := D1.rangeN
  have ht := D1.thereB
  have HR : Hid (World.rangeAt ((w.setCell ⟨d, 64, none⟩ (.slice none 0 0)).setCell ⟨d, 65, none⟩ (.slice none 0 0)) d 0 (lsN n)) := hr
  have HT : Hid (World.there ((w.setCell ⟨d, 64, none⟩ (.slice none 0 0)).setCell ⟨d, 65, none⟩ (.slice none 0 0)) d 32 32) := ht
  have H1 : Hid (Dk ((w.setCell ⟨d, 64, none⟩ (.slice none 0 0)).setCell ⟨d, 65, none⟩ (.slice none 0 0)) d n bs (.slice none 0 0) (.slice none 0 0)) := D1
  clear h D1 hr ht
  go_enter Try.func23, Try.ntmps23
  go_wp2_with (first
    | (refine wpList_load_mid rfl 42 _ rfl d 0 rfl (lsN n) _ HR.out Try.underlying42 rfl info42 ?_)
    | (refine wpList_store_mid rfl 42 _ _ rfl d 32 (lsN n).toArray rfl rfl HT.out info42 (lsN_one n) ?_))
  go_end0
  exact ⟨rfl, H1.out.putB n, Fr.setCells (Or.inl (by simp)) _ _ _ (((Fr.refl _ _).setCell (Or.inl (by simp)) _).setCell (Or.inl (by simp)) _)⟩

set_option maxHeartbeats 1600000 in
theorem steps_any (w : World) (d : Nat) (n bs : Nat → Bl) (a0 : Option Addr) (len cap : Nat) (vv : Value) (h : Dk w d n bs (.slice a0 len cap) vv) :
    Calls Try.prog 20 #[.pointer (some ⟨d, 0, none⟩)] w fun e w' => e = .returned (.int .i64 len) ∧ w' = w := by
  have c0 := h.at
  clear h
  go_enter Try.func20, Try.ntmps20
  go_wp2
  go_ret
  exact ⟨rfl, rfl⟩
end Go.Proofs.Qxb6500339a
