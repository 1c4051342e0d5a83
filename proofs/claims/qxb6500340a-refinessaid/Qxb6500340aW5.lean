import Derived.Test.Qxb6500340aW4
namespace Go.Proofs.Qxb6500340a
open Go.RowKit
set_option linter.unusedVariables false

/-! ### One cell of the bank turned -/
def stAa (s : St) (x : Int) : St := { s with av := ⟨x, s.av.b⟩ }
def stAb (s : St) (x : Int) : St := { s with av := ⟨s.av.a, x⟩ }
def stLi (s : St) (p : Nat) (x : Bool) : St := { s with live := upd s.live p x }
def stNa (s : St) (p : Nat) (x : Int) : St := { s with need := upd s.need p ⟨x, (s.need p).b⟩ }
def stNb (s : St) (p : Nat) (x : Int) : St := { s with need := upd s.need p ⟨(s.need p).a, x⟩ }
def stHa (s : St) (p : Nat) (x : Int) : St := { s with held := upd s.held p ⟨x, (s.held p).b⟩ }
def stHb (s : St) (p : Nat) (x : Int) : St := { s with held := upd s.held p ⟨(s.held p).a, x⟩ }

section
variable {w : World} {b : Nat} {s : St} {cert : ByteArray}
theorem Bk.setAa (h : Bk w b s cert) (x : Int) : Bk (w.setCell ⟨b, 0, none⟩ (.int .i64 x)) b (stAa s x) cert := blk_set h 0 _
theorem Bk.setAb (h : Bk w b s cert) (x : Int) : Bk (w.setCell ⟨b, 1, none⟩ (.int .i64 x)) b (stAb s x) cert := blk_set h 1 _
theorem Bk.setCe (h : Bk w b s cert) (x : ByteArray) : Bk (w.setCell ⟨b, 22, none⟩ (.string x)) b s x := blk_set h 22 _
theorem Bk.setLi (h : Bk w b s cert) {p : Nat} (hp : p < 4) (x : Bool) : Bk (w.setCell ⟨b, 2 + p, none⟩ (.bool x)) b (stLi s p x) cert := by
  unfold Bk
  rw [blk_set h]
  rcases lt4 hp with rfl | rfl | rfl | rfl <;> rfl
theorem Bk.setNa (h : Bk w b s cert) {p : Nat} (hp : p < 4) (x : Int) : Bk (w.setCell ⟨b, 6 + p * 2, none⟩ (.int .i64 x)) b (stNa s p x) cert := by
  unfold Bk
  rw [blk_set h]
  rcases lt4 hp with rfl | rfl | rfl | rfl <;> rfl
theorem Bk.setNb (h : Bk w b s cert) {p : Nat} (hp : p < 4) (x : Int) : Bk (w.setCell ⟨b, 6 + p * 2 + 1, none⟩ (.int .i64 x)) b (stNb s p x) cert := by
  unfold Bk
  rw [blk_set h]
  rcases lt4 hp with rfl | rfl | rfl | rfl <;> rfl
theorem Bk.setHa (h : Bk w b s cert) {p : Nat} (hp : p < 4) (x : Int) : Bk (w.setCell ⟨b, 14 + p * 2, none⟩ (.int .i64 x)) b (stHa s p x) cert := by
  unfold Bk
  rw [blk_set h]
  rcases lt4 hp with rfl | rfl | rfl | rfl <;> rfl
theorem Bk.setHb (h : Bk w b s cert) {p : Nat} (hp : p < 4) (x : Int) : Bk (w.setCell ⟨b, 14 + p * 2 + 1, none⟩ (.int .i64 x)) b (stHb s p x) cert := by
  unfold Bk
  rw [blk_set h]
  rcases lt4 hp with rfl | rfl | rfl | rfl <;> rfl
end

theorem St.eq {s t : St} (h1 : s.av = t.av) (h2 : s.live = t.live) (h3 : s.need = t.need) (h4 : s.held = t.held) : s = t := by
  cases s; cases t; simp_all
theorem upd_upd {α : Type} (f : Nat → α) (p : Nat) (u v : α) : upd (upd f p u) p v = upd f p v := by
  funext q; unfold upd; split <;> rfl
theorem give_eq (s : St) (p : Nat) (v : Vc) :
    stHb (stNb (stAb (stHa (stNa (stAa s (s.av.a + v.a)) p ((s.need p).a + v.a)) p ((s.held p).a - v.a)) (s.av.b + v.b)) p ((s.need p).b + v.b)) p ((s.held p).b - v.b) = giveS s p v := by
  refine St.eq rfl rfl ?_ ?_
  · simp only [stHb, stNb, stAb, stHa, stNa, stAa, giveS, upd_upd, upd_same]; rfl
  · simp only [stHb, stNb, stAb, stHa, stNa, stAa, giveS, upd_upd, upd_same]; rfl
theorem req_eq (s : St) (p : Nat) (v : Vc) :
    stHb (stNb (stAb (stHa (stNa (stAa s (s.av.a - v.a)) p ((s.need p).a - v.a)) p ((s.held p).a + v.a)) (s.av.b - v.b)) p ((s.need p).b - v.b)) p ((s.held p).b + v.b) = reqS s p v := by
  refine St.eq rfl rfl ?_ ?_
  · simp only [stHb, stNb, stAb, stHa, stNa, stAa, reqS, upd_upd, upd_same]; rfl
  · simp only [stHb, stNb, stAb, stHa, stNa, stAa, reqS, upd_upd, upd_same]; rfl
theorem decl_eq (s : St) (p : Nat) (v : Vc) : stNb (stNa (stLi s p true) p v.a) p v.b = declS s p v := by
  refine St.eq rfl rfl ?_ rfl
  simp only [stNb, stNa, stLi, declS, upd_upd, upd_same]
theorem fin_eq (s : St) (p : Nat) : stNb (stNa (stLi (giveS s p (s.held p)) p false) p 0) p 0 = finS s p := by
  refine St.eq rfl rfl ?_ ?_
  · simp only [stNb, stNa, stLi, giveS, finS, upd_upd, upd_same]; rfl
  · simp only [stNb, stNa, stLi, giveS, finS]
    funext q; unfold upd; split
    · simp [Vc.sub, zeroV]
    · rfl
end Go.Proofs.Qxb6500340a
