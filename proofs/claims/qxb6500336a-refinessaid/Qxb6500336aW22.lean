import Derived.Test.Qxb6500336aW21
import Derived.WalkMore
namespace Go.Proofs.Qxb6500336a
open Go.RowKit
set_option linter.unusedVariables false
set_option linter.unusedSimpArgs false

def fnv (f : Nat) : Value := .func (.func f) #[] #[]
/-- The machine's cells. -/
def mch (S : Nat) (acc : Int) : Array Value := #[.pointer (some ⟨S, 0, none⟩), .int .i64 acc, .func (.func 41) #[] #[], .nilFunc, .func (.func 42) #[] #[], .func (.func 43) #[] #[], .nilFunc, .func (.func 44) #[] #[], .nilFunc, .nilFunc, .nilFunc, .nilFunc, .nilFunc, .func (.func 45) #[] #[], .nilFunc, .func (.func 46) #[] #[], .nilFunc, .func (.func 47) #[] #[], .nilFunc, .nilFunc, .func (.func 48) #[] #[], .nilFunc, .nilFunc, .nilFunc, .nilFunc, .func (.func 49) #[] #[], .nilFunc, .nilFunc]

structure Mc (w : World) (M S : Nat) (sl : Value) (acc : Int) (rs : List Code) : Prop where
  obj : w.heap[M]? = some (.cells (mch S acc) 43)
  st : St w S sl rs
  a64 : w64 acc
structure Mw (w w' : World) (M S : Nat) (sl sl' : Value) : Prop where
  fr : Fr (M :: S :: sl.ownBlock.toList) w w'
  own : Own w sl sl'
theorem Mw.refl (w : World) (M S : Nat) (sl : Value) : Mw w w M S sl sl := ⟨Fr.refl _ _, Or.inl rfl⟩
theorem Mw.ofMv {w w' : World} {M S : Nat} {sl sl' : Value} (m : Mv w w' S sl sl') : Mw w w' M S sl sl' := ⟨m.fr.mono (fun k hk => by simp at hk ⊢; rcases hk with h | h <;> simp [h]), m.own⟩
theorem Mw.ofFr {w w' : World} {M S : Nat} {sl : Value} (h : Fr [] w w') : Mw w w' M S sl sl := ⟨h.widen, Or.inl rfl⟩
theorem Mw.trans {a b c : World} {M S : Nat} {s1 s2 s3 : Value} (h : Mw a b M S s1 s2) (k : Mw b c M S s2 s3) : Mw a c M S s1 s3 := by
  refine ⟨h.fr.narrow k.fr ?_, ?_⟩
  · intro i hi
    simp at hi
    rcases hi with rfl | rfl | hi
    · left; simp
    · left; simp
    · rcases h.own with e | ⟨g, e, hg⟩
      · left; rw [e] at hi; simp [hi]
      · right; rw [e] at hi; cases hi; exact hg
  · rcases k.own with e | ⟨g, e, hg⟩
    · rcases h.own with e' | ⟨g', e', hg'⟩
      · exact Or.inl (e.trans e')
      · exact Or.inr ⟨g', e.trans e', hg'⟩
    · exact Or.inr ⟨g, e, Nat.le_trans h.fr.size hg⟩
theorem Mc.keepM {w w' : World} {M S : Nat} {sl sl' : Value} {acc : Int} {rs rs' : List Code} (h : Mc w M S sl acc rs) (m : Mv w w' S sl sl') (hs : St w' S sl' rs') : Mc w' M S sl' acc rs' := by
  obtain ⟨us, h1, h2⟩ := h.st
  exact ⟨h1.keepc m h.obj (by simp) (by simp), hs, h.a64⟩
theorem Mc.keep0 {w w' : World} {M S : Nat} {sl : Value} {acc : Int} {rs : List Code} (h : Mc w M S sl acc rs) (hf : Fr [] w w') : Mc w' M S sl acc rs := ⟨hf.keep h.obj (by simp), h.st.keep0 hf, h.a64⟩


theorem St.setM {w : World} {M S : Nat} {sl : Value} {rs : List Code} {c : Array Value} (h : St w S sl rs) (hM : w.heap[M]? = some (.cells c 43)) (i : Nat) (v : Value) : St (w.setCell ⟨M, i, none⟩ v) S sl rs := by
  obtain ⟨us, h1, h2⟩ := h
  have FS : Fr [M] w (w.setCell ⟨M, i, none⟩ v) := Fr.setCell (Fr.refl _ _) (Or.inl (by simp)) _
  refine ⟨us, h1.keep FS ?_ ?_, h2.kept (FS.kc ?_)⟩
  · intro hm
    simp at hm
    subst hm
    rw [h1.obj] at hM; simp at hM
  · intro k hk hm
    simp at hm
    subst hm
    obtain ⟨cur, hc⟩ := owns_block h1.row hk
    rw [hc] at hM; simp at hM
  · intro b hb c' t hc'
    simp at hb
    subst hb
    rw [hM] at hc'
    simp at hc'
    rw [← hc'.2]; simp
theorem Mc.setAcc {w : World} {M S : Nat} {sl : Value} {acc : Int} {rs : List Code} (h : Mc w M S sl acc rs) {n : Int} (hn : w64 n) : Mc (w.setCell ⟨M, 1, none⟩ (.int .i64 n)) M S sl n rs := by
  refine ⟨?_, h.st.setM h.obj 1 _, hn⟩
  have := blk_set h.obj 1 (.int .i64 n)
  simpa [mch] using this
theorem Mw.setM (w : World) (M S : Nat) (sl : Value) (i : Nat) (v : Value) : Mw w (w.setCell ⟨M, i, none⟩ v) M S sl sl := ⟨Fr.setCell (Fr.refl _ _) (Or.inl (by simp)) _, Or.inl rfl⟩

/-- What a word of the machine leaves: the error, the accumulator, the stack. -/
def MOut (w : World) (M S : Nat) (sl : Value) (n acc : Int) (rs : List Code) (w' : World) : Prop := ∃ sl', Mc w' M S sl' acc rs ∧ Mw w w' M S sl sl'
theorem MOut.of {w w' : World} {M S : Nat} {sl sl' : Value} {n acc : Int} {rs rs' : List Code} (h : Mc w M S sl acc rs) (hs : St w' S sl' rs') (m : Mv w w' S sl sl') : MOut w M S sl n acc rs' w' := ⟨sl', h.keepM m hs, Mw.ofMv m⟩

def setP (acc : Int) (rs : List Code) : Int × Int × List Code := if (topI rs).2 = 0 then ((dropW rs).1, (topI rs).1, (dropW rs).2) else ((topI rs).2, acc, rs)
def divP (acc : Int) (rs : List Code) : Int × Int × List Code := if (topI rs).2 = 0 then (if (topI rs).1 = 0 then (10, acc, rs) else ((dropW rs).1, wrap64 (acc.tdiv (topI rs).1), (dropW rs).2)) else ((topI rs).2, acc, rs)
def modP (acc : Int) (rs : List Code) : Int × Int × List Code := if (topI rs).2 = 0 then (if (topI rs).1 = 0 then (10, acc, rs) else ((dropW rs).1, acc.tmod (topI rs).1, (dropW rs).2)) else ((topI rs).2, acc, rs)

theorem topI_w64 {w : World} {S : Nat} {sl : Value} {rs : List Code} (h : St w S sl rs) : w64 (topI rs).1 := by
  obtain ⟨us, h1, h2⟩ := h
  cases rs with
  | nil => show w64 0; unfold w64; omega
  | cons t ts =>
    obtain ⟨u, us', rfl, h3, h4⟩ := h2.cons
    simp only [topI]
    cases hi : isI t with
    | none => unfold w64; simp
    | some n => exact (bare_int h3 hi).2

set_option maxHeartbeats 1600000 in
set_option maxRecDepth 100000 in
theorem mset_any {w : World} {M S : Nat} {sl : Value} {acc : Int} {rs : List Code} (h : Mc w M S sl acc rs) (hw : Wf rs) :
    Calls Try.prog 66 #[.pointer (some ⟨M, 0, none⟩)] w fun e w' => e = .returned (.int .i64 (setP acc rs).1) ∧ MOut w M S sl (setP acc rs).1 (setP acc rs).2.1 (setP acc rs).2.2 w' := by
  have H : Hid (Mc w M S sl acc rs) := h
  have HW : Hid (Wf rs) := hw
  have c0 := blk_cell h.obj 0
  simp [mch] at c0
  have HT : Hid (w64 (topI rs).1) := topI_w64 h.st
  clear h hw
  by_cases h0 : (topI rs).2 = 0
  · have e : setP acc rs = ((dropW rs).1, (topI rs).1, (dropW rs).2) := by unfold setP; rw [if_pos h0]
    rw [e]
    have H0 : Hid ((topI rs).2 = 0) := h0
    clear h0 e
    go_enter Try.func66, Try.ntmps66
    go_wp2_with (first | (go_at_call 78; refine (topint_any H.out.st HW.out).mono ?_; rintro e w1 ⟨rfl, hf1⟩; rw [H0.out]; have hM1 := H.out.keep0 hf1; have c1 := blk_cell hM1.obj 0; have c2 := blk_cell hM1.obj 1; have f2 := blk_frozen hM1.obj 1; simp [mch] at c1 c2; have HM1 : Hid _ := hM1; clear hM1) | (go_at_call 49; refine (drop_any (HM1.out.setAcc HT.out).st HW.out).mono ?_; rintro e w2 ⟨rfl, sl2, h2, m2⟩))
    go_ret
    exact ⟨rfl, sl2, (HM1.out.setAcc HT.out).keepM m2 h2, ((Mw.ofFr hf1).trans (Mw.setM _ _ _ _ _ _)).trans (Mw.ofMv m2)⟩
  · have e : setP acc rs = ((topI rs).2, acc, rs) := by unfold setP; rw [if_neg h0]
    rw [e]
    have hne : ((topI rs).2 != 0) = true := by simpa using h0
    clear h0 e
    go_enter Try.func66, Try.ntmps66
    go_wp2_with (first | (go_at_call 78; refine (topint_any H.out.st HW.out).mono ?_; rintro e w1 ⟨rfl, hf1⟩))
    go_ret
    exact ⟨rfl, sl, H.out.keep0 hf1, Mw.ofFr hf1⟩

set_option maxHeartbeats 1600000 in
set_option maxRecDepth 100000 in
theorem mget_any {w : World} {M S : Nat} {sl : Value} {acc : Int} {rs : List Code} (h : Mc w M S sl acc rs) (hw : Wf rs) :
    Calls Try.prog 67 #[.pointer (some ⟨M, 0, none⟩)] w fun e w' => e = .returned (.int .i64 (pushW (tI acc) rs).1) ∧ MOut w M S sl (pushW (tI acc) rs).1 acc (pushW (tI acc) rs).2 w' := by
  have H : Hid (Mc w M S sl acc rs) := h
  have HW : Hid (Wf rs) := hw
  have c0 := blk_cell h.obj 0
  have c1 := blk_cell h.obj 1
  simp [mch] at c0 c1
  clear h hw
  go_enter Try.func67, Try.ntmps67
  go_wp2
  go_region_with (go_at_call 53; refine (push_any (H.out.st.keep0 ((Fr.refl [] _).drew)) HW.out (tI acc) _ (Sh.tI H.out.a64) 1 acc ⟨#[]⟩ (Nat.zero_le _) (Or.inl ⟨rfl, rfl⟩)).mono ?_; rintro e w2 ⟨rfl, sl2, h2, m2⟩)
  all_goals
    go_wp2
    go_ret
    exact ⟨rfl, sl2, H.out.keepM (Mv.frl ((Fr.refl [] _).drew) m2) h2, Mw.ofMv (Mv.frl ((Fr.refl [] _).drew) m2)⟩

theorem tmod_w64 {a d : Int} (h : w64 a) : w64 (a.tmod d) := by
  unfold w64 at *
  have h1 := Int.natAbs_tmod a d
  have h2 := Nat.mod_le a.natAbs d.natAbs
  by_cases h0 : 0 ≤ a
  · have := Int.tmod_nonneg d h0
    omega
  · have h3 := Int.tmod_nonneg d (show 0 ≤ -a by omega)
    rw [Int.neg_tmod] at h3
    omega

set_option maxHeartbeats 3200000 in
set_option maxRecDepth 100000 in
theorem mdiv_any {w : World} {M S : Nat} {sl : Value} {acc : Int} {rs : List Code} (h : Mc w M S sl acc rs) (hw : Wf rs) :
    Calls Try.prog 68 #[.pointer (some ⟨M, 0, none⟩)] w fun e w' => e = .returned (.int .i64 (divP acc rs).1) ∧ MOut w M S sl (divP acc rs).1 (divP acc rs).2.1 (divP acc rs).2.2 w' := by
  have H : Hid (Mc w M S sl acc rs) := h
  have HW : Hid (Wf rs) := hw
  have c0 := blk_cell h.obj 0
  simp [mch] at c0
  clear h hw
  by_cases h0 : (topI rs).2 = 0
  · have H0 : Hid ((topI rs).2 = 0) := h0
    by_cases hd : (topI rs).1 = 0
    · have e : divP acc rs = (10, acc, rs) := by unfold divP; rw [if_pos h0, if_pos hd]
      rw [e]
      have HD : Hid ((topI rs).1 = 0) := hd
      clear h0 e hd
      go_enter Try.func68, Try.ntmps68
      go_wp2_with (go_at_call 78; refine (topint_any H.out.st HW.out).mono ?_; rintro e w1 ⟨rfl, hf1⟩; rw [H0.out, HD.out])
      go_ret
      exact ⟨rfl, sl, H.out.keep0 hf1, Mw.ofFr hf1⟩
    · have e : divP acc rs = ((dropW rs).1, wrap64 (acc.tdiv (topI rs).1), (dropW rs).2) := by unfold divP; rw [if_pos h0, if_neg hd]
      rw [e]
      have hd1 : ((topI rs).1 == 0) = false := by simpa using hd
      clear h0 e
      go_enter Try.func68, Try.ntmps68
      go_wp2_with (first | (go_at_call 78; refine (topint_any H.out.st HW.out).mono ?_; rintro e w1 ⟨rfl, hf1⟩; rw [H0.out]; have hM1 := H.out.keep0 hf1; have c1 := blk_cell hM1.obj 0; have c2 := blk_cell hM1.obj 1; have f2 := blk_frozen hM1.obj 1; simp [mch] at c1 c2; have HM1 : Hid _ := hM1; clear hM1) | (go_at_call 49; refine (drop_any (HM1.out.setAcc (w_out _)).st HW.out).mono ?_; rintro e w2 ⟨rfl, sl2, h2, m2⟩))
      go_ret
      exact ⟨rfl, sl2, (HM1.out.setAcc (w_out _)).keepM m2 h2, ((Mw.ofFr hf1).trans (Mw.setM _ _ _ _ _ _)).trans (Mw.ofMv m2)⟩
  · have e : divP acc rs = ((topI rs).2, acc, rs) := by unfold divP; rw [if_neg h0]
    rw [e]
    have hne : ((topI rs).2 != 0) = true := by simpa using h0
    clear h0 e
    go_enter Try.func68, Try.ntmps68
    go_wp2_with (first | (go_at_call 78; refine (topint_any H.out.st HW.out).mono ?_; rintro e w1 ⟨rfl, hf1⟩))
    go_ret
    exact ⟨rfl, sl, H.out.keep0 hf1, Mw.ofFr hf1⟩

set_option maxHeartbeats 3200000 in
set_option maxRecDepth 100000 in
theorem mmod_any {w : World} {M S : Nat} {sl : Value} {acc : Int} {rs : List Code} (h : Mc w M S sl acc rs) (hw : Wf rs) :
    Calls Try.prog 69 #[.pointer (some ⟨M, 0, none⟩)] w fun e w' => e = .returned (.int .i64 (modP acc rs).1) ∧ MOut w M S sl (modP acc rs).1 (modP acc rs).2.1 (modP acc rs).2.2 w' := by
  have H : Hid (Mc w M S sl acc rs) := h
  have HW : Hid (Wf rs) := hw
  have c0 := blk_cell h.obj 0
  simp [mch] at c0
  clear h hw
  by_cases h0 : (topI rs).2 = 0
  · have H0 : Hid ((topI rs).2 = 0) := h0
    by_cases hd : (topI rs).1 = 0
    · have e : modP acc rs = (10, acc, rs) := by unfold modP; rw [if_pos h0, if_pos hd]
      rw [e]
      have HD : Hid ((topI rs).1 = 0) := hd
      clear h0 e hd
      go_enter Try.func69, Try.ntmps69
      go_wp2_with (go_at_call 78; refine (topint_any H.out.st HW.out).mono ?_; rintro e w1 ⟨rfl, hf1⟩; rw [H0.out, HD.out])
      go_ret
      exact ⟨rfl, sl, H.out.keep0 hf1, Mw.ofFr hf1⟩
    · have e : modP acc rs = ((dropW rs).1, acc.tmod (topI rs).1, (dropW rs).2) := by unfold modP; rw [if_pos h0, if_neg hd]
      rw [e]
      have hd1 : ((topI rs).1 == 0) = false := by simpa using hd
      have HTM : Hid (w64 (acc.tmod (topI rs).1)) := tmod_w64 H.out.a64
      clear h0 e
      go_enter Try.func69, Try.ntmps69
      go_wp2_with (first | (go_at_call 78; refine (topint_any H.out.st HW.out).mono ?_; rintro e w1 ⟨rfl, hf1⟩; rw [H0.out]; have hM1 := H.out.keep0 hf1; have c1 := blk_cell hM1.obj 0; have c2 := blk_cell hM1.obj 1; have f2 := blk_frozen hM1.obj 1; simp [mch] at c1 c2; have HM1 : Hid _ := hM1; clear hM1) | (go_at_call 49; refine (drop_any (HM1.out.setAcc HTM.out).st HW.out).mono ?_; rintro e w2 ⟨rfl, sl2, h2, m2⟩))
      go_ret
      exact ⟨rfl, sl2, (HM1.out.setAcc HTM.out).keepM m2 h2, ((Mw.ofFr hf1).trans (Mw.setM _ _ _ _ _ _)).trans (Mw.ofMv m2)⟩
  · have e : modP acc rs = ((topI rs).2, acc, rs) := by unfold modP; rw [if_neg h0]
    rw [e]
    have hne : ((topI rs).2 != 0) = true := by simpa using h0
    clear h0 e
    go_enter Try.func69, Try.ntmps69
    go_wp2_with (first | (go_at_call 78; refine (topint_any H.out.st HW.out).mono ?_; rintro e w1 ⟨rfl, hf1⟩))
    go_ret
    exact ⟨rfl, sl, H.out.keep0 hf1, Mw.ofFr hf1⟩
end Go.Proofs.Qxb6500336a
