import Derived.Test.Qxb6500336aW11
namespace Go.Proofs.Qxb6500336a
open Go.RowKit
set_option linter.unusedVariables false
set_option linter.unusedSimpArgs false

theorem addi_any {w : World} {n : Int} {b : Code} {vb : Value} (hb : Sh w b vb) :
    Calls Try.prog 124 #[.int .i64 n, vb] w fun e w' => ∃ rv, e = .returned (.tuple #[rv, .int .i64 (match isI b with | some m => 0 | none => 6)]) ∧ Fr [] w w' ∧ (∀ m, isI b = some m → Sh w' (tI (wrap64 (n + m))) rv) := by
  have n2 := as84_84
  have n3 := as99_84
  have n4 := as75_84
  have n5 := as92_84
  rcases hb.kinds with ⟨m, e1, e2, e3, e4, rfl, hm⟩ | ⟨s, e1, e2, e3, e4, rfl, e5⟩ | ⟨k, e1, e2, e3, e4, rfl⟩ | ⟨c, x, y, B, av, bv, rfl, rfl, hB, _⟩
  · simp only [e1]
    go_enter Try.func124, Try.ntmps124
    go_wp2
    go_ret2
    refine ⟨_, rfl, Fr.refl _ _, fun m' h => ?_⟩
    cases h
    exact Sh.tI (w_out _)
  · simp only [e1]
    go_enter Try.func124, Try.ntmps124
    go_wp2
    go_ret2
    exact ⟨_, rfl, Fr.refl _ _, fun m' h => by cases h⟩
  · simp only [e1]
    go_enter Try.func124, Try.ntmps124
    go_wp2
    go_ret2
    exact ⟨_, rfl, Fr.refl _ _, fun m' h => by cases h⟩
  · simp only [isI]
    go_enter Try.func124, Try.ntmps124
    go_wp2
    go_ret2
    exact ⟨_, rfl, Fr.refl _ _, fun m' h => by cases h⟩

theorem adds_any {w : World} {s : ByteArray} {b : Code} {vb : Value} (hb : Sh w b vb) (hs : s.size ≤ 1000) (hz : (tx false b).size ≤ 1000) :
    Calls Try.prog 132 #[.string s, vb] w fun e w' => ∃ rv, e = .returned (.tuple #[rv, .int .i64 (match isS b with | some m => 0 | none => 6)]) ∧ Fr [] w w' ∧ (∀ m, isS b = some m → Sh w' (tS (s ++ m)) rv) := by
  have n2 := as84_99
  have n3 := as99_99
  have n4 := as75_99
  have n5 := as92_99
  rcases hb.kinds with ⟨m, e1, e2, e3, e4, rfl, hm⟩ | ⟨r, e1, e2, e3, e4, rfl, e5⟩ | ⟨k, e1, e2, e3, e4, rfl⟩ | ⟨c, x, y, B, av, bv, rfl, rfl, hB, _⟩
  · simp only [e2]
    go_enter Try.func132, Try.ntmps132
    go_wp2
    go_ret2
    exact ⟨_, rfl, Fr.refl _ _, fun m' h => by cases h⟩
  · simp only [e2]
    have hr : ¬ 9223372036854775807 < s.size + r.size := by
      rw [e5] at hz
      simp only [ByteArray.size_append] at hz
      omega
    go_enter Try.func132, Try.ntmps132
    go_wp2
    go_ret2
    refine ⟨_, rfl, Fr.refl _ _, fun m' h => ?_⟩
    cases h
    exact Sh.tS _
  · simp only [e2]
    go_enter Try.func132, Try.ntmps132
    go_wp2
    go_ret2
    exact ⟨_, rfl, Fr.refl _ _, fun m' h => by cases h⟩
  · simp only [isS]
    go_enter Try.func132, Try.ntmps132
    go_wp2
    go_ret2
    exact ⟨_, rfl, Fr.refl _ _, fun m' h => by cases h⟩

theorem addl_mix {w : World} {k : Option Nat} {b : Code} {vb : Value} (hb : Sh w b vb) (hl : isL b = false) :
    Calls Try.prog 119 #[ptrO k, vb] w fun e w' => ∃ rv, e = .returned (.tuple #[rv, .int .i64 6]) ∧ Fr [] w w' := by
  have n2 := as84_75
  have n3 := as99_75
  have n5 := as92_75
  generalize ptrO k = pk
  rcases hb.kinds with ⟨m, e1, e2, e3, e4, rfl, hm⟩ | ⟨s, e1, e2, e3, e4, rfl, e5⟩ | ⟨k, e1, e2, e3, e4, rfl⟩ | ⟨c, x, y, B, av, bv, rfl, rfl, hB, _⟩
  · go_enter Try.func119, Try.ntmps119
    go_wp2
    go_ret2
    exact ⟨_, rfl, Fr.refl _ _⟩
  · go_enter Try.func119, Try.ntmps119
    go_wp2
    go_ret2
    exact ⟨_, rfl, Fr.refl _ _⟩
  · rw [hl] at e3; cases e3
  · go_enter Try.func119, Try.ntmps119
    go_wp2
    go_ret2
    exact ⟨_, rfl, Fr.refl _ _⟩

/-- The sum's text is not great. -/
theorem appT_size (a b : Code) (ha : isL a = true) (hb : isL b = true) : ∀ m, (tx m (appT a b)).size ≤ (tx m a).size + (tx m b).size + (tx true b).size := by
  induction a with
  | skip => intro m; show (tx m b).size ≤ _; omega
  | seq x y _ ihy =>
    intro m
    show (tx m (.seq x (appT y b))).size ≤ _
    rw [seq_size, seq_size]
    by_cases hy : isL y = true
    · have := ihy hy true
      have := tt_le b hb
      cases m <;> simp <;> omega
    · have e : appT y b = b := by
        cases y <;> first | rfl | simp [isL] at hy
      rw [e]
      have := tt_le b hb
      cases m <;> simp <;> omega
  | _ => simp [isL] at ha

/-- The method Add, whatever the value that can add. -/
theorem addm_any {w : World} {a b : Code} {va vb : Value} (ha : Sh w a va) (hb : Sh w b vb) (hza : (tx false a).size ≤ 30) (hzb : (tx false b).size ≤ 30) :
    ((∃ c x y, a = .cond c x y) ∧ (addT a b).1 = 5) ∨
    ((∃ f r, (∀ W, (callMethod va "Add" #[vb]).run Try.prog W = .ok (.enter f #[r, vb]) W) ∧
      Calls Try.prog f #[r, vb] w (fun e w' => ∃ rv, e = .returned (.tuple #[rv, .int .i64 (addT a b).1]) ∧ Fr [] w w' ∧ ((addT a b).1 = 0 → Sh w' (addT a b).2 rv))) ∧
     (∀ W, (Instr.typeAssert va 65 107 true).run Try.prog W = .ok (.tuple #[va, .bool true]) W) ∧ (∀ W, (Instr.typeAssert va 65 107 false).run Try.prog W = .ok va W) ∧ (addT a b).1 ≠ 5 ∧ (tx false (addT a b).2).size ≤ 1000) := by
  rcases ha.kinds with ⟨n, e1, e2, e3, e4, rfl, hn⟩ | ⟨s, e1, e2, e3, e4, rfl, e5⟩ | ⟨k, e1, e2, e3, e4, rfl⟩ | ⟨c, x, y, B, av, bv, rfl, rfl, hB, _⟩
  · right
    refine ⟨⟨124, _, cmAdd84 _ _, ?_⟩, as84_107 _, bs84_107 _, ?_, ?_⟩
    · refine (addi_any hb).mono ?_
      rintro e w' ⟨rv, rfl, hf, hm⟩
      cases hi : isI b with
      | none => exact ⟨rv, by simp [addT, e1, hi], hf, by simp [addT, e1, hi]⟩
      | some m => exact ⟨rv, by simp [addT, e1, hi], hf, by simp only [addT, e1, hi]; exact fun _ => hm m hi⟩
    · cases hi : isI b <;> simp [addT, e1, hi]
    · cases hi : isI b with
      | none => simp only [addT, e1, hi]; show (2 : Nat) ≤ 1000; omega
      | some m => simp only [addT, e1, hi]; have := tI_size (wrap64 (n + m)); omega
  · right
    have hs : s.size ≤ 30 := by
      rw [e5] at hza
      simp only [ByteArray.size_append] at hza
      omega
    refine ⟨⟨132, _, cmAdd99 _ _, ?_⟩, as99_107 _, bs99_107 _, ?_, ?_⟩
    · refine (adds_any hb (by omega) (by omega)).mono ?_
      rintro e w' ⟨rv, rfl, hf, hm⟩
      cases hi : isS b with
      | none => exact ⟨rv, by simp [addT, e1, e2, hi], hf, by simp [addT, e1, e2, hi]⟩
      | some m => exact ⟨rv, by simp [addT, e1, e2, hi], hf, by simp only [addT, e1, e2, hi]; exact fun _ => hm m hi⟩
    · cases hi : isS b <;> simp [addT, e1, e2, hi]
    · cases hi : isS b with
      | none => simp only [addT, e1, e2, hi]; show (2 : Nat) ≤ 1000; omega
      | some m =>
        simp only [addT, e1, e2, hi]
        show ((itoa ((s ++ m).size : Nat) ++ ⟨#[58]⟩) ++ (s ++ m)).size ≤ 1000
        have h1 := itoa_size ((s ++ m).size : Nat)
        have h2 : m.size ≤ 30 := by
          rcases hb.kinds with ⟨_, _, f2, _⟩ | ⟨r, f1, f2, f3, f4, _, f5⟩ | ⟨k, f1, f2, _⟩ | ⟨c, x, y, B, av, bv, rfl, _⟩
          · rw [hi] at f2; cases f2
          · rw [hi] at f2; cases f2
            rw [f5] at hzb
            simp only [ByteArray.size_append] at hzb
            omega
          · rw [hi] at f2; cases f2
          · cases hi
        have h3 : ByteArray.size ⟨#[58]⟩ = 1 := rfl
        simp only [ByteArray.size_append] at *
        omega
  · right
    obtain ⟨bs, vs, rfl, hlc, hks⟩ := ha.cells
    have hlen : vs.length ≤ 1000 := by
      have h1 := hks.len
      have h2 := kids_len a false
      omega
    cases hi : isL b with
    | false =>
      have e0 : addT a b = (6, .skip) := by simp [addT, e1, e2, e3, hi]
      refine ⟨⟨119, _, cmAdd75 _ _, ?_⟩, as75_107 _, bs75_107 _, ?_, ?_⟩
      · refine (addl_mix hb hi).mono ?_
        rintro e w' ⟨rv, rfl, hf⟩
        exact ⟨rv, by rw [e0], hf, by rw [e0]; simp⟩
      · rw [e0]; simp
      · rw [e0]; show (2 : Nat) ≤ 1000; omega
    | true =>
      have e0 : addT a b = (0, appT a b) := by simp [addT, e1, e2, e3, hi]
      refine ⟨⟨119, _, cmAdd75 _ _, ?_⟩, as75_107 _, bs75_107 _, ?_, ?_⟩
      · rcases hb.kinds with ⟨_, _, _, f3, _⟩ | ⟨_, _, _, f3, _⟩ | ⟨kb, _, _, _, _, rfl⟩ | ⟨c, x, y, B, av, bv, rfl, _⟩
        · rw [hi] at f3; cases f3
        · rw [hi] at f3; cases f3
        · refine (add_list hlc hks hb hlen).mono ?_
          rintro e w' ⟨kr, rfl, hf, hsh⟩
          refine ⟨_, by rw [e0], hf, fun _ => ?_⟩
          rw [e0]
          show Sh w' (appT a b) _
          rw [appT_eq b ha]; exact hsh
        · simp [isL] at hi
      · rw [e0]; simp
      · rw [e0]
        have := appT_size a b e3 hi false
        have := tt_le b hi
        show (tx false (appT a b)).size ≤ 1000
        omega
  · left
    exact ⟨⟨c, x, y, rfl⟩, by simp [addT, isI, isS, isL]⟩
end Go.Proofs.Qxb6500336a
