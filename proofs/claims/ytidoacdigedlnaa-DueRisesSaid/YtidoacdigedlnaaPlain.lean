/- Plain: when something is due. -/
import Derived.Test.YtidoacdigedlnaaNextB
set_option linter.unusedVariables false
set_option linter.unusedSimpArgs false
namespace Go.Proofs.Ytidoacdigedlnaa

theorem lateL_pos (t : Int) (l : List TM) : 0 < (lateL t l).length ↔ ∃ y ∈ l, y.due ≤ t := by
  unfold lateL
  rw [ins_len, List.length_pos_iff_exists_mem]
  constructor
  · rintro ⟨y, hy⟩
    rw [List.mem_filter] at hy
    refine ⟨y, hy.1, ?_⟩
    have h2 := hy.2
    simp at h2
    omega
  · rintro ⟨y, hy, hd⟩
    exact ⟨y, List.mem_filter.2 ⟨hy, by simp; omega⟩⟩
theorem time_le (x : ST) (now : Int) : x.time ≤ timeF x now := by unfold timeF; omega
theorem mem_due (x : ST) (t : Int) : (∃ d ∈ dueL x, d ≤ t) ↔ ((0 < x.deadline ∧ x.deadline ≤ t) ∨ (x.task.state = 2 ∧ x.task.due ≤ t) ∨ (x.task.state = 0 ∧ x.fresh = true ∧ x.time ≤ t) ∨ ∃ y ∈ x.timers, y.due ≤ t) := by
  unfold dueL
  constructor
  · rintro ⟨d, hd, hdt⟩
    rcases List.mem_append.1 hd with hd | hd
    · by_cases h0 : 0 < x.deadline
      · rw [if_pos (decide_eq_true h0)] at hd
        rw [List.mem_singleton.1 hd] at hdt
        exact Or.inl ⟨h0, hdt⟩
      · rw [if_neg (by simpa using h0)] at hd
        cases hd
    rcases List.mem_append.1 hd with hd | hd
    · by_cases h2 : x.task.state = 2
      · rw [if_pos (by simpa using h2)] at hd
        rw [List.mem_singleton.1 hd] at hdt
        exact Or.inr (Or.inl ⟨h2, hdt⟩)
      · rw [if_neg (by simpa using h2)] at hd
        by_cases h0 : x.task.state = 0 ∧ x.fresh = true
        · rw [if_pos ⟨by simpa using h0.1, h0.2⟩] at hd
          rw [List.mem_singleton.1 hd] at hdt
          exact Or.inr (Or.inr (Or.inl ⟨h0.1, h0.2, hdt⟩))
        · rw [if_neg (by simpa using h0)] at hd
          cases hd
    · obtain ⟨y, hy, rfl⟩ := List.mem_map.1 hd
      exact Or.inr (Or.inr (Or.inr ⟨y, hy, hdt⟩))
  · rintro (⟨h1, h2⟩ | ⟨h1, h2⟩ | ⟨h1, h2, h3⟩ | ⟨y, hy, h⟩)
    · exact ⟨x.deadline, List.mem_append_left _ (by rw [if_pos (decide_eq_true h1)]; simp), h2⟩
    · exact ⟨x.task.due, List.mem_append_right _ (List.mem_append_left _ (by rw [if_pos (by simpa using h1)]; simp)), h2⟩
    · refine ⟨x.time, List.mem_append_right _ (List.mem_append_left _ ?_), h3⟩
      rw [if_neg (by rw [h1]; decide), if_pos ⟨by rw [h1]; rfl, h2⟩]; simp
    · exact ⟨y.due, List.mem_append_right _ (List.mem_append_right _ (List.mem_map_of_mem hy)), h⟩
theorem at_pos (x : ST) (now : Int) (L : List ET) (h : AtR x now L) : 0 < L.length ↔ (x.status == 1) = true ∧ ∃ d ∈ dueL x, d ≤ timeF x now := by
  unfold AtR at h
  by_cases hst : (x.status == 1) = true
  · rw [if_pos hst] at h
    rw [mem_due]
    have htl := time_le x now
    generalize timeF x now = t at *
    by_cases hov : overB x t = true
    · rw [if_pos hov] at h
      rw [h]
      have ho : 0 < x.deadline ∧ x.deadline ≤ t := by unfold overB at hov; simpa using hov
      exact ⟨fun _ => ⟨hst, Or.inl ho⟩, fun _ => by simp⟩
    · rw [if_neg hov] at h
      have ho : ¬ (0 < x.deadline ∧ x.deadline ≤ t) := by
        intro hh; apply hov; unfold overB; simp [hh.1, hh.2]
      obtain ⟨A, hA, rfl⟩ := h
      unfold LostR at hA
      by_cases hlo : lostB x t = true
      · rw [if_pos hlo] at hA
        obtain ⟨wait, _, _, rfl⟩ := hA
        have hl : x.task.state = 2 ∧ x.task.due ≤ t := by unfold lostB at hlo; simpa using hlo
        exact ⟨fun _ => ⟨hst, Or.inr (Or.inl hl)⟩, fun _ => by simp⟩
      · rw [if_neg hlo] at hA
        subst hA
        have hl : ¬ (x.task.state = 2 ∧ x.task.due ≤ t) := by
          intro hh; apply hlo; unfold lostB; simp [hh.1, hh.2]
        have hp := lateL_pos t x.timers
        rw [List.nil_append, List.length_append, List.length_map]
        by_cases hk : 0 < (lateL t x.timers).length
        · exact ⟨fun _ => ⟨hst, Or.inr (Or.inr (Or.inr (hp.1 hk)))⟩, fun _ => by omega⟩
        · have hk0 : (lateL t x.timers).length = 0 := by omega
          have hno : ¬ ∃ y ∈ x.timers, y.due ≤ t := fun hh => hk (hp.2 hh)
          rw [hk0]
          by_cases hf : x.task.state = 0 ∧ x.fresh = true
          · rw [if_pos (by simp [hf.1, hf.2])]
            exact ⟨fun _ => ⟨hst, Or.inr (Or.inr (Or.inl ⟨hf.1, hf.2, htl⟩))⟩, fun _ => by simp⟩
          · rw [if_neg (by simpa using hf)]
            constructor
            · intro hh; simp at hh
            · rintro ⟨_, hh | hh | ⟨h1, h2, _⟩ | hh⟩
              · exact absurd hh ho
              · exact absurd hh hl
              · exact absurd ⟨h1, h2⟩ hf
              · exact absurd hh hno
  · rw [if_neg hst] at h
    rw [h]
    exact ⟨fun hh => by simp at hh, fun hh => absurd hh.1 hst⟩
theorem next_pos (x : ST) (now : Int) : ((nextF x).2 && decide ((nextF x).1 ≤ timeF x now)) = true ↔ (x.status == 1) = true ∧ ∃ d ∈ dueL x, d ≤ timeF x now := by
  unfold nextF
  have htl := time_le x now
  by_cases hst : (x.status == 1) = true
  · rw [if_pos hst]
    by_cases hd : dueL x = []
    · rw [if_pos hd, hd]
      simp
    · rw [if_neg hd]
      have hm := minL_le (dueL x) (timeF x now) hd
      simp only [Bool.true_and, decide_eq_true_eq]
      constructor
      · intro hh; exact ⟨hst, hm.1 (by omega)⟩
      · rintro ⟨_, hh⟩
        have := hm.2 hh
        omega
  · rw [if_neg hst]
    simp [hst]
theorem law_next (x : ST) (now : Int) (L : List ET) (h : AtR x now L) : decide ((0 : Int) < (L.length : Int)) = ((nextF x).2 && decide ((nextF x).1 ≤ timeF x now)) := by
  have h1 := at_pos x now L h
  have h2 := next_pos x now
  rw [Bool.eq_iff_iff, h2, ← h1]
  simp
theorem time_mono (x : ST) (a b : Int) (h : a ≤ b) : timeF x a ≤ timeF x b := by unfold timeF; omega
theorem law_rises (x : ST) (a b : Int) (h : a ≤ b) (L M : List ET) (hL : AtR x a L) (hM : AtR x b M) (h0 : L.length ≠ 0) : 0 < M.length := by
  obtain ⟨h1, d, h2, h3⟩ := (at_pos x a L hL).1 (by omega)
  have := time_mono x a b h
  exact (at_pos x b M hM).2 ⟨h1, d, h2, by omega⟩
end Go.Proofs.Ytidoacdigedlnaa
