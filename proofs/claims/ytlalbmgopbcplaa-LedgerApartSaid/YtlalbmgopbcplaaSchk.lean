/- Check, walked. -/
import Derived.Test.YtlalbmgopbcplaaSck
set_option maxRecDepth 16000
set_option linter.unusedVariables false
set_option linter.unusedSimpArgs false
namespace Go.Proofs.Ytlalbmgopbcplaa
open Go.RowKit Go.Maps
set_option maxHeartbeats 4000000 in
theorem check_any (kd : Int) (x y : ByteArray) (N : Int) (w : World) : Calls Try.prog 22 #[.agg #[.int .i64 kd, .string x, .string y, .int .i64 N]] w fun e w' => e = .returned (.int .i64 (chk ⟨kd, nmOf x, nmOf y, N⟩)) ∧ Turn Nope w w' := by
  obtain ⟨c, hc⟩ : ∃ c, chk ⟨kd, nmOf x, nmOf y, N⟩ = c := ⟨_, rfl⟩
  rw [hc]
  have HC := Lib.hid hc
  clear hc
  by_cases h1 : kd < 1
  · have e1 : decide (kd < 1) = true := by simp; omega
    have hv : c = 5 := by
      rw [← HC.out]
      unfold chk
      rw [if_pos (show kd < 1 ∨ 3 < kd by omega)]
    subst hv
    try clear h1
    try clear h2
    try clear h3
    try clear h4
    try clear h5
    try clear h6
    try clear h7
    clear HC
    go_enter Try.func22, Try.ntmps22
    go_wp2_with fail
    all_goals
      go_ret
      exact ⟨rfl, by repeat (first | exact Turn.refl _ _ | apply Turn.drewN | apply Turn.drew | apply Turn.alloc)⟩
  · have e1 : decide (kd < 1) = false := by simp; omega
    by_cases h2 : 3 < kd
    · have e2 : decide (3 < kd) = true := by simp; omega
      have hv : c = 5 := by
        rw [← HC.out]
        unfold chk
        rw [if_pos (show kd < 1 ∨ 3 < kd by omega)]
      subst hv
      try clear h1
      try clear h2
      try clear h3
      try clear h4
      try clear h5
      try clear h6
      try clear h7
      clear HC
      go_enter Try.func22, Try.ntmps22
      go_wp2_with fail
      all_goals
        go_ret
        exact ⟨rfl, by repeat (first | exact Turn.refl _ _ | apply Turn.drewN | apply Turn.drew | apply Turn.alloc)⟩
    · have e2 : decide (3 < kd) = false := by simp; omega
      by_cases h3 : 12 < x.size
      · have e3 : decide ((12 : Int) < (x.size : Int)) = true := by simp; omega
        have e4 : decide (12 < x.size) = true := by simp; omega
        have hv : c = 4 := by
          rw [← HC.out]
          unfold chk
          rw [if_neg (show ¬ (kd < 1 ∨ 3 < kd) by omega)]
          rw [if_pos (show 12 < (nmOf x).length ∨ 12 < (nmOf y).length by rw [nm_len, nm_len]; omega)]
        subst hv
        try clear h1
        try clear h2
        try clear h3
        try clear h4
        try clear h5
        try clear h6
        try clear h7
        clear HC
        go_enter Try.func22, Try.ntmps22
        go_wp2_with fail
        all_goals
          go_ret
          exact ⟨rfl, by repeat (first | exact Turn.refl _ _ | apply Turn.drewN | apply Turn.drew | apply Turn.alloc)⟩
      · have e3 : decide ((12 : Int) < (x.size : Int)) = false := by simp; omega
        have e4 : decide (12 < x.size) = false := by simp; omega
        by_cases h4 : 12 < y.size
        · have e5 : decide ((12 : Int) < (y.size : Int)) = true := by simp; omega
          have e6 : decide (12 < y.size) = true := by simp; omega
          have hv : c = 4 := by
            rw [← HC.out]
            unfold chk
            rw [if_neg (show ¬ (kd < 1 ∨ 3 < kd) by omega)]
            rw [if_pos (show 12 < (nmOf x).length ∨ 12 < (nmOf y).length by rw [nm_len, nm_len]; omega)]
          subst hv
          try clear h1
          try clear h2
          try clear h3
          try clear h4
          try clear h5
          try clear h6
          try clear h7
          clear HC
          go_enter Try.func22, Try.ntmps22
          go_wp2_with fail
          all_goals
            go_ret
            exact ⟨rfl, by repeat (first | exact Turn.refl _ _ | apply Turn.drewN | apply Turn.drew | apply Turn.alloc)⟩
        · have e5 : decide ((12 : Int) < (y.size : Int)) = false := by simp; omega
          have e6 : decide (12 < y.size) = false := by simp; omega
          obtain rfl | rfl | rfl : kd = 1 ∨ kd = 2 ∨ kd = 3 := by omega
          · have k3 : ((1 : Int) == 3) = false := by decide
            have k3n : ((1 : Int) != 3) = true := by decide
            by_cases h5 : nmOf x = []
            · have g1 : x.toList.isEmpty = true := by rw [tl, h5]; rfl
              have hv : c = 4 := by
                rw [← HC.out]
                unfold chk
                rw [if_neg (show ¬ ((1 : Int) < 1 ∨ 3 < (1 : Int)) by decide)]
                rw [if_neg (show ¬ (12 < (nmOf x).length ∨ 12 < (nmOf y).length) by rw [nm_len, nm_len]; omega)]
                rw [if_neg (show ¬ ((1 : Int) = 3 ∧ _) from fun e => by have := e.1; omega)]
                rw [if_pos (show (1 : Int) ≠ 3 ∧ (nmOf x = [] ∨ nmOf y ≠ [] ∨ N ≠ 0) from ⟨by decide, .inl h5⟩)]
              subst hv
              try clear h1
              try clear h2
              try clear h3
              try clear h4
              try clear h5
              try clear h6
              try clear h7
              clear HC
              go_enter Try.func22, Try.ntmps22
              go_wp2_with fail
              all_goals
                go_ret
                exact ⟨rfl, by repeat (first | exact Turn.refl _ _ | apply Turn.drewN | apply Turn.drew | apply Turn.alloc)⟩
            · have g1 : x.toList.isEmpty = false := by rw [tl, List.isEmpty_eq_false_iff]; exact h5
              by_cases h6 : nmOf y = []
              · have g2 : y.toList.isEmpty = true := by rw [tl, h6]; rfl
                by_cases h7 : N = 0
                · have g3 : (N != 0) = false := by simp [h7]
                  have hv : c = 0 := by
                    rw [← HC.out]
                    unfold chk
                    rw [if_neg (show ¬ ((1 : Int) < 1 ∨ 3 < (1 : Int)) by decide)]
                    rw [if_neg (show ¬ (12 < (nmOf x).length ∨ 12 < (nmOf y).length) by rw [nm_len, nm_len]; omega)]
                    rw [if_neg (show ¬ ((1 : Int) = 3 ∧ _) from fun e => by have := e.1; omega)]
                    rw [if_neg (show ¬ ((1 : Int) ≠ 3 ∧ (nmOf x = [] ∨ nmOf y ≠ [] ∨ N ≠ 0)) from fun e => by rcases e.2 with e | e | e; exact h5 e; exact e h6; exact e h7)]
                  subst hv
                  try clear h1
                  try clear h2
                  try clear h3
                  try clear h4
                  try clear h5
                  try clear h6
                  try clear h7
                  clear HC
                  go_enter Try.func22, Try.ntmps22
                  go_wp2_with fail
                  all_goals
                    go_ret
                    exact ⟨rfl, by repeat (first | exact Turn.refl _ _ | apply Turn.drewN | apply Turn.drew | apply Turn.alloc)⟩
                · have g3 : (N != 0) = true := by simpa using h7
                  have hv : c = 4 := by
                    rw [← HC.out]
                    unfold chk
                    rw [if_neg (show ¬ ((1 : Int) < 1 ∨ 3 < (1 : Int)) by decide)]
                    rw [if_neg (show ¬ (12 < (nmOf x).length ∨ 12 < (nmOf y).length) by rw [nm_len, nm_len]; omega)]
                    rw [if_neg (show ¬ ((1 : Int) = 3 ∧ _) from fun e => by have := e.1; omega)]
                    rw [if_pos (show (1 : Int) ≠ 3 ∧ (nmOf x = [] ∨ nmOf y ≠ [] ∨ N ≠ 0) from ⟨by decide, .inr (.inr h7)⟩)]
                  subst hv
                  try clear h1
                  try clear h2
                  try clear h3
                  try clear h4
                  try clear h5
                  try clear h6
                  try clear h7
                  clear HC
                  go_enter Try.func22, Try.ntmps22
                  go_wp2_with fail
                  all_goals
                    go_ret
                    exact ⟨rfl, by repeat (first | exact Turn.refl _ _ | apply Turn.drewN | apply Turn.drew | apply Turn.alloc)⟩
              · have g2 : y.toList.isEmpty = false := by rw [tl, List.isEmpty_eq_false_iff]; exact h6
                have hv : c = 4 := by
                  rw [← HC.out]
                  unfold chk
                  rw [if_neg (show ¬ ((1 : Int) < 1 ∨ 3 < (1 : Int)) by decide)]
                  rw [if_neg (show ¬ (12 < (nmOf x).length ∨ 12 < (nmOf y).length) by rw [nm_len, nm_len]; omega)]
                  rw [if_neg (show ¬ ((1 : Int) = 3 ∧ _) from fun e => by have := e.1; omega)]
                  rw [if_pos (show (1 : Int) ≠ 3 ∧ (nmOf x = [] ∨ nmOf y ≠ [] ∨ N ≠ 0) from ⟨by decide, .inr (.inl h6)⟩)]
                subst hv
                try clear h1
                try clear h2
                try clear h3
                try clear h4
                try clear h5
                try clear h6
                try clear h7
                clear HC
                go_enter Try.func22, Try.ntmps22
                go_wp2_with fail
                all_goals
                  go_ret
                  exact ⟨rfl, by repeat (first | exact Turn.refl _ _ | apply Turn.drewN | apply Turn.drew | apply Turn.alloc)⟩
          · have k3 : ((2 : Int) == 3) = false := by decide
            have k3n : ((2 : Int) != 3) = true := by decide
            by_cases h5 : nmOf x = []
            · have g1 : x.toList.isEmpty = true := by rw [tl, h5]; rfl
              have hv : c = 4 := by
                rw [← HC.out]
                unfold chk
                rw [if_neg (show ¬ ((2 : Int) < 1 ∨ 3 < (2 : Int)) by decide)]
                rw [if_neg (show ¬ (12 < (nmOf x).length ∨ 12 < (nmOf y).length) by rw [nm_len, nm_len]; omega)]
                rw [if_neg (show ¬ ((2 : Int) = 3 ∧ _) from fun e => by have := e.1; omega)]
                rw [if_pos (show (2 : Int) ≠ 3 ∧ (nmOf x = [] ∨ nmOf y ≠ [] ∨ N ≠ 0) from ⟨by decide, .inl h5⟩)]
              subst hv
              try clear h1
              try clear h2
              try clear h3
              try clear h4
              try clear h5
              try clear h6
              try clear h7
              clear HC
              go_enter Try.func22, Try.ntmps22
              go_wp2_with fail
              all_goals
                go_ret
                exact ⟨rfl, by repeat (first | exact Turn.refl _ _ | apply Turn.drewN | apply Turn.drew | apply Turn.alloc)⟩
            · have g1 : x.toList.isEmpty = false := by rw [tl, List.isEmpty_eq_false_iff]; exact h5
              by_cases h6 : nmOf y = []
              · have g2 : y.toList.isEmpty = true := by rw [tl, h6]; rfl
                by_cases h7 : N = 0
                · have g3 : (N != 0) = false := by simp [h7]
                  have hv : c = 0 := by
                    rw [← HC.out]
                    unfold chk
                    rw [if_neg (show ¬ ((2 : Int) < 1 ∨ 3 < (2 : Int)) by decide)]
                    rw [if_neg (show ¬ (12 < (nmOf x).length ∨ 12 < (nmOf y).length) by rw [nm_len, nm_len]; omega)]
                    rw [if_neg (show ¬ ((2 : Int) = 3 ∧ _) from fun e => by have := e.1; omega)]
                    rw [if_neg (show ¬ ((2 : Int) ≠ 3 ∧ (nmOf x = [] ∨ nmOf y ≠ [] ∨ N ≠ 0)) from fun e => by rcases e.2 with e | e | e; exact h5 e; exact e h6; exact e h7)]
                  subst hv
                  try clear h1
                  try clear h2
                  try clear h3
                  try clear h4
                  try clear h5
                  try clear h6
                  try clear h7
                  clear HC
                  go_enter Try.func22, Try.ntmps22
                  go_wp2_with fail
                  all_goals
                    go_ret
                    exact ⟨rfl, by repeat (first | exact Turn.refl _ _ | apply Turn.drewN | apply Turn.drew | apply Turn.alloc)⟩
                · have g3 : (N != 0) = true := by simpa using h7
                  have hv : c = 4 := by
                    rw [← HC.out]
                    unfold chk
                    rw [if_neg (show ¬ ((2 : Int) < 1 ∨ 3 < (2 : Int)) by decide)]
                    rw [if_neg (show ¬ (12 < (nmOf x).length ∨ 12 < (nmOf y).length) by rw [nm_len, nm_len]; omega)]
                    rw [if_neg (show ¬ ((2 : Int) = 3 ∧ _) from fun e => by have := e.1; omega)]
                    rw [if_pos (show (2 : Int) ≠ 3 ∧ (nmOf x = [] ∨ nmOf y ≠ [] ∨ N ≠ 0) from ⟨by decide, .inr (.inr h7)⟩)]
                  subst hv
                  try clear h1
                  try clear h2
                  try clear h3
                  try clear h4
                  try clear h5
                  try clear h6
                  try clear h7
                  clear HC
                  go_enter Try.func22, Try.ntmps22
                  go_wp2_with fail
                  all_goals
                    go_ret
                    exact ⟨rfl, by repeat (first | exact Turn.refl _ _ | apply Turn.drewN | apply Turn.drew | apply Turn.alloc)⟩
              · have g2 : y.toList.isEmpty = false := by rw [tl, List.isEmpty_eq_false_iff]; exact h6
                have hv : c = 4 := by
                  rw [← HC.out]
                  unfold chk
                  rw [if_neg (show ¬ ((2 : Int) < 1 ∨ 3 < (2 : Int)) by decide)]
                  rw [if_neg (show ¬ (12 < (nmOf x).length ∨ 12 < (nmOf y).length) by rw [nm_len, nm_len]; omega)]
                  rw [if_neg (show ¬ ((2 : Int) = 3 ∧ _) from fun e => by have := e.1; omega)]
                  rw [if_pos (show (2 : Int) ≠ 3 ∧ (nmOf x = [] ∨ nmOf y ≠ [] ∨ N ≠ 0) from ⟨by decide, .inr (.inl h6)⟩)]
                subst hv
                try clear h1
                try clear h2
                try clear h3
                try clear h4
                try clear h5
                try clear h6
                try clear h7
                clear HC
                go_enter Try.func22, Try.ntmps22
                go_wp2_with fail
                all_goals
                  go_ret
                  exact ⟨rfl, by repeat (first | exact Turn.refl _ _ | apply Turn.drewN | apply Turn.drew | apply Turn.alloc)⟩
          · have k3 : ((3 : Int) == 3) = true := by decide
            have k3n : ((3 : Int) != 3) = false := by decide
            by_cases h5 : nmOf x = nmOf y
            · have g1 : (x.toList == y.toList) = true := by rw [tl, tl, h5]; simp
              have hv : c = 4 := by
                rw [← HC.out]
                unfold chk
                rw [if_neg (show ¬ ((3 : Int) < 1 ∨ 3 < (3 : Int)) by decide)]
                rw [if_neg (show ¬ (12 < (nmOf x).length ∨ 12 < (nmOf y).length) by rw [nm_len, nm_len]; omega)]
                rw [if_pos (show (3 : Int) = 3 ∧ (nmOf x = nmOf y ∨ N < 1 ∨ 1099511627776 < N) from ⟨rfl, .inl h5⟩)]
              subst hv
              try clear h1
              try clear h2
              try clear h3
              try clear h4
              try clear h5
              try clear h6
              try clear h7
              clear HC
              go_enter Try.func22, Try.ntmps22
              go_wp2_with fail
              all_goals
                go_ret
                exact ⟨rfl, by repeat (first | exact Turn.refl _ _ | apply Turn.drewN | apply Turn.drew | apply Turn.alloc)⟩
            · have g1 : (x.toList == y.toList) = false := by rw [tl, tl, beq_eq_false_iff_ne]; exact h5
              by_cases h6 : N < 1
              · have e7 : decide (N < 1) = true := by simp; omega
                have hv : c = 4 := by
                  rw [← HC.out]
                  unfold chk
                  rw [if_neg (show ¬ ((3 : Int) < 1 ∨ 3 < (3 : Int)) by decide)]
                  rw [if_neg (show ¬ (12 < (nmOf x).length ∨ 12 < (nmOf y).length) by rw [nm_len, nm_len]; omega)]
                  rw [if_pos (show (3 : Int) = 3 ∧ (nmOf x = nmOf y ∨ N < 1 ∨ 1099511627776 < N) from ⟨rfl, .inr (.inl h6)⟩)]
                subst hv
                try clear h1
                try clear h2
                try clear h3
                try clear h4
                try clear h5
                try clear h6
                try clear h7
                clear HC
                go_enter Try.func22, Try.ntmps22
                go_wp2_with fail
                all_goals
                  go_ret
                  exact ⟨rfl, by repeat (first | exact Turn.refl _ _ | apply Turn.drewN | apply Turn.drew | apply Turn.alloc)⟩
              · have e7 : decide (N < 1) = false := by simp; omega
                by_cases h7 : 1099511627776 < N
                · have e8 : decide (1099511627776 < N) = true := by simp; omega
                  have hv : c = 4 := by
                    rw [← HC.out]
                    unfold chk
                    rw [if_neg (show ¬ ((3 : Int) < 1 ∨ 3 < (3 : Int)) by decide)]
                    rw [if_neg (show ¬ (12 < (nmOf x).length ∨ 12 < (nmOf y).length) by rw [nm_len, nm_len]; omega)]
                    rw [if_pos (show (3 : Int) = 3 ∧ (nmOf x = nmOf y ∨ N < 1 ∨ 1099511627776 < N) from ⟨rfl, .inr (.inr h7)⟩)]
                  subst hv
                  try clear h1
                  try clear h2
                  try clear h3
                  try clear h4
                  try clear h5
                  try clear h6
                  try clear h7
                  clear HC
                  go_enter Try.func22, Try.ntmps22
                  go_wp2_with fail
                  all_goals
                    go_ret
                    exact ⟨rfl, by repeat (first | exact Turn.refl _ _ | apply Turn.drewN | apply Turn.drew | apply Turn.alloc)⟩
                · have e8 : decide (1099511627776 < N) = false := by simp; omega
                  have hv : c = 0 := by
                    rw [← HC.out]
                    unfold chk
                    rw [if_neg (show ¬ ((3 : Int) < 1 ∨ 3 < (3 : Int)) by decide)]
                    rw [if_neg (show ¬ (12 < (nmOf x).length ∨ 12 < (nmOf y).length) by rw [nm_len, nm_len]; omega)]
                    rw [if_neg (show ¬ ((3 : Int) = 3 ∧ (nmOf x = nmOf y ∨ N < 1 ∨ 1099511627776 < N)) from fun e => by rcases e.2 with e | e | e; exact h5 e; exact h6 e; exact h7 e)]
                    rw [if_neg (show ¬ ((3 : Int) ≠ 3 ∧ _) from fun e => e.1 rfl)]
                  subst hv
                  try clear h1
                  try clear h2
                  try clear h3
                  try clear h4
                  try clear h5
                  try clear h6
                  try clear h7
                  clear HC
                  go_enter Try.func22, Try.ntmps22
                  go_wp2_with fail
                  all_goals
                    go_ret
                    exact ⟨rfl, by repeat (first | exact Turn.refl _ _ | apply Turn.drewN | apply Turn.drew | apply Turn.alloc)⟩
end Go.Proofs.Ytlalbmgopbcplaa
