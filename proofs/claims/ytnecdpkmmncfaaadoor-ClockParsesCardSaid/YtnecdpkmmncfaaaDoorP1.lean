/-
  The calendar in plain Lean: no program in sight.
-/
import Derived.Laws.BitsLemmas
namespace Go.Cal

def leapP (y : Int) : Prop := y % 4 = 0 ∧ (y % 100 ≠ 0 ∨ y % 400 = 0)
instance (y : Int) : Decidable (leapP y) := by unfold leapP; infer_instance
def leapB (y : Int) : Bool := decide (leapP y)
/-- How many days a month has. -/
def mlen (y m : Int) : Int := if m = 2 then (if leapB y then 29 else 28) else if m = 4 ∨ m = 6 ∨ m = 9 ∨ m = 11 then 30 else 31
/-- Days from 1970-01-01 to the first of January of a year. -/
def D (y : Int) : Int := 365 * (y - 1970) + ((y - 1) / 4 - 492) - ((y - 1) / 100 - 19) + ((y - 1) / 400 - 4)
def cum (y m : Int) : Int :=
  if m ≤ 1 then 0 else if m = 2 then 31 else
    (if m = 3 then 59 else if m = 4 then 90 else if m = 5 then 120 else if m = 6 then 151 else if m = 7 then 181 else if m = 8 then 212 else if m = 9 then 243 else if m = 10 then 273 else if m = 11 then 304 else if m = 12 then 334 else 365) + (if leapB y then 1 else 0)
/-- Days from 1970-01-01 to a date. -/
def dn (y m d : Int) : Int := D y + cum y m + d - 1

theorem leapB_iff (y : Int) : leapB y = true ↔ leapP y := by simp [leapB]
theorem D_succ (y : Int) : D (y + 1) = D y + (if leapB y then 366 else 365) := by
  unfold D
  rw [show y + 1 - 1 = y by omega]
  by_cases h : leapP y
  · rw [if_pos (by simpa [leapB] using h)]
    unfold leapP at h
    omega
  · rw [if_neg (by simpa [leapB] using h)]
    unfold leapP at h
    omega
theorem D_1970 : D 1970 = 0 := by decide
theorem mlen_pos (y m : Int) : 28 ≤ mlen y m ∧ mlen y m ≤ 31 := by unfold mlen; split <;> (try split) <;> omega
theorem cum_succ (y m : Int) (h1 : 1 ≤ m) (h2 : m ≤ 12) : cum y (m + 1) = cum y m + mlen y m := by
  have : m = 1 ∨ m = 2 ∨ m = 3 ∨ m = 4 ∨ m = 5 ∨ m = 6 ∨ m = 7 ∨ m = 8 ∨ m = 9 ∨ m = 10 ∨ m = 11 ∨ m = 12 := by omega
  unfold cum mlen
  cases leapB y <;> rcases this with rfl | rfl | rfl | rfl | rfl | rfl | rfl | rfl | rfl | rfl | rfl | rfl <;> decide
theorem cum_13 (y : Int) : cum y 13 = if leapB y then 366 else 365 := by unfold cum; cases leapB y <;> rfl

theorem leapB_cases (y : Int) : (leapB y = true ∧ y % 4 = 0 ∧ (y % 100 ≠ 0 ∨ y % 400 = 0)) ∨ (leapB y = false ∧ ¬ (y % 4 = 0 ∧ (y % 100 ≠ 0 ∨ y % 400 = 0))) := by
  by_cases h : leapP y
  · exact .inl ⟨by simpa [leapB] using h, h⟩
  · exact .inr ⟨by simpa [leapB] using h, h⟩
theorem m12 {m : Int} (h1 : 1 ≤ m) (h2 : m ≤ 12) : m = 1 ∨ m = 2 ∨ m = 3 ∨ m = 4 ∨ m = 5 ∨ m = 6 ∨ m = 7 ∨ m = 8 ∨ m = 9 ∨ m = 10 ∨ m = 11 ∨ m = 12 := by omega
/-- The days of a date by eras of 400 years that begin in March. -/
theorem days_lo (y m d : Int) (h1 : 1 ≤ m) (h2 : m ≤ 2) :
    (y - 1) / 400 * 146097 + (y - 1 - (y - 1) / 400 * 400) * 365 + (y - 1 - (y - 1) / 400 * 400) / 4 - (y - 1 - (y - 1) / 400 * 400) / 100 + ((153 * ((m + 9) % 12) + 2) / 5 + d - 1) - 719468 = dn y m d := by
  have : m = 1 ∨ m = 2 := by omega
  unfold dn D cum
  rcases this with rfl | rfl
  · simp only [Int.reduceAdd, Int.reduceMod, Int.reduceMul, Int.reduceDiv, Int.reduceLE, if_true]; omega
  · simp only [Int.reduceAdd, Int.reduceMod, Int.reduceMul, Int.reduceDiv, Int.reduceLE, if_true, if_false]; omega
theorem days_hi (y m d : Int) (h1 : 3 ≤ m) (h2 : m ≤ 12) :
    y / 400 * 146097 + (y - y / 400 * 400) * 365 + (y - y / 400 * 400) / 4 - (y - y / 400 * 400) / 100 + ((153 * ((m + 9) % 12) + 2) / 5 + d - 1) - 719468 = dn y m d := by
  have : m = 3 ∨ m = 4 ∨ m = 5 ∨ m = 6 ∨ m = 7 ∨ m = 8 ∨ m = 9 ∨ m = 10 ∨ m = 11 ∨ m = 12 := by omega
  have hl : cum y m = cum 1 m + (if leapB y then 1 else 0) := by
    rcases this with rfl | rfl | rfl | rfl | rfl | rfl | rfl | rfl | rfl | rfl <;> rfl
  unfold dn D
  rw [hl]
  have hc : (153 * ((m + 9) % 12) + 2) / 5 = cum 1 m - 59 := by
    rcases this with rfl | rfl | rfl | rfl | rfl | rfl | rfl | rfl | rfl | rfl <;> decide
  rw [hc]
  generalize cum 1 m = k
  rcases leapB_cases y with ⟨hb, h⟩ | ⟨hb, h⟩
  · rw [hb]; simp only [if_true]; omega
  · rw [hb]; simp only [Bool.false_eq_true, if_false]; omega
theorem yoe_of (c q t u oe : Int) (hc0 : 0 ≤ c) (hc : c ≤ 3) (hq0 : 0 ≤ q) (hq : q ≤ 24) (ht0 : 0 ≤ t) (ht : t ≤ 3) (hu0 : 0 ≤ u) (hu : u ≤ 364 ∨ u = 365 ∧ t = 3 ∧ (q < 24 ∨ c = 3))
    (ho : oe = 36524 * c + 1461 * q + 365 * t + u) : (oe - oe / 1460 + oe / 36524 - oe / 146096) / 365 = 100 * c + 4 * q + t := by
  have hD : oe / 1460 = 25 * c + q ∨ oe / 1460 = 25 * c + q + 1 := by omega
  have hE : oe / 36524 = c ∧ oe / 146096 = 0 ∨ oe = 146096 := by omega
  rcases hE with ⟨hE, hF⟩ | rfl
  · rw [hE, hF]
    rcases hD with hD | hD
    · rw [hD]; omega
    · rw [hD]; omega
  · omega

theorem cqtu (oe : Int) (h0 : 0 ≤ oe) (h1 : oe < 146097) : ∃ c q t u : Int, 0 ≤ c ∧ c ≤ 3 ∧ 0 ≤ q ∧ q ≤ 24 ∧ 0 ≤ t ∧ t ≤ 3 ∧ 0 ≤ u ∧ (u ≤ 364 ∨ u = 365 ∧ t = 3 ∧ (q < 24 ∨ c = 3)) ∧ oe = 36524 * c + 1461 * q + 365 * t + u := by
  by_cases ha : oe = 146096
  · exact ⟨3, 24, 3, 365, by omega, by omega, by omega, by omega, by omega, by omega, by omega, by omega, by omega⟩
  · by_cases hb : oe % 36524 % 1461 = 1460
    · exact ⟨oe / 36524, oe % 36524 / 1461, 3, 365, by omega, by omega, by omega, by omega, by omega, by omega, by omega, by omega, by omega⟩
    · exact ⟨oe / 36524, oe % 36524 / 1461, oe % 36524 % 1461 / 365, oe % 36524 % 1461 % 365, by omega, by omega, by omega, by omega, by omega, by omega, by omega, by omega, by omega⟩
/-- The year of an era that begins in March, and the day of that year. -/
theorem yoe (oe yr : Int) (h0 : 0 ≤ oe) (h1 : oe < 146097) (hy : yr = (oe - oe / 1460 + oe / 36524 - oe / 146096) / 365) :
    0 ≤ yr ∧ yr ≤ 399 ∧ 0 ≤ oe - (365 * yr + yr / 4 - yr / 100) ∧ oe - (365 * yr + yr / 4 - yr / 100) ≤ 365 ∧
    (oe - (365 * yr + yr / 4 - yr / 100) = 365 → (yr + 1) % 4 = 0 ∧ ((yr + 1) % 100 ≠ 0 ∨ (yr + 1) % 400 = 0)) := by
  obtain ⟨c, q, t, u, a1, a2, a3, a4, a5, a6, a7, a8, a9⟩ := cqtu oe h0 h1
  rw [yoe_of c q t u oe a1 a2 a3 a4 a5 a6 a7 a8 a9] at hy
  subst hy
  have e1 : (100 * c + 4 * q + t) / 4 = 25 * c + q := by omega
  have e2 : (100 * c + 4 * q + t) / 100 = c := by omega
  rw [e1, e2]
  refine ⟨by omega, by omega, by omega, by omega, fun h => ?_⟩
  omega
/-- The month and the day out of the day of a year that begins in March. -/
theorem mpd (oy mp : Int) (h0 : 0 ≤ oy) (h1 : oy ≤ 365) (hm : mp = (5 * oy + 2) / 153) : 0 ≤ mp ∧ mp ≤ 11 ∧ 0 ≤ oy - (153 * mp + 2) / 5 ∧ oy - (153 * mp + 2) / 5 ≤ 30 := by omega
theorem civil (n e oe yr oy mp : Int) (he : e = (n + 719468) / 146097) (hoe : oe = n + 719468 - e * 146097) (hyr : yr = (oe - oe / 1460 + oe / 36524 - oe / 146096) / 365)
    (hoy : oy = oe - (365 * yr + yr / 4 - yr / 100)) (hmp : mp = (5 * oy + 2) / 153) :
    let m := (mp + 2) % 12 + 1
    let d := oy - (153 * mp + 2) / 5 + 1
    let y := if m ≤ 2 then yr + e * 400 + 1 else yr + e * 400
    1 ≤ m ∧ m ≤ 12 ∧ 1 ≤ d ∧ d ≤ mlen y m ∧ dn y m d = n := by
  intro m d y
  obtain ⟨y1, y2, y3, y4, y5⟩ := yoe oe yr (by omega) (by omega) hyr
  rw [← hoy] at y3 y4 y5
  obtain ⟨m1, m2, m3, m4⟩ := mpd oy mp y3 y4 hmp
  have hmr : 1 ≤ m ∧ m ≤ 12 := by show 1 ≤ (mp + 2) % 12 + 1 ∧ (mp + 2) % 12 + 1 ≤ 12; omega
  have hq : (m + 9) % 12 = mp := by show ((mp + 2) % 12 + 1 + 9) % 12 = mp; omega
  have hdd : dn y m d = n := by
    by_cases hm : m ≤ 2
    · have hy : y = yr + e * 400 + 1 := if_pos hm
      rw [← days_lo y m d hmr.1 hm, hq, hy]
      show _ + ((153 * mp + 2) / 5 + (oy - (153 * mp + 2) / 5 + 1) - 1) - 719468 = n
      have a1 : (yr + e * 400 + 1 - 1) / 400 = e := by omega
      rw [a1]
      have a2 : yr + e * 400 + 1 - 1 - e * 400 = yr := by omega
      rw [a2]; omega
    · have hy : y = yr + e * 400 := if_neg hm
      rw [← days_hi y m d (by omega) hmr.2, hq, hy]
      show _ + ((153 * mp + 2) / 5 + (oy - (153 * mp + 2) / 5 + 1) - 1) - 719468 = n
      have a1 : (yr + e * 400) / 400 = e := by omega
      rw [a1]
      have a2 : yr + e * 400 - e * 400 = yr := by omega
      rw [a2]; omega
  refine ⟨hmr.1, hmr.2, by show 1 ≤ oy - (153 * mp + 2) / 5 + 1; omega, ?_, hdd⟩
  -- the day is at most the month's last
  have hmp12 : mp = 0 ∨ mp = 1 ∨ mp = 2 ∨ mp = 3 ∨ mp = 4 ∨ mp = 5 ∨ mp = 6 ∨ mp = 7 ∨ mp = 8 ∨ mp = 9 ∨ mp = 10 ∨ mp = 11 := by omega
  have hmv : m = (mp + 2) % 12 + 1 := rfl
  have hdv : d = oy - (153 * mp + 2) / 5 + 1 := rfl
  have hyv : m ≤ 2 → y = yr + e * 400 + 1 := fun h => if_pos h
  clear_value m d y
  unfold mlen
  rcases leapB_cases y with ⟨hb, hl⟩ | ⟨hb, hl⟩
  · rw [hb]
    simp only [if_true]
    split
    · omega
    · split <;> omega
  · rw [hb]
    split
    · simp only [Bool.false_eq_true, if_false]
      have := hyv (by omega)
      by_cases h365 : oy = 365
      · have := y5 h365; omega
      · omega
    · split <;> omega
end Go.Cal
namespace Go.Cal
/-- The calendar has the date. -/
def validP (y m d h i s : Int) : Prop := (-2000 ≤ y ∧ y ≤ 6000) ∧ 1 ≤ m ∧ m ≤ 12 ∧ 1 ≤ d ∧ d ≤ mlen y m ∧ 0 ≤ h ∧ h < 24 ∧ 0 ≤ i ∧ i < 60 ∧ 0 ≤ s ∧ s < 60
instance (y m d h i s : Int) : Decidable (validP y m d h i s) := by unfold validP; infer_instance
def validB (y m d h i s : Int) : Bool := decide (validP y m d h i s)
/-- Seconds from 1970-01-01 00:00:00. -/
def secs (y m d h i s : Int) : Int := dn y m d * 86400 + h * 3600 + i * 60 + s
theorem dn_bd (y m d : Int) (hy : -100000 ≤ y ∧ y ≤ 100000) (hd : -1000 ≤ d ∧ d ≤ 1000) : -40000000 ≤ dn y m d ∧ dn y m d ≤ 40000000 := by
  have hc : 0 ≤ cum y m ∧ cum y m ≤ 366 := by
    unfold cum
    cases leapB y
    · simp only [Bool.false_eq_true, if_false]; omega
    · simp only [if_true]; omega
  unfold dn D
  generalize cum y m = c at *
  omega
end Go.Cal
namespace Go.Cal
/-! ### The date of a day, as a function; it is the only one -/
def ce (n : Int) : Int := (n + 719468) / 146097
def coe (n : Int) : Int := n + 719468 - ce n * 146097
def cyr (n : Int) : Int := (coe n - coe n / 1460 + coe n / 36524 - coe n / 146096) / 365
def coy (n : Int) : Int := coe n - (365 * cyr n + cyr n / 4 - cyr n / 100)
def cmp (n : Int) : Int := (5 * coy n + 2) / 153
def cm (n : Int) : Int := (cmp n + 2) % 12 + 1
def cd (n : Int) : Int := coy n - (153 * cmp n + 2) / 5 + 1
def cy (n : Int) : Int := if cm n ≤ 2 then cyr n + ce n * 400 + 1 else cyr n + ce n * 400
theorem civ (n : Int) : 1 ≤ cm n ∧ cm n ≤ 12 ∧ 1 ≤ cd n ∧ cd n ≤ mlen (cy n) (cm n) ∧ dn (cy n) (cm n) (cd n) = n :=
  civil n (ce n) (coe n) (cyr n) (coy n) (cmp n) rfl rfl rfl rfl rfl
theorem D_mono (a b : Int) (h : a ≤ b) : D a ≤ D b := by unfold D; omega
theorem cum_mono (y : Int) : ∀ (k : Nat) (m : Int), 1 ≤ m → m + k ≤ 13 → cum y m ≤ cum y (m + k)
  | 0, m, _, _ => by simp
  | k + 1, m, h1, h2 => by
    have ih := cum_mono y k m h1 (by omega)
    have := cum_succ y (m + k) (by omega) (by omega)
    have hp := mlen_pos y (m + k)
    have e : m + ((k + 1 : Nat) : Int) = m + k + 1 := by omega
    rw [e]; omega
theorem cum_le (y m m' : Int) (h1 : 1 ≤ m) (h : m ≤ m') (h2 : m' ≤ 13) : cum y m ≤ cum y m' := by
  have := cum_mono y (m' - m).toNat m h1 (by omega)
  rwa [show m + ((m' - m).toNat : Int) = m' by omega] at this
theorem dn_year (y m d : Int) (h1 : 1 ≤ m) (h2 : m ≤ 12) (h3 : 1 ≤ d) (h4 : d ≤ mlen y m) : D y ≤ dn y m d ∧ dn y m d < D (y + 1) := by
  have a := cum_succ y m h1 h2
  have b := cum_le y (m + 1) 13 (by omega) (by omega) (by omega)
  have c := cum_13 y
  have e := D_succ y
  have f := cum_le y 1 m (by omega) h1 (by omega)
  have g : cum y 1 = 0 := rfl
  rw [c] at b
  unfold dn
  split at e <;> rename_i hl <;> simp only [hl] at b <;> simp at b <;> omega
theorem uniq (y m d y' m' d' : Int) (h1 : 1 ≤ m) (h2 : m ≤ 12) (h3 : 1 ≤ d) (h4 : d ≤ mlen y m) (k1 : 1 ≤ m') (k2 : m' ≤ 12) (k3 : 1 ≤ d') (k4 : d' ≤ mlen y' m') (h : dn y m d = dn y' m' d') : y = y' ∧ m = m' ∧ d = d' := by
  have a := dn_year y m d h1 h2 h3 h4
  have b := dn_year y' m' d' k1 k2 k3 k4
  have hy : y = y' := by
    rcases Int.lt_trichotomy y y' with hlt | heq | hgt
    · have := D_mono (y + 1) y' (by omega); omega
    · exact heq
    · have := D_mono (y' + 1) y (by omega); omega
  subst hy
  unfold dn at h
  have hm : m = m' := by
    rcases Int.lt_trichotomy m m' with hlt | heq | hgt
    · have e := cum_succ y m h1 h2
      have f := cum_le y (m + 1) m' (by omega) (by omega) (by omega); omega
    · exact heq
    · have e := cum_succ y m' k1 k2
      have f := cum_le y (m' + 1) m (by omega) (by omega) (by omega); omega
  subst hm
  exact ⟨rfl, rfl, by omega⟩
theorem civ_uniq (y m d n : Int) (h1 : 1 ≤ m) (h2 : m ≤ 12) (h3 : 1 ≤ d) (h4 : d ≤ mlen y m) (h : dn y m d = n) : cy n = y ∧ cm n = m ∧ cd n = d := by
  have c := civ n
  exact uniq _ _ _ _ _ _ c.1 c.2.1 c.2.2.1 c.2.2.2.1 h1 h2 h3 h4 (by rw [c.2.2.2.2, h])
theorem cy_bd (n : Int) (h : -1000000000 ≤ n ∧ n ≤ 1000000000) : -3000000 ≤ cy n ∧ cy n ≤ 3000000 := by
  have c := civ n
  have a := dn_year (cy n) (cm n) (cd n) c.1 c.2.1 c.2.2.1 c.2.2.2.1
  rw [c.2.2.2.2] at a
  unfold D at a
  omega
theorem cy_bd2 (n : Int) (h : -30000000 ≤ n ∧ n ≤ 30000000) : -90000 ≤ cy n ∧ cy n ≤ 90000 := by
  have c := civ n
  have a := dn_year (cy n) (cm n) (cd n) c.1 c.2.1 c.2.2.1 c.2.2.2.1
  rw [c.2.2.2.2] at a
  unfold D at a
  omega
end Go.Cal
namespace Go.Cal
/-! ### So many months, so many days later -/
def lall (y m n : Int) : Int := y * 12 + m - 1 + n
def ly (y m n : Int) : Int := lall y m n / 12
def lm (y m n : Int) : Int := lall y m n % 12 + 1
def ld (y m d n : Int) : Int := if mlen (ly y m n) (lm y m n) < d then mlen (ly y m n) (lm y m n) else d
theorem lm_bd (y m n : Int) : 1 ≤ lm y m n ∧ lm y m n ≤ 12 := by unfold lm; omega
theorem ld_bd (y m d n : Int) (hd : 1 ≤ d) : 1 ≤ ld y m d n ∧ ld y m d n ≤ d ∧ ld y m d n ≤ mlen (ly y m n) (lm y m n) := by
  have := mlen_pos (ly y m n) (lm y m n)
  unfold ld; split <;> omega
/-- So many months later: the seconds. -/
def lsecs (y m d h i s n : Int) : Int := secs (ly y m n) (lm y m n) (ld y m d n) h i s
/-- The months between two dates. -/
def mons (y m d h i s y' m' d' h' i' s' : Int) : Int :=
  if secs y' m' d' h' i' s' < lsecs y m d h i s ((y' - y) * 12 + m' - m) then (y' - y) * 12 + m' - m - 1 else (y' - y) * 12 + m' - m
end Go.Cal
