/- Plain functions of the authorizations (package auth and its reference): no program in sight. -/
import Derived.Test.YtllgfdogieohaaaSxStr
namespace Go.Proofs.Ytllgfdogieohaaa
open Go.Sx

def idCh (c : Int) : Bool := decide ((97 ≤ c ∧ c ≤ 122) ∨ (65 ≤ c ∧ c ≤ 90) ∨ (48 ≤ c ∧ c ≤ 57) ∨ c = 95 ∨ c = 45)
@[irreducible] def idB (s : ByteArray) : Bool := decide (1 ≤ s.size ∧ s.size ≤ 16) && allB idCh s
def curCh (c : Int) : Bool := decide (65 ≤ c ∧ c ≤ 90)
@[irreducible] def curB (s : ByteArray) : Bool := decide (s.size = 3) && allB curCh s

structure Au where
  id : ByteArray
  cur : ByteArray
  app : Int
  rev : Int
  cle : Int
  exp : Int
  st : Int
  att : Int
  unt : Int
  pa : Int

abbrev Au.s (a : Au) : SV := .agg [.str a.id, .str a.cur, .int .i64 a.app, .int .i64 a.rev, .int .i64 a.cle, .int .i64 a.exp, .int .i64 a.st, .int .i64 a.att, .int .i64 a.unt, .int .i64 a.pa]
theorem Au.eta (a : Au) : Au.mk a.id a.cur a.app a.rev a.cle a.exp a.st a.att a.unt a.pa = a := rfl
def Au.zero : Au := ⟨⟨#[]⟩, ⟨#[]⟩, 0, 0, 0, 0, 0, 0, 0, 0⟩

@[irreducible] def fundsW (a : Au) : Int := IntKind.i64.wrap (IntKind.i64.wrap (IntKind.i64.wrap (a.app - a.rev) - a.cle) - a.exp)
@[irreducible] def stateOf (a : Au) : Int := if 0 < fundsW a then 1 else if 0 < a.exp then 4 else if 0 < a.cle then 2 else 3
def amountOk (n : Int) : Bool := decide (0 ≤ n ∧ n ≤ 999999999999)
@[irreducible] def checkZ (a : Au) : Int :=
  if idB a.id = false then 5 else if curB a.cur = false then 11
  else if ¬ (1 ≤ a.app ∧ a.app ≤ 999999999999 ∧ 0 ≤ a.rev ∧ a.rev ≤ 999999999999 ∧ 0 ≤ a.cle ∧ a.cle ≤ 999999999999 ∧ 0 ≤ a.exp ∧ a.exp ≤ 999999999999) then 4
  else if fundsW a < 0 then 26
  else if ¬ (0 ≤ a.att ∧ a.att ≤ 1099511627776 ∧ a.att < a.unt ∧ a.unt ≤ 1099511627776) then 14
  else if ¬ (0 ≤ a.pa ∧ a.pa ≤ 8 ∧ a.pa ≤ a.cle ∧ (a.pa = 0 ↔ a.cle = 0)) then 4
  else if a.st ≠ stateOf a ∨ (a.st = 1 ∧ a.exp ≠ 0) then 8 else 0

theorem fundsW_eq (a : Au) (h1 : 0 ≤ a.app) (h2 : a.app ≤ 999999999999) (h3 : 0 ≤ a.rev) (h4 : a.rev ≤ 999999999999) (h5 : 0 ≤ a.cle) (h6 : a.cle ≤ 999999999999) (h7 : 0 ≤ a.exp) (h8 : a.exp ≤ 999999999999) : fundsW a = a.app - a.rev - a.cle - a.exp := by
  unfold fundsW
  rw [w64_in (n := a.app - a.rev) (by omega) (by omega), w64_in (n := a.app - a.rev - a.cle) (by omega) (by omega), w64_in (by omega) (by omega)]
theorem curB_of3 (s : ByteArray) (h : (s.size : Int) = 3) (h0 : 65 ≤ byteAt s 0) (h0' : byteAt s 0 ≤ 90) (h1 : 65 ≤ byteAt s 1) (h1' : byteAt s 1 ≤ 90) (h2 : 65 ≤ byteAt s 2) (h2' : byteAt s 2 ≤ 90) : curB s = true := by
  have hs : s.size = 3 := by omega
  have : allB curCh s = true := allB_true (fun i hi => by
    rw [hs] at hi
    rcases (by omega : i = 0 ∨ i = 1 ∨ i = 2) with rfl | rfl | rfl <;> simp [curCh] <;> omega)
  simp [curB, hs, this]
theorem curB_not (s : ByteArray) (k : Nat) (hk : k < s.size) (h : ¬ (65 ≤ byteAt s k ∧ byteAt s k ≤ 90)) : curB s = false := by
  simp [curB, allB_false (p := curCh) hk (by simp only [curCh, decide_eq_false_iff_not]; exact h)]

/-- What is open, where the authorization is valid. -/
@[irreducible] def openZ (a : Au) : Int := if checkZ a = 0 then fundsW a else 0
@[irreducible] def usableZ (a : Au) : Int := if checkZ a = 0 then (if a.st = 1 then 0 else 8) else checkZ a

structure Facts (a : Au) : Prop where
  id : idB a.id = true
  cur : curB a.cur = true
  app : 1 ≤ a.app ∧ a.app ≤ 999999999999
  rev : 0 ≤ a.rev ∧ a.rev ≤ 999999999999
  cle : 0 ≤ a.cle ∧ a.cle ≤ 999999999999
  exp : 0 ≤ a.exp ∧ a.exp ≤ 999999999999
  funds : fundsW a = a.app - a.rev - a.cle - a.exp
  nneg : 0 ≤ fundsW a
  time : 0 ≤ a.att ∧ a.att ≤ 1099511627776 ∧ a.att < a.unt ∧ a.unt ≤ 1099511627776
  pa : 0 ≤ a.pa ∧ a.pa ≤ 8 ∧ a.pa ≤ a.cle ∧ (a.pa = 0 ↔ a.cle = 0)
  st : a.st = stateOf a
  op : a.st = 1 → a.exp = 0

theorem facts_of {a : Au} (h : checkZ a = 0) : Facts a := by
  unfold checkZ at h
  split at h; · simp at h
  split at h; · simp at h
  split at h; · simp at h
  split at h; · simp at h
  split at h; · simp at h
  split at h; · simp at h
  split at h; · simp at h
  rename_i h1 h2 h3 h4 h5 h6 h7
  have e := fundsW_eq a (by omega) (by omega) (by omega) (by omega) (by omega) (by omega) (by omega) (by omega)
  have h7' : a.st = stateOf a ∧ (a.st = 1 → a.exp = 0) := by
    constructor
    · apply Classical.byContradiction; intro x; exact h7 (.inl x)
    · intro x; apply Classical.byContradiction; intro y; exact h7 (.inr ⟨x, y⟩)
  exact ⟨by simpa using h1, by simpa using h2, by omega, by omega, by omega, by omega, e, by omega, by omega, by omega, h7'.1, h7'.2⟩
theorem of_facts {a : Au} (f : Facts a) : checkZ a = 0 := by
  have f1 := f.id; have f2 := f.cur; have f3 := f.app; have f4 := f.rev; have f5 := f.cle; have f6 := f.exp; have f7 := f.nneg; have f8 := f.time; have f9 := f.pa; have f10 := f.st; have f11 := f.op
  unfold checkZ
  rw [if_neg (by simp [f1]), if_neg (by simp [f2]), if_neg (by omega), if_neg (by omega), if_neg (by omega), if_neg (by omega), if_neg]
  rintro (h | ⟨h1, h2⟩)
  · exact h f10
  · exact h2 (f11 h1)
theorem usable_facts {a : Au} (h : usableZ a = 0) : Facts a ∧ a.st = 1 ∧ 0 < fundsW a ∧ openZ a = fundsW a ∧ checkZ a = 0 ∧ a.exp = 0 := by
  unfold usableZ at h
  split at h
  · rename_i hc
    split at h
    · rename_i hs
      have f := facts_of hc
      refine ⟨f, hs, ?_, by unfold openZ; rw [if_pos hc], hc, f.op hs⟩
      have := f.st
      rw [hs] at this
      unfold stateOf at this
      split at this
      · assumption
      · split at this
        · simp at this
        · split at this <;> simp at this
    · simp at h
  · rename_i hc; exact absurd h hc
theorem usable_of {a : Au} (h : checkZ a = 0) (hs : a.st = 1) : usableZ a = 0 := by unfold usableZ; rw [if_pos h, if_pos hs]
theorem usable_not {a : Au} (h : checkZ a = 0) (hs : a.st ≠ 1) : usableZ a = 8 := by unfold usableZ; rw [if_pos h, if_neg hs]

@[irreducible] def newZ (id cur : ByteArray) (n at_ un : Int) : Au × Int :=
  let a : Au := ⟨id, cur, n, 0, 0, 0, 1, at_, un, 0⟩
  if checkZ a = 0 then (a, 0) else (Au.zero, checkZ a)
@[irreducible] def raiseZ (a : Au) (n u : Int) : Au × Int :=
  if usableZ a ≠ 0 then (Au.zero, usableZ a) else if ¬ (1 ≤ n ∧ n ≤ 999999999999 - a.app) then (Au.zero, 4)
  else if u < a.unt ∨ 1099511627776 < u then (Au.zero, 14) else ({ a with app := a.app + n, unt := u }, 0)
@[irreducible] def reverseZ (a : Au) (n : Int) : Au × Int × Int :=
  if usableZ a ≠ 0 then (Au.zero, 0, usableZ a) else if ¬ (0 ≤ n ∧ n ≤ fundsW a) then (Au.zero, 0, 4)
  else ({ a with rev := a.rev + (if n = 0 then fundsW a else n), st := stateOf { a with rev := a.rev + (if n = 0 then fundsW a else n) } }, (if n = 0 then fundsW a else n), 0)
@[irreducible] def clearZ (a : Au) (n : Int) (f : Bool) : Au × Int × Int × Int :=
  if usableZ a ≠ 0 then (Au.zero, 0, 0, usableZ a) else if ¬ (1 ≤ n ∧ n ≤ 999999999999) then (Au.zero, 0, 0, 4) else if 8 ≤ a.pa then (Au.zero, 0, 0, 10)
  else ({ a with cle := a.cle + min n (fundsW a), rev := a.rev + (if f = true then fundsW a - min n (fundsW a) else 0), pa := a.pa + 1,
                 st := stateOf { a with cle := a.cle + min n (fundsW a), rev := a.rev + (if f = true then fundsW a - min n (fundsW a) else 0), pa := a.pa + 1 } },
        min n (fundsW a), (if f = true then fundsW a - min n (fundsW a) else 0), 0)
@[irreducible] def expireZ (a : Au) (t : Int) : Au × Int × Int :=
  if usableZ a ≠ 0 then (Au.zero, 0, usableZ a) else if t < a.unt then (Au.zero, 0, 14)
  else ({ a with exp := a.exp + fundsW a, st := stateOf { a with exp := a.exp + fundsW a } }, fundsW a, 0)

/-- The results of the calls, as tuples. -/
abbrev t2 (r : Au × Int) : SV := .tup [r.1.s, .int .i64 r.2]
abbrev t3 (r : Au × Int × Int) : SV := .tup [r.1.s, .int .i64 r.2.1, .int .i64 r.2.2]
abbrev t4 (r : Au × Int × Int × Int) : SV := .tup [r.1.s, .int .i64 r.2.1, .int .i64 r.2.2.1, .int .i64 r.2.2.2]

theorem stateOf_st (a : Au) (x : Int) : stateOf { a with st := x } = stateOf a := by unfold stateOf fundsW; rfl
theorem new_check (id cur : ByteArray) (n at_ un : Int) : checkZ ⟨id, cur, n, 0, 0, 0, stateOf ⟨id, cur, n, 0, 0, 0, 0, at_, un, 0⟩, at_, un, 0⟩ = checkZ ⟨id, cur, n, 0, 0, 0, 1, at_, un, 0⟩ ∧
    (checkZ ⟨id, cur, n, 0, 0, 0, 1, at_, un, 0⟩ = 0 → stateOf ⟨id, cur, n, 0, 0, 0, 0, at_, un, 0⟩ = 1) := by
  by_cases hn : 1 ≤ n ∧ n ≤ 999999999999
  · have e : stateOf ⟨id, cur, n, 0, 0, 0, 0, at_, un, 0⟩ = 1 := by
      unfold stateOf
      rw [fundsW_eq _ (by simp; omega) (by simp; omega) (by simp) (by simp) (by simp) (by simp) (by simp) (by simp)]
      simp; omega
    rw [e]; exact ⟨rfl, fun _ => rfl⟩
  · constructor
    · unfold checkZ
      simp only
      split; · rfl
      split; · rfl
      rw [if_pos (by omega), if_pos (by omega)]
    · intro h; have := (facts_of h).app; simp at this; omega
end Go.Proofs.Ytllgfdogieohaaa
