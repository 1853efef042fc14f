/-
  PLAIN LAW: text: notes, blanks and empty lines between an applet's lines. Conditions: an applet that may be.
  PLAIN LAW: text: a wrong line is told by its number. Conditions: an applet that may be.
  PLAIN LAW: text: what the statements' loops build: a wrong line, notes between. Conditions: lines that bear no line's end.
-/
import Derived.Test.YteebapopeaafhaaGreatDoorHTxR
namespace Go.Tcn
open Go.RowKit
set_option linter.unusedVariables false
set_option linter.unusedSimpArgs false
/-- The lines that have words. -/
def fullW (s : Wd) : List (List Wd) := ((linesW s).map fun l => spR l []).filter fun ws => !ws.isEmpty
def fwW (ws : List Wd) : List (List Wd) := if ws.isEmpty then [] else [ws]
theorem full_line (l s : Wd) (h : (10 : UInt8) ∉ l) : fullW (l ++ 10 :: s) = fwW (spR l []) ++ fullW s := by
  unfold fullW fwW
  rw [lines_one l s h, List.map_cons, List.filter_cons]
  cases (spR l []).isEmpty <;> simp
theorem full_nl (s : Wd) : fullW (10 :: s) = fullW s := by
  have := full_line [] s (by simp)
  rw [List.nil_append] at this
  rw [this]
  rfl
theorem spR_blank (l : Wd) : spR (32 :: l) [] = spR l [] := by
  rw [spR, if_neg (by decide), if_pos rfl]
  rfl
theorem full_blank (s : Wd) : fullW (32 :: s) = fullW s := by
  unfold fullW
  rw [linesW, if_neg (by decide)]
  cases h : linesW s with
  | nil => rfl
  | cons l ls =>
    simp only [List.map_cons]
    rw [spR_blank]
/-- What stands between. -/
def noteW (n : Int) : Wd := if n = 0 then [] else if n = 1 then [10] else if n = 2 then [32, 32, 35, 32, 110, 111, 116, 101, 10] else [32, 32, 32]
theorem full_note (n : Int) (s : Wd) : fullW (noteW n ++ s) = fullW s := by
  unfold noteW
  split
  · rfl
  · split
    · exact full_nl s
    · split
      · have := full_line [32, 32, 35, 32, 110, 111, 116, 101] s (by decide)
        have e : spR [32, 32, 35, 32, 110, 111, 116, 101] [] = [] := by decide
        rw [e] at this
        exact this
      · show fullW (32 :: 32 :: 32 :: s) = fullW s
        rw [full_blank, full_blank, full_blank]
/-- Lines with notes between. -/
def textN : List Wd → List Int → Wd
  | [], _ => []
  | l :: ls, [] => l ++ 10 :: textN ls []
  | l :: ls, n :: ns => l ++ 10 :: (noteW n ++ textN ls ns)
theorem full_textN : ∀ (ls : List Wd) (ns : List Int), (∀ l ∈ ls, (10 : UInt8) ∉ l) → fullW (textN ls ns) = (ls.map fun l => spR l []).filter fun ws => !ws.isEmpty
  | [], _, _ => rfl
  | l :: ls, [], h => by
    rw [textN, full_line l _ (h l (by simp)), full_textN ls [] (fun x hx => h x (by simp [hx])), List.map_cons, List.filter_cons]
    unfold fwW
    cases (spR l []).isEmpty <;> simp
  | l :: ls, n :: ns, h => by
    rw [textN, full_line l _ (h l (by simp)), full_note, full_textN ls ns (fun x hx => h x (by simp [hx])), List.map_cons, List.filter_cons]
    unfold fwW
    cases (spR l []).isEmpty <;> simp
theorem parse_skip {σ : Type} (step : σ → List Wd → Option σ) : ∀ (a : List (List Wd)) (k k' : Nat) (p r : σ), parseL step (a.filter fun ws => !ws.isEmpty) k p = .ok r → parseL step a k' p = .ok r
  | [], k, k', p, r, h => h
  | [] :: a, k, k', p, r, h => by
    rw [parseL]
    exact parse_skip step a k (k' + 1) p r h
  | (w :: v) :: a, k, k', p, r, h => by
    rw [List.filter_cons, if_pos (by simp), parseL] at h
    rw [parseL]
    cases hs : step p (w :: v) with
    | none => rw [hs] at h; cases h
    | some q =>
      rw [hs] at h
      exact parse_skip step a (k + 1) (k' + 1) q r h
theorem full_ws {ls : List Wd} {wss : List (List Wd)} (h : Lns ls wss) (hne : ∀ ws ∈ wss, ws ≠ []) : (ls.map fun l => spR l []).filter (fun ws => !ws.isEmpty) = wss := by
  rw [h.out.1, List.filter_eq_self]
  intro ws hws
  have := hne ws hws
  cases ws with
  | nil => exact absurd rfl this
  | cons => rfl
theorem imgWs_ne (i : Img) : ∀ ws ∈ imgWs i, ws ≠ [] := by
  intro ws hws
  unfold imgWs at hws
  simp only [List.mem_append, List.mem_map, List.mem_flatMap, List.mem_singleton] at hws
  rcases hws with rfl | ⟨_, _, rfl⟩ | ⟨_, _, rfl⟩ | ⟨m, _, hm⟩ | ⟨_, _, rfl⟩
  · simp
  · simp
  · simp [impWs]
  · unfold mthWs at hm
    simp only [List.mem_append, List.mem_map, List.mem_singleton] at hm
    rcases hm with rfl | hm | ⟨_, _, rfl⟩
    · simp
    · split at hm
      · cases hm
      · simp at hm; subst hm; simp
    · simp [insWs]
  · simp
/-- THE LAW: with notes, blanks and empty lines between, too. -/
theorem notes_back (i : Img) (h : imgB i = true) (ns : List Int) : parseX (textN (imgLs i) ns) = (i, 0, 0) := by
  have hL := img_lns i h
  rw [parse_same]
  unfold parseW
  obtain ⟨a, ha⟩ := parse_back i h
  have hf := full_textN (imgLs i) ns hL.out.2
  rw [full_ws hL (imgWs_ne i)] at hf
  unfold fullW at hf
  rw [← hf] at ha
  rw [parse_skip _ _ _ 0 _ _ ha]
  simp only [h, if_true]
end Go.Tcn
namespace Go.Tcn
open Go.RowKit
set_option linter.unusedVariables false
set_option linter.unusedSimpArgs false
theorem parse_pre {σ : Type} (step : σ → List Wd → Option σ) : ∀ (a b : List (List Wd)) (k : Nat) (p r : σ), parseL step (a ++ b) k p = .ok r → ∃ p', parseL step a k p = .ok p'
  | [], b, k, p, r, _ => ⟨p, rfl⟩
  | [] :: a, b, k, p, r, h => by
    rw [List.cons_append, parseL] at h
    rw [parseL]
    exact parse_pre step a b (k + 1) p r h
  | (w :: v) :: a, b, k, p, r, h => by
    rw [List.cons_append, parseL] at h
    rw [parseL]
    cases hs : step p (w :: v) with
    | none => rw [hs] at h; cases h
    | some q =>
      rw [hs] at h
      exact parse_pre step a b (k + 1) q r h
theorem step_pos {q q' : PR} {ws : List Wd} (h : lineR UU q ws = some q') : q'.at' ≠ 0 := by
  match ws with
  | [] => cases h
  | w0 :: r =>
    unfold lineR at h
    simp only at h
    repeat' split at h
    all_goals first
      | (cases h; done)
      | (cases h; simp; done)
      | (simp only [Option.some.injEq] at h; subst h; simp; done)
      | (simp only [Option.map_eq_some_iff] at h; obtain ⟨_, _, h⟩ := h; subst h; simp; done)
theorem parse_pos : ∀ (a : List (List Wd)) (k : Nat) (p r : PR), parseL (lineR UU) a k p = .ok r → p.at' ≠ 0 → r.at' ≠ 0
  | [], k, p, r, h, hp => by simp only [parseL, Except.ok.injEq] at h; rw [← h]; exact hp
  | [] :: a, k, p, r, h, hp => parse_pos a (k + 1) p r (by rw [parseL] at h; exact h) hp
  | (w :: v) :: a, k, p, r, h, hp => by
    rw [parseL] at h
    cases hs : lineR UU p (w :: v) with
    | none => rw [hs] at h; cases h
    | some q =>
      rw [hs] at h
      exact parse_pos a (k + 1) q r h (step_pos hs)
/-- Lines that are wrong. -/
def badW (n : Int) : Wd := if n = 0 then [110, 111, 110, 115, 101, 110, 115, 101] else if n = 1 then [97, 112, 112, 108, 101, 116, 32, 97] else if n = 2 then [109, 101, 116, 104, 111, 100, 32, 115, 111, 114, 116] else if n = 3 then [112, 117, 115, 104] else [101, 120, 112, 111, 114, 116, 32, 120]
def badWs (n : Int) : List Wd := if n = 0 then [[110, 111, 110, 115, 101, 110, 115, 101]] else if n = 1 then [kApplet, [97]] else if n = 2 then [kMethod, [115, 111, 114, 116]] else if n = 3 then [[112, 117, 115, 104]] else [kExport, [120]]
theorem bad_ln (n : Int) (h : 0 ≤ n ∧ n ≤ 4) : LnOk (badW n) (badWs n) := by
  have : n = 0 ∨ n = 1 ∨ n = 2 ∨ n = 3 ∨ n = 4 := by omega
  unfold LnOk
  rcases this with rfl | rfl | rfl | rfl | rfl <;> decide
theorem bad_none (q : PR) (n : Int) (h : 0 ≤ n ∧ n ≤ 4) (hq : q.at' ≠ 0 ∨ n ≠ 1) : lineR UU q (badWs n) = none := by
  obtain ⟨i, a⟩ := q
  dsimp only at hq
  have h5 : n = 0 ∨ n = 1 ∨ n = 2 ∨ n = 3 ∨ n = 4 := by omega
  have o0 : UU.op [110, 111, 110, 115, 101, 110, 115, 101] = 0 := by decide
  have o3 : UU.op [112, 117, 115, 104] = 1 := by decide
  have o1 : UU.op kApplet = 0 := UU.k1
  have o2 : UU.op kMethod = 0 := UU.k4
  have o4 : UU.op kExport = 0 := UU.k6
  have n4 : UU.num [120] = none := by decide
  have k2 : UU.kind [115, 111, 114, 116] = -1 := by decide
  have i3 : insW UU 1 [] = none := by decide
  rcases h5 with rfl | rfl | rfl | rfl | rfl
  · unfold badWs lineR
    simp [o0, kField, kImport, kMethod, kLocals, kExport]
  · have ha : a ≠ 0 := hq.resolve_right (by simp)
    unfold badWs lineR
    simp [o1, ha, show kApplet ≠ kField by decide, show kApplet ≠ kImport by decide, show kApplet ≠ kMethod by decide, show kApplet ≠ kLocals by decide, show kApplet ≠ kExport by decide]
  · unfold badWs lineR
    simp [o2, k2, show kMethod ≠ kApplet by decide, show kMethod ≠ kField by decide, show kMethod ≠ kImport by decide, show kMethod ≠ kLocals by decide, show kMethod ≠ kExport by decide]
  · unfold badWs lineR
    simp [o3, i3, kApplet, kField, kImport, kMethod, kLocals, kExport]
  · unfold badWs lineR
    simp [o4, n4, show kExport ≠ kApplet by decide, show kExport ≠ kField by decide, show kExport ≠ kImport by decide, show kExport ≠ kMethod by decide, show kExport ≠ kLocals by decide]
/-- THE LAW: a wrong line behind the first m lines is told as line m + 1. -/
theorem line_told (i : Img) (h : imgB i = true) (m : Nat) (n : Int) (hn : 0 ≤ n ∧ n ≤ 4) (hm : m ≤ (imgLs i).length) (h0 : m ≠ 0 ∨ n ≠ 1) :
    parseX (textOf ((imgLs i).take m ++ badW n :: (imgLs i).drop m)) = (⟨[], [], [], [], []⟩, m + 1, 5) := by
  have hL := img_lns i h
  obtain ⟨h1, h2⟩ := hL.out
  have hb := bad_ln n hn
  have hlen : (imgWs i).length = (imgLs i).length := by rw [← h1, List.length_map]
  obtain ⟨a, ha⟩ := parse_back i h
  have hsplit : imgWs i = (imgWs i).take m ++ (imgWs i).drop m := (List.take_append_drop m _).symm
  rw [hsplit] at ha
  obtain ⟨q, hq⟩ := parse_pre _ _ _ _ _ _ ha
  rw [parse_same]
  unfold parseW
  rw [lines_text _ (fun l hl => by
    rcases List.mem_append.1 hl with hl | hl
    · exact h2 l (List.mem_of_mem_take hl)
    · rcases List.mem_cons.1 hl with rfl | hl
      · exact hb.2
      · exact h2 l (List.mem_of_mem_drop hl))]
  have e : ((imgLs i).take m ++ badW n :: (imgLs i).drop m).map (fun l => spR l []) = (imgWs i).take m ++ badWs n :: (imgWs i).drop m := by
    rw [List.map_append, List.map_cons, hb.1, ← h1, List.map_take, List.map_drop]
  rw [e, parse_app _ _ _ _ _ _ hq]
  have hpos : q.at' ≠ 0 ∨ n ≠ 1 := by
    by_cases hm0 : m = 0
    · exact .inr (h0.resolve_left (by simp [hm0]))
    · left
      obtain ⟨m, rfl⟩ : ∃ k, m = k + 1 := ⟨m - 1, by omega⟩
      have hw : ∃ w v rest, (imgWs i).take (m + 1) = (w :: v) :: rest := ⟨kApplet, [i.name], _, by unfold imgWs; rfl⟩
      obtain ⟨w, v, rest, hw⟩ := hw
      rw [hw, parseL] at hq
      cases hs : lineR UU p0R (w :: v) with
      | none => rw [hs] at hq; cases hq
      | some q1 =>
        rw [hs] at hq
        exact parse_pos rest _ q1 q hq (step_pos hs)
  have hnone := bad_none q n hn hpos
  obtain ⟨w, v, hw⟩ : ∃ w v, badWs n = w :: v := by
    have h5 : n = 0 ∨ n = 1 ∨ n = 2 ∨ n = 3 ∨ n = 4 := by omega
    rcases h5 with rfl | rfl | rfl | rfl | rfl <;> exact ⟨_, _, rfl⟩
  rw [hw, parseL, ← hw, hnone]
  simp only [List.length_take, hlen, Nat.zero_add]
  rw [Nat.min_eq_left hm]
end Go.Tcn
namespace Go.Tcn
open Go.RowKit
set_option linter.unusedVariables false
set_option linter.unusedSimpArgs false
theorem text_cons (l : Wd) (ls : List Wd) : textOf (l :: ls) = l ++ 10 :: textOf ls := by simp [textOf]
/-- How many lines' ends. -/
def cntW (s : Wd) : Nat := s.countP (· == 10)
theorem cntW_le (s : Wd) : cntW s ≤ s.length := List.countP_le_length
theorem cntW_snoc (s : Wd) (c : UInt8) : cntW (s ++ [c]) = if c = 10 then cntW s + 1 else cntW s := by
  unfold cntW
  rw [List.countP_append]
  by_cases h : c = 10 <;> simp [h]
theorem cntW_text : ∀ ls : List Wd, (∀ l ∈ ls, (10 : UInt8) ∉ l) → cntW (textOf ls) = ls.length
  | [], _ => rfl
  | l :: ls, h => by
    have h1 : cntW l = 0 := by
      unfold cntW
      rw [List.countP_eq_zero]
      intro c hc e
      have : c = 10 := by simpa using e
      exact h l (by simp) (this ▸ hc)
    have ih := cntW_text ls (fun x hx => h x (by simp [hx]))
    unfold cntW at *
    rw [text_cons, List.countP_append, List.countP_cons, h1, ih]
    simp
/-- One byte of a text into which a wrong line is set. -/
def splS (bad : Wd) (m : Nat) (p : Wd × Nat) (c : UInt8) : Wd × Nat :=
  if c = 10 then (if p.2 + 1 = m then p.1 ++ [c] ++ bad ++ [10] else p.1 ++ [c], p.2 + 1) else (p.1 ++ [c], p.2)
def splW (bad : Wd) (m : Nat) (o : Wd) (s : Wd) : Wd × Nat := s.foldl (splS bad m) (o, 0)
theorem splW_snoc (bad : Wd) (m : Nat) (o s : Wd) (c : UInt8) : splW bad m o (s ++ [c]) = splS bad m (splW bad m o s) c := by
  unfold splW
  rw [List.foldl_append]
  rfl
theorem spl_line (bad : Wd) (m : Nat) : ∀ (l : Wd) (o : Wd) (n : Nat), (10 : UInt8) ∉ l → l.foldl (splS bad m) (o, n) = (o ++ l, n)
  | [], o, n, _ => by simp
  | c :: l, o, n, h => by
    have hc : c ≠ 10 := fun e => h (by simp [e])
    rw [List.foldl_cons, show splS bad m (o, n) c = (o ++ [c], n) by simp [splS, hc], spl_line bad m l _ _ (fun e => h (by simp [e]))]
    simp
theorem spl_past (bad : Wd) (m : Nat) : ∀ (ls : List Wd) (o : Wd) (n : Nat), (∀ l ∈ ls, (10 : UInt8) ∉ l) → m ≤ n → (textOf ls).foldl (splS bad m) (o, n) = (o ++ textOf ls, n + ls.length)
  | [], o, n, _, _ => by simp [textOf]
  | l :: ls, o, n, h, hm => by
    have e : splS bad m (o ++ l, n) 10 = (o ++ l ++ [10], n + 1) := by
      have : ¬ n + 1 = m := by omega
      simp [splS, this]
    rw [text_cons, List.foldl_append, spl_line bad m l _ _ (h l (by simp)), List.foldl_cons, e, spl_past bad m ls _ _ (fun x hx => h x (by simp [hx])) (by omega)]
    simp; omega
theorem spl_text (bad : Wd) (m : Nat) : ∀ (ls : List Wd) (o : Wd) (n : Nat), (∀ l ∈ ls, (10 : UInt8) ∉ l) → n < m → m ≤ n + ls.length → (textOf ls).foldl (splS bad m) (o, n) = (o ++ textOf (ls.take (m - n) ++ bad :: ls.drop (m - n)), n + ls.length)
  | [], o, n, _, h1, h2 => by simp at h2; omega
  | l :: ls, o, n, h, h1, h2 => by
    rw [text_cons, List.foldl_append, spl_line bad m l _ _ (h l (by simp)), List.foldl_cons]
    have hl : ∀ x ∈ ls, (10 : UInt8) ∉ x := fun x hx => h x (by simp [hx])
    by_cases hm : n + 1 = m
    · have e : splS bad m (o ++ l, n) 10 = (o ++ l ++ [10] ++ bad ++ [10], n + 1) := by simp [splS, hm]
      rw [e, spl_past bad m ls _ _ hl (by omega), show m - n = 1 by omega]
      simp [text_cons]; omega
    · have e : splS bad m (o ++ l, n) 10 = (o ++ l ++ [10], n + 1) := by simp [splS, hm]
      simp only [List.length_cons] at h2
      obtain ⟨d, hd⟩ : ∃ d, m - n = d + 1 := ⟨m - n - 1, by omega⟩
      rw [e, spl_text bad m ls _ _ hl (by omega) (by omega), hd, show m - (n + 1) = d by omega]
      simp [text_cons]; omega
/-- THE LAW: the loop's text. -/
theorem splW_text (bad : Wd) (m : Nat) (ls : List Wd) (h : ∀ l ∈ ls, (10 : UInt8) ∉ l) (hm : m ≤ ls.length) : (splW bad m (if m = 0 then bad ++ [10] else []) (textOf ls)).1 = textOf (ls.take m ++ bad :: ls.drop m) := by
  unfold splW
  by_cases h0 : m = 0
  · subst h0
    rw [if_pos rfl, spl_past bad 0 ls _ _ h (by omega)]
    simp [text_cons]
  · rw [if_neg h0, spl_text bad m ls _ _ h (by omega) (by omega)]
    simp
theorem splS_len (bad : Wd) (m : Nat) (p : Wd × Nat) (c : UInt8) : (splS bad m p c).1.length ≤ p.1.length + (bad.length + 2) ∧ p.1.length ≤ (splS bad m p c).1.length ∧ (splS bad m p c).2 ≤ p.2 + 1 := by
  unfold splS
  by_cases h : c = 10
  · by_cases h2 : p.2 + 1 = m <;> simp [h, h2] <;> omega
  · simp [h]
theorem splW_len (bad : Wd) (m : Nat) (o : Wd) (s : Wd) : (splW bad m o s).1.length ≤ o.length + (bad.length + 2) * s.length ∧ (splW bad m o s).2 ≤ s.length := by
  unfold splW
  have : ∀ (s : Wd) (p : Wd × Nat), (s.foldl (splS bad m) p).1.length ≤ p.1.length + (bad.length + 2) * s.length ∧ (s.foldl (splS bad m) p).2 ≤ p.2 + s.length := by
    intro s
    induction s with
    | nil => intro p; simp
    | cons c s ih =>
      intro p
      have h1 := splS_len bad m p c
      have h2 := ih (splS bad m p c)
      rw [List.foldl_cons, List.length_cons, Nat.mul_succ]
      omega
  have := this s (o, 0)
  simpa using this
/-- What stands behind line n. -/
def noteAt (ns : List Int) (n : Nat) : Wd := match ns[n]? with
  | some m => noteW m
  | none => []
theorem noteAt_yes {ns : List Int} {n : Nat} (h : n < ns.length) : noteAt ns n = noteW ns[n] := by simp [noteAt, h]
theorem noteAt_no {ns : List Int} {n : Nat} (h : ¬ n < ns.length) : noteAt ns n = [] := by simp [noteAt, h]
theorem noteW_len (n : Int) : (noteW n).length ≤ 9 := by
  unfold noteW
  repeat' split
  all_goals decide
theorem noteAt_len (ns : List Int) (n : Nat) : (noteAt ns n).length ≤ 9 := by
  unfold noteAt
  split
  · exact noteW_len _
  · simp
def notS (ns : List Int) (p : Wd × Nat) (c : UInt8) : Wd × Nat :=
  if c = 10 then (p.1 ++ [c] ++ noteAt ns p.2, p.2 + 1) else (p.1 ++ [c], p.2)
def notW (ns : List Int) (s : Wd) : Wd × Nat := s.foldl (notS ns) ([], 0)
theorem notW_snoc (ns : List Int) (s : Wd) (c : UInt8) : notW ns (s ++ [c]) = notS ns (notW ns s) c := by
  unfold notW
  rw [List.foldl_append]
  rfl
theorem not_line (ns : List Int) : ∀ (l : Wd) (o : Wd) (n : Nat), (10 : UInt8) ∉ l → l.foldl (notS ns) (o, n) = (o ++ l, n)
  | [], o, n, _ => by simp
  | c :: l, o, n, h => by
    have hc : c ≠ 10 := fun e => h (by simp [e])
    rw [List.foldl_cons, show notS ns (o, n) c = (o ++ [c], n) by simp [notS, hc], not_line ns l _ _ (fun e => h (by simp [e]))]
    simp
theorem not_text (ns : List Int) : ∀ (ls : List Wd) (o : Wd) (n : Nat), (∀ l ∈ ls, (10 : UInt8) ∉ l) → (textOf ls).foldl (notS ns) (o, n) = (o ++ textN ls (ns.drop n), n + ls.length)
  | [], o, n, _ => by simp [textOf, textN]
  | l :: ls, o, n, h => by
    have e : notS ns (o ++ l, n) 10 = (o ++ l ++ [10] ++ noteAt ns n, n + 1) := by simp [notS]
    rw [text_cons, List.foldl_append, not_line ns l _ _ (h l (by simp)), List.foldl_cons, e, not_text ns ls _ _ (fun x hx => h x (by simp [hx]))]
    by_cases hn : n < ns.length
    · have hd : ns.drop n = ns[n] :: ns.drop (n + 1) := List.drop_eq_getElem_cons hn
      rw [noteAt_yes hn, hd, textN]
      simp; omega
    · rw [noteAt_no hn, List.drop_eq_nil_of_le (by omega), List.drop_eq_nil_of_le (by omega), textN]
      simp; omega
/-- THE LAW: the loop's text. -/
theorem notW_text (ns : List Int) (ls : List Wd) (h : ∀ l ∈ ls, (10 : UInt8) ∉ l) : (notW ns (textOf ls)).1 = textN ls ns := by
  unfold notW
  rw [not_text ns ls _ _ h]
  simp
theorem notW_len (ns : List Int) (s : Wd) : (notW ns s).1.length ≤ 10 * s.length ∧ (notW ns s).2 ≤ s.length := by
  unfold notW
  have : ∀ (s : Wd) (p : Wd × Nat), (s.foldl (notS ns) p).1.length ≤ p.1.length + 10 * s.length ∧ (s.foldl (notS ns) p).2 ≤ p.2 + s.length := by
    intro s
    induction s with
    | nil => intro p; simp
    | cons c s ih =>
      intro p
      have h1 : (notS ns p c).1.length ≤ p.1.length + 10 ∧ (notS ns p c).2 ≤ p.2 + 1 := by
        have := noteAt_len ns p.2
        unfold notS
        by_cases h : c = 10 <;> simp [h] <;> omega
      have h2 := ih (notS ns p c)
      rw [List.foldl_cons, List.length_cons]
      omega
  have := this s ([], 0)
  simpa using this
end Go.Tcn
