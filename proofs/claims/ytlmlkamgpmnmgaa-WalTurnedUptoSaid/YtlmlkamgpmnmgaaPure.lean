/-
  Plain facts about a scan: a laid log is found again, whole or cut off; what is found of the first bytes is the begin of what is found of more.
-/
import Derived.Test.YtlmlkamgpmnmgaaEach
import Derived.Test.YtlmlkamgpmnmgaaLay
set_option linter.unusedVariables false
set_option linter.unusedSimpArgs false
namespace Go.Proofs.Ytlmlkamgpmnmgaa
open Go.RowKit Go.Proofs.YtlmlkamgpmnmgaaW.PrintWords
theorem beN_fold (k n : Nat) : ∀ a : Nat, (be k n).foldl (fun a b => a * 256 + b.toNat) a = a * 256 ^ k + n % 256 ^ k := by
  induction k with
  | zero => intro a; simp [be, Nat.mod_one]
  | succ k ih =>
    intro a
    simp only [be, List.foldl_cons, ih]
    have h : (UInt8.ofNat (n / 256 ^ k)).toNat = n / 256 ^ k % 256 := by simp
    rw [h, Nat.mod_pow_succ, Nat.pow_succ, Nat.add_mul, Nat.mul_comm (n / 256 ^ k % 256), Nat.mul_assoc, Nat.mul_comm 256 (256 ^ k)]
    omega
theorem beN_be (k n : Nat) (h : n < 256 ^ k) : beN (be k n) = n := by
  have := beN_fold k n 0
  rw [Nat.zero_mul, Nat.zero_add, Nat.mod_eq_of_lt h] at this
  exact this
theorem frag_form (kind : UInt8) (part : List UInt8) : frag kind part = be 4 (crc (kind :: part)) ++ (be 2 part.length ++ ([kind] ++ part)) := by simp [frag]
/-- A fragment's head, where at least its seven bytes are there. -/
theorem head_of {L : List UInt8} {a m : Nat} {kind : UInt8} {part tl : List UInt8} (hd : L.drop a = (frag kind part ++ tl).take m) (hm : 7 ≤ m) (hp : part.length ≤ 65535) :
    (hdOf L a).kind = kind ∧ (hdOf L a).sum = crc (kind :: part) ∧ (hdOf L a).len = part.length := by
  have h4 : (L.drop a).take 4 = be 4 (crc (kind :: part)) := by
    rw [hd, List.take_take, Nat.min_eq_left (by omega), frag_form, List.append_assoc, List.take_append_of_le_length (by rw [be_len]; omega), List.take_of_length_le (by rw [be_len]; omega)]
  have h6 : (L.drop (a + 4)).take 2 = be 2 part.length := by
    rw [← List.drop_drop, hd, List.drop_take, List.take_take, Nat.min_eq_left (by omega), frag_form, List.append_assoc, List.drop_left' (be_len _ _), List.append_assoc, List.take_append_of_le_length (by rw [be_len]; omega), List.take_of_length_le (by rw [be_len]; omega)]
  have h7 : L.getD (a + 6) 0 = kind := by
    have h : (L.drop a)[6]? = some kind := by
      rw [hd, List.getElem?_take_of_lt (by omega), frag_form]
      have e : be 4 (crc (kind :: part)) ++ (be 2 part.length ++ ([kind] ++ part)) ++ tl = (be 4 (crc (kind :: part)) ++ be 2 part.length) ++ (kind :: (part ++ tl)) := by simp
      rw [e, List.getElem?_append_right (by simp [be_len])]
      simp [be_len]
    rw [List.getElem?_drop] at h
    rw [List.getD_eq_getElem?_getD, h]
    rfl
  refine ⟨h7, ?_, ?_⟩
  · show beN ((L.drop a).take 4) = _
    rw [h4]
    exact beN_be 4 _ (crc_lt _)
  · show beN ((L.drop (a + 4)).take 2) = _
    rw [h6]
    exact beN_be 2 _ (by omega)
theorem skipR_zero {L : List UInt8} {a : Nat} {inn : Bool} (h : gapN a = 0) : skipR L a inn = (0, a) := by unfold skipR; rw [if_pos h]
/-- A whole fragment is read. -/
theorem next_frag {L : List UInt8} {a : Nat} {inn : Bool} {kind : UInt8} {part tl : List UInt8} (hd : L.drop a = frag kind part ++ tl) (ha : a % 1024 ≤ 1017) (hp : part.length ≤ room a) (hf : fol kind inn = true) :
    nextR L a inn = .ok a ∧ (hdOf L a).kind = kind ∧ partOf L a = part ∧ (hdOf L a).len = part.length ∧ a + 7 + part.length ≤ L.length := by
  have hlen : L.length - a = 7 + part.length + tl.length := by
    have := congrArg List.length hd
    rw [List.length_drop, List.length_append, frag_len] at this
    exact this
  have hr := room_le a
  obtain ⟨h1, h2, h3⟩ := head_of (m := 7 + part.length + tl.length) (kind := kind) (part := part) (tl := tl) (by rw [hd, List.take_of_length_le (by rw [List.length_append, frag_len]; omega)]) (by omega) (by omega)
  have h4 : partOf L a = part := by
    unfold partOf
    rw [h3, ← List.drop_drop, hd, frag, List.append_assoc, List.drop_left' (by simp [be_len]), List.take_left]
  have hh : headR L a inn = .ok (hdOf L a).kind := by
    unfold headR
    rw [if_neg (by omega), if_neg (by omega), if_neg, if_neg (by rw [h3]; omega), if_pos]
    · rw [h1, h4, h2]
    · rw [h1, h3, hf]
      unfold room at hp
      simp
      omega
  refine ⟨?_, h1, h4, h3, by omega⟩
  unfold nextR
  rw [skipR_zero (gapN_zero a ha), if_neg (by simp)]
  simp only [hh]
/-- A fragment that is cut off. -/
theorem next_cut {L : List UInt8} {a m : Nat} {inn : Bool} {kind : UInt8} {part tl : List UInt8} (hL : L.length = a + m) (hd : L.drop a = (frag kind part ++ tl).take m) (hm : m < 7 + part.length) (ha : a % 1024 ≤ 1017) (hp : part.length ≤ room a) (hf : fol kind inn = true) :
    nextR L a inn = .error (if m = 0 ∧ inn = false then 1 else 2) := by
  have hr := room_le a
  have hh : headR L a inn = .error (if m = 0 ∧ inn = false then 1 else 2) := by
    unfold headR
    by_cases h0 : m = 0 ∧ inn = false
    · rw [if_pos h0, if_pos ⟨by omega, h0.2⟩]
    · rw [if_neg h0, if_neg (fun e => h0 ⟨by omega, e.2⟩)]
      by_cases h7 : m < 7
      · rw [if_pos (by omega)]
      · obtain ⟨h1, h2, h3⟩ := head_of hd (by omega) (by omega)
        rw [if_neg (by omega), if_neg, if_pos (by rw [h3]; omega)]
        rw [h1, h3, hf]
        unfold room at hp
        simp
        omega
  unfold nextR
  rw [skipR_zero (gapN_zero a ha), if_neg (by simp)]
  simp only [hh]
/-- More rounds tell the same. -/
theorem scanN_more : ∀ (q q2 : Nat) (L : List UInt8) (pos : Nat) (rec : List UInt8) (inn : Bool) (recs : List ByteArray) (en : Nat), pos ≤ L.length → L.length < pos + q → L.length < pos + q2 → scanN q L pos rec inn recs en = scanN q2 L pos rec inn recs en := by
  intro q
  induction q with
  | zero => intro q2 L pos rec inn recs en h1 h2 h3; omega
  | succ q ih =>
    intro q2 L pos rec inn recs en h1 h2 h3
    obtain ⟨q2, rfl⟩ : ∃ m, q2 = m + 1 := ⟨q2 - 1, by omega⟩
    cases h : nextR L pos inn with
    | error why => rw [scanN_err h, scanN_err h]
    | ok p =>
      obtain ⟨hp1, hp2, _, _⟩ := nextR_ok h1 h
      cases he : isEnd (hdOf L p).kind with
      | true => rw [scanN_end h he, scanN_end h he]; exact ih _ _ _ _ _ _ _ (by omega) (by omega) (by omega)
      | false => rw [scanN_in h he, scanN_in h he]; exact ih _ _ _ _ _ _ _ (by omega) (by omega) (by omega)
/-- What is found from a place on. -/
def scanF (L : List UInt8) (pos : Nat) (rec : List UInt8) (inn : Bool) (recs : List ByteArray) (en : Nat) : List ByteArray × Nat × Nat := scanN (L.length + 1) L pos rec inn recs en
theorem scanF_err {L : List UInt8} {pos why : Nat} {rec : List UInt8} {inn : Bool} {recs : List ByteArray} {en : Nat} (h : nextR L pos inn = .error why) : scanF L pos rec inn recs en = (recs, en, why) := scanN_err h
theorem scanF_end {L : List UInt8} {pos p : Nat} {rec : List UInt8} {inn : Bool} {recs : List ByteArray} {en : Nat} (hp : pos ≤ L.length) (h : nextR L pos inn = .ok p) (he : isEnd (hdOf L p).kind = true) :
    scanF L pos rec inn recs en = scanF L (p + 7 + (hdOf L p).len) [] (isIn (hdOf L p).kind) (recs ++ [⟨(rec ++ partOf L p).toArray⟩]) (p + 7 + (hdOf L p).len) := by
  obtain ⟨h1, h2, _, _⟩ := nextR_ok hp h
  exact (scanN_end h he).trans (scanN_more _ _ _ _ _ _ _ _ (by omega) (by omega) (by omega))
theorem scanF_in {L : List UInt8} {pos p : Nat} {rec : List UInt8} {inn : Bool} {recs : List ByteArray} {en : Nat} (hp : pos ≤ L.length) (h : nextR L pos inn = .ok p) (he : isEnd (hdOf L p).kind = false) :
    scanF L pos rec inn recs en = scanF L (p + 7 + (hdOf L p).len) (rec ++ partOf L p) (isIn (hdOf L p).kind) recs en := by
  obtain ⟨h1, h2, _, _⟩ := nextR_ok hp h
  exact (scanN_in h he).trans (scanN_more _ _ _ _ _ _ _ _ (by omega) (by omega) (by omega))
/-- A record's fragments, behind its gap: they are read whole. -/
theorem scan_layF : ∀ (k : Nat) (L tl : List UInt8) (a : Nat) (first : Bool) (l rec : List UInt8) (recs : List ByteArray) (en : Nat), a ≤ L.length → a % 1024 ≤ 1017 → Fits k a l.length → L.drop a = layF k first a l ++ tl →
    scanF L a rec (!first) recs en = scanF L (a + lenF k a l.length) [] false (recs ++ [⟨(rec ++ l).toArray⟩]) (a + lenF k a l.length) := by
  intro k
  induction k with
  | zero => intro L tl a first l rec recs en _ _ hf; exact absurd hf id
  | succ k ih =>
    intro L tl a first l rec recs en hal ha hf hd
    unfold layF at hd
    unfold Fits at hf
    unfold lenF
    by_cases hl : l.length ≤ room a
    · rw [if_pos hl] at hd
      rw [if_pos hl]
      have hfo : fol (if first then 1 else 4) (!first) = true := by cases first <;> rfl
      obtain ⟨h1, h2, h3, h4, h5⟩ := next_frag hd ha hl hfo
      have hie : isEnd (hdOf L a).kind = true := by rw [h2]; cases first <;> rfl
      have hii : isIn (hdOf L a).kind = false := by rw [h2]; cases first <;> rfl
      rw [scanF_end hal h1 hie, hii, h3, h4, Nat.add_assoc a 7]
    · rw [if_neg hl] at hd
      rw [if_neg hl]
      have hfo : fol (if first then 2 else 3) (!first) = true := by cases first <;> rfl
      have htl : (l.take (room a)).length = room a := by rw [List.length_take]; omega
      rw [List.append_assoc] at hd
      obtain ⟨h1, h2, h3, h4, h5⟩ := next_frag hd ha (by omega) hfo
      have hie : isEnd (hdOf L a).kind = false := by rw [h2]; cases first <;> rfl
      have hii : isIn (hdOf L a).kind = true := by rw [h2]; cases first <;> rfl
      rw [scanF_in hal h1 hie, hii, h3, h4, htl]
      have hd2 : L.drop (a + 7 + room a) = layF k false (a + 7 + room a) (l.drop (room a)) ++ tl := by
        rw [show L.drop (a + 7 + room a) = (L.drop a).drop (7 + room a) from by rw [List.drop_drop, Nat.add_assoc], hd, List.drop_left' (by rw [frag_len, htl])]
      have := ih L tl (a + 7 + room a) false (l.drop (room a)) (rec ++ l.take (room a)) recs en (by omega) (by rw [room_next a ha]; omega) (by rw [List.length_drop]; exact hf.resolve_left hl) hd2
      rw [List.length_drop] at this
      rw [show (true : Bool) = !false from rfl, this, List.append_assoc, List.take_append_drop]
      rw [show a + 7 + room a + lenF k (a + 7 + room a) (l.length - room a) = a + (7 + room a + lenF k (a + 7 + room a) (l.length - room a)) from by omega]
/-- .. and cut off: none is found. -/
theorem scan_layF_cut : ∀ (k : Nat) (L : List UInt8) (m a : Nat) (first : Bool) (l rec : List UInt8) (recs : List ByteArray) (en : Nat), L.length = a + m → a % 1024 ≤ 1017 → Fits k a l.length → L.drop a = (layF k first a l).take m → m < lenF k a l.length →
    ∃ why, scanF L a rec (!first) recs en = (recs, en, why) ∧ (why = 1 ∨ why = 2) := by
  intro k
  induction k with
  | zero => intro L m a first l rec recs en _ _ hf; exact absurd hf id
  | succ k ih =>
    intro L m a first l rec recs en hL ha hf hd hm
    unfold layF at hd
    unfold Fits at hf
    unfold lenF at hm
    have hw : ∀ b : Bool, (if m = 0 ∧ b = false then 1 else 2) = 1 ∨ (if m = 0 ∧ b = false then 1 else 2) = 2 := fun b => by split <;> simp
    by_cases hl : l.length ≤ room a
    · rw [if_pos hl] at hd hm
      have hfo : fol (if first then 1 else 4) (!first) = true := by cases first <;> rfl
      have := next_cut (tl := []) hL (by rw [List.append_nil]; exact hd) (by omega) ha hl hfo
      exact ⟨_, scanF_err this, hw _⟩
    · rw [if_neg hl] at hd hm
      have hfo : fol (if first then 2 else 3) (!first) = true := by cases first <;> rfl
      have htl : (l.take (room a)).length = room a := by rw [List.length_take]; omega
      by_cases hc : m < 7 + room a
      · have := next_cut hL hd (by omega) ha (by omega) hfo
        exact ⟨_, scanF_err this, hw _⟩
      · have hd1 : L.drop a = frag (if first then 2 else 3) (l.take (room a)) ++ (layF k false (a + 7 + room a) (l.drop (room a))).take (m - (7 + room a)) := by
          rw [hd, List.take_append, frag_len, htl, List.take_of_length_le (by rw [frag_len, htl]; omega)]
        obtain ⟨h1, h2, h3, h4, h5⟩ := next_frag hd1 ha (by omega) hfo
        have hie : isEnd (hdOf L a).kind = false := by rw [h2]; cases first <;> rfl
        have hii : isIn (hdOf L a).kind = true := by rw [h2]; cases first <;> rfl
        rw [scanF_in (by omega) h1 hie, hii, h3, h4, htl]
        have hd2 : L.drop (a + 7 + room a) = (layF k false (a + 7 + room a) (l.drop (room a))).take (m - (7 + room a)) := by
          rw [show L.drop (a + 7 + room a) = (L.drop a).drop (7 + room a) from by rw [List.drop_drop, Nat.add_assoc], hd1, List.drop_left' (by rw [frag_len, htl])]
        have hlt : m - (7 + room a) < lenF k (a + 7 + room a) (l.drop (room a)).length := by rw [List.length_drop]; omega
        exact ih L (m - (7 + room a)) (a + 7 + room a) false (l.drop (room a)) (rec ++ l.take (room a)) recs en (by omega) (by rw [room_next a ha]; omega) (by rw [List.length_drop]; exact hf.resolve_left hl) hd2 hlt
theorem allZero_rep (n : Nat) : allZero (List.replicate n 0) = true := by simp [allZero]
theorem scanF_next {L : List UInt8} {p p2 : Nat} {rec : List UInt8} {inn : Bool} {recs : List ByteArray} {en : Nat} (h : nextR L p inn = nextR L p2 inn) : scanF L p rec inn recs en = scanF L p2 rec inn recs en := by
  unfold scanF
  simp only [scanN, h]
/-- A gap is passed over. -/
theorem next_gap {L tl : List UInt8} {p : Nat} {inn : Bool} (hp : p ≤ L.length) (hd : L.drop p = List.replicate (gapN p) 0 ++ tl) : nextR L p inn = nextR L (p + gapN p) inn := by
  have hlen : L.length - p = gapN p + tl.length := by
    have := congrArg List.length hd
    rwa [List.length_drop, List.length_append, List.length_replicate] at this
  have h2 : skipR L (p + gapN p) inn = (0, p + gapN p) := skipR_zero (gap_gap p)
  have h1 : skipR L p inn = (0, p + gapN p) := by
    by_cases h0 : gapN p = 0
    · rw [skipR_zero h0, h0, Nat.add_zero]
    · unfold skipR
      rw [if_neg h0, hd, List.take_left' (by simp), if_pos (allZero_rep _), if_neg (by omega)]
  unfold nextR
  rw [h1, h2]
theorem scan_layA {L tl : List UInt8} {p : Nat} {s : List UInt8} {recs : List ByteArray} {en : Nat} (hp : p ≤ L.length) (hd : L.drop p = layA p s ++ tl) :
    scanF L p [] false recs en = scanF L (p + lenA p s.length) [] false (recs ++ [⟨s.toArray⟩]) (p + lenA p s.length) := by
  unfold layA at hd
  rw [List.append_assoc] at hd
  have hlen : L.length - p = gapN p + ((layF (s.length + 2) true (p + gapN p) s).length + tl.length) := by
    have := congrArg List.length hd
    rwa [List.length_drop, List.length_append, List.length_replicate, List.length_append] at this
  rw [scanF_next (next_gap hp hd)]
  have hd2 : L.drop (p + gapN p) = layF (s.length + 2) true (p + gapN p) s ++ tl := by
    rw [← List.drop_drop, hd, List.drop_left' (by simp)]
  have := scan_layF (s.length + 2) L tl (p + gapN p) true s [] recs en (by omega) (gap_next p) (fits_start _ _ (gap_next p)) hd2
  rw [List.nil_append] at this
  rw [show (false : Bool) = !true from rfl, this]
  unfold lenA
  rw [Nat.add_assoc]
  rfl
theorem scan_layA_cut {L : List UInt8} {p m : Nat} {s : List UInt8} {recs : List ByteArray} {en : Nat} (hL : L.length = p + m) (hd : L.drop p = (layA p s).take m) (hm : m < lenA p s.length) :
    ∃ why, scanF L p [] false recs en = (recs, en, why) ∧ (why = 1 ∨ why = 2) := by
  unfold layA at hd
  unfold lenA at hm
  by_cases hg : m < gapN p
  · have h0 : ¬ gapN p = 0 := by omega
    have hd2 : L.drop p = List.replicate m 0 := by
      rw [hd, List.take_append_of_le_length (by simp; omega), List.take_replicate, Nat.min_eq_left (by omega)]
    have hs : skipR L p false = (if L.length = p ∧ false = false then (1, p) else (2, p)) := by
      unfold skipR
      rw [if_neg h0, hd2, List.take_replicate, if_pos (allZero_rep _), if_pos (by omega)]
    have hn : nextR L p false = .error (if L.length = p ∧ false = false then 1 else 2) := by
      unfold nextR
      rw [hs]
      split <;> rfl
    exact ⟨_, scanF_err hn, by split <;> simp⟩
  · have hd1 : L.drop p = List.replicate (gapN p) 0 ++ (layF (s.length + 2) true (p + gapN p) s).take (m - gapN p) := by
      rw [hd, List.take_append, List.length_replicate, List.take_of_length_le (by simp; omega)]
    have hd2 : L.drop (p + gapN p) = (layF (s.length + 2) true (p + gapN p) s).take (m - gapN p) := by
      rw [← List.drop_drop, hd1, List.drop_left' (by simp)]
    rw [scanF_next (next_gap (by omega) hd1)]
    exact scan_layF_cut (s.length + 2) L (m - gapN p) (p + gapN p) true s [] recs en (by omega) (gap_next p) (fits_start _ _ (gap_next p)) hd2 (by omega)
theorem scan_end (L : List UInt8) (recs : List ByteArray) (en : Nat) : scanF L L.length [] false recs en = (recs, en, 1) := by
  refine scanF_err ?_
  unfold nextR
  by_cases h0 : gapN L.length = 0
  · rw [skipR_zero h0, if_neg (by simp)]
    have : headR L L.length false = .error 1 := by unfold headR; rw [if_pos ⟨rfl, rfl⟩]
    simp only [this]
  · have hs : skipR L L.length false = (1, L.length) := by
      unfold skipR
      rw [if_neg h0, List.drop_length, List.take_nil, if_pos (by rfl), if_pos (by omega), if_pos ⟨rfl, rfl⟩]
    rw [hs]
    rfl
/-- What is found of the first bytes is the begin of what is found of more. -/
theorem hdOf_longer {L M : List UInt8} {p : Nat} (h : p + 7 ≤ L.length) : hdOf (L ++ M) p = hdOf L p := by
  unfold hdOf
  have h1 : (L ++ M).getD (p + 6) 0 = L.getD (p + 6) 0 := by
    rw [List.getD_eq_getElem?_getD, List.getD_eq_getElem?_getD, List.getElem?_append_left (by omega)]
  have h2 : ((L ++ M).drop p).take 4 = (L.drop p).take 4 := by
    rw [List.drop_append_of_le_length (by omega), List.take_append_of_le_length (by rw [List.length_drop]; omega)]
  have h3 : ((L ++ M).drop (p + 4)).take 2 = (L.drop (p + 4)).take 2 := by
    rw [List.drop_append_of_le_length (by omega), List.take_append_of_le_length (by rw [List.length_drop]; omega)]
  rw [h1, h2, h3]
theorem partOf_longer {L M : List UInt8} {p : Nat} (h : p + 7 + (hdOf L p).len ≤ L.length) : partOf (L ++ M) p = partOf L p := by
  unfold partOf
  rw [hdOf_longer (by omega), List.drop_append_of_le_length (by omega), List.take_append_of_le_length (by rw [List.length_drop]; omega)]
theorem skipR_ok {L : List UInt8} {pos : Nat} {inn : Bool} (h : (skipR L pos inn).1 = 0) : (gapN pos = 0 ∧ skipR L pos inn = (0, pos)) ∨ (¬ gapN pos = 0 ∧ allZero ((L.drop pos).take (gapN pos)) = true ∧ pos + gapN pos ≤ L.length ∧ skipR L pos inn = (0, pos + gapN pos)) := by
  by_cases h0 : gapN pos = 0
  · exact .inl ⟨h0, skipR_zero h0⟩
  · refine .inr ⟨h0, ?_⟩
    unfold skipR at h ⊢
    rw [if_neg h0] at h ⊢
    by_cases hz : allZero ((L.drop pos).take (gapN pos)) = true
    · rw [if_pos hz] at h ⊢
      by_cases hl : L.length < pos + gapN pos
      · rw [if_pos hl] at h
        split at h <;> cases h
      · rw [if_neg hl]
        exact ⟨hz, by omega, rfl⟩
    · rw [if_neg hz] at h
      cases h
theorem nextR_longer {L M : List UInt8} {pos p : Nat} {inn : Bool} (hp : pos ≤ L.length) (h : nextR L pos inn = .ok p) : nextR (L ++ M) pos inn = .ok p := by
  obtain ⟨h1, h2, h3, hh⟩ := nextR_ok hp h
  have hsk : (skipR L pos inn).1 = 0 ∧ (skipR L pos inn).2 = p := by
    unfold nextR at h
    by_cases h0 : (skipR L pos inn).1 ≠ 0
    · rw [if_pos h0] at h; cases h
    · rw [if_neg h0] at h
      refine ⟨by omega, ?_⟩
      cases hx : headR L (skipR L pos inn).2 inn with
      | error why => rw [hx] at h; cases h
      | ok k => rw [hx] at h; injection h
  have hsk2 : skipR (L ++ M) pos inn = (0, p) := by
    rcases skipR_ok hsk.1 with ⟨g0, e⟩ | ⟨g0, hz, hl, e⟩
    · rw [e] at hsk
      rw [skipR_zero g0, ← hsk.2]
    · rw [e] at hsk
      have hp2 : pos + gapN pos = p := hsk.2
      unfold skipR
      rw [if_neg g0, List.drop_append_of_le_length hp, List.take_append_of_le_length (by rw [List.length_drop]; omega), if_pos hz, if_neg (by rw [List.length_append]; omega), hp2]
  have hh2 : headR (L ++ M) p inn = .ok (hdOf L p).kind := by
    unfold headR at hh ⊢
    rw [hdOf_longer (by omega), partOf_longer h2, List.length_append]
    rw [if_neg (by omega), if_neg (by omega)] at hh ⊢
    split at hh
    · cases hh
    · rename_i hb
      rw [if_neg hb]
      rw [if_neg (by omega)] at hh ⊢
      exact hh
  unfold nextR
  rw [hsk2, if_neg (by simp)]
  simp only [hh2]
theorem scanN_begin : ∀ (q : Nat) (L : List UInt8) (pos : Nat) (rec : List UInt8) (inn : Bool) (recs : List ByteArray) (en : Nat), recs <+: (scanN q L pos rec inn recs en).1 := by
  intro q
  induction q with
  | zero => intro L pos rec inn recs en; exact List.prefix_refl _
  | succ q ih =>
    intro L pos rec inn recs en
    cases h : nextR L pos inn with
    | error why => rw [scanN_err h]; exact List.prefix_refl _
    | ok p =>
      cases he : isEnd (hdOf L p).kind with
      | true => rw [scanN_end h he]; exact (List.prefix_append _ _).trans (ih _ _ _ _ _ _)
      | false => rw [scanN_in h he]; exact ih _ _ _ _ _ _
theorem scan_longer : ∀ (q q2 : Nat) (L M : List UInt8) (pos : Nat) (rec : List UInt8) (inn : Bool) (recs : List ByteArray) (en : Nat), pos ≤ L.length → q ≤ q2 → (scanN q L pos rec inn recs en).1 <+: (scanN q2 (L ++ M) pos rec inn recs en).1 := by
  intro q
  induction q with
  | zero => intro q2 L M pos rec inn recs en _ _; exact scanN_begin _ _ _ _ _ _ _
  | succ q ih =>
    intro q2 L M pos rec inn recs en hp hq
    obtain ⟨q2, rfl⟩ : ∃ m, q2 = m + 1 := ⟨q2 - 1, by omega⟩
    cases h : nextR L pos inn with
    | error why => rw [scanN_err h]; exact scanN_begin _ _ _ _ _ _ _
    | ok p =>
      obtain ⟨h1, h2, h3, _⟩ := nextR_ok hp h
      have h' := nextR_longer (M := M) hp h
      have hh := hdOf_longer (L := L) (M := M) (p := p) (by omega)
      have hpp := partOf_longer (L := L) (M := M) h2
      cases he : isEnd (hdOf L p).kind with
      | true =>
        rw [scanN_end h he, scanN_end h' (by rw [hh]; exact he), hh, hpp]
        exact ih _ _ _ _ _ _ _ _ h2 (by omega)
      | false =>
        rw [scanN_in h he, scanN_in h' (by rw [hh]; exact he), hh, hpp]
        exact ih _ _ _ _ _ _ _ _ h2 (by omega)
theorem scanR_longer (L M : List UInt8) : (scanR L).1 <+: (scanR (L ++ M)).1 := scan_longer _ _ L M 0 [] false [] 0 (Nat.zero_le _) (by rw [List.length_append]; omega)
end Go.Proofs.Ytlmlkamgpmnmgaa
