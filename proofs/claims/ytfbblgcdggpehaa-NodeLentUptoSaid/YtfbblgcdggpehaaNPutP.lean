/- Plain laws of Put, Del and Find. Conditions: none. -/
import Derived.Test.YtfbblgcdggpehaaNDelN
namespace Go.Proofs.Ytfbblgcdggpehaa
set_option linter.unusedSimpArgs false
set_option linter.unusedVariables false
open Go.RowKit

theorem fhas_lt {K : List (List UInt8)} {k : List UInt8} (h : fhas K k = true) : fpos K k < K.length ∧ K[fpos K k]? = some k := by
  unfold fhas at h
  rw [decide_eq_true_eq] at h
  exact ⟨(List.getElem?_eq_some_iff.1 h).1, h⟩
theorem ins_get_lt {α : Type} (l : List α) (p i : Nat) (a : α) (hp : p ≤ l.length) (hi : i < p) : (l.take p ++ a :: l.drop p)[i]? = l[i]? := by
  rw [List.getElem?_append_left (by simp; omega), List.getElem?_take, if_pos hi]
theorem ins_get_at {α : Type} (l : List α) (p : Nat) (a : α) (hp : p ≤ l.length) : (l.take p ++ a :: l.drop p)[p]? = some a := by
  rw [List.getElem?_append_right (by simp; omega)]
  have : p - (l.take p).length = 0 := by simp; omega
  rw [this]; rfl
theorem ins_erase {α : Type} (l : List α) (p : Nat) (a : α) (hp : p ≤ l.length) : (l.take p ++ a :: l.drop p).eraseIdx p = l := by
  rw [List.eraseIdx_append_of_length_le (by simp; omega)]
  have : p - (l.take p).length = 0 := by simp; omega
  rw [this]
  simp
/-- a key that was put in is found where it would have been -/
theorem fpos_ins (K : List (List UInt8)) (k : List UInt8) : fpos (K.take (fpos K k) ++ k :: K.drop (fpos K k)) k = fpos K k := by
  have hp := fpos_le K k
  refine fpos_is _ _ _ (by simp; omega) (fun i x hi hx => ?_) (fun x hx => ?_)
  · rw [ins_get_lt K _ i k hp hi] at hx
    exact fpos_less K k i x hi hx
  · rw [ins_get_at K _ k hp] at hx
    obtain rfl := Option.some.inj hx
    exact less_irr k
theorem fhas_ins (K : List (List UInt8)) (k : List UInt8) : fhas (K.take (fpos K k) ++ k :: K.drop (fpos K k)) k = true := by
  unfold fhas
  rw [fpos_ins, ins_get_at K _ k (fpos_le K k)]
  simp
/-- a key that was taken out of a rising list is not there -/
theorem fhas_erase {K : List (List UInt8)} {k : List UInt8} (hok : ∀ (i : Nat) (a b : List UInt8), K[i]? = some a → K[i + 1]? = some b → lessB a b = true) (h : fhas K k = true) : fhas (K.eraseIdx (fpos K k)) k = false := by
  obtain ⟨hl, hk⟩ := fhas_lt h
  obtain ⟨p, hp⟩ : ∃ p, fpos K k = p := ⟨_, rfl⟩
  have hless := fpos_less K k
  rw [hp] at hl hk hless ⊢
  have hn : ∀ x, (K.eraseIdx p)[p]? = some x → lessB k x = true := by
    intro x hx
    rw [List.getElem?_eraseIdx, if_neg (by omega)] at hx
    exact hok p k x hk hx
  have hpos : fpos (K.eraseIdx p) k = p := by
    refine fpos_is _ _ _ (by rw [List.length_eraseIdx, if_pos hl]; omega) (fun i x hi hx => ?_) (fun x hx => less_asymm _ _ (hn x hx))
    rw [List.getElem?_eraseIdx, if_pos hi] at hx
    exact hless i x hi hx
  unfold fhas
  rw [hpos]
  apply Bool.eq_false_iff.2
  rw [Ne, decide_eq_true_eq]
  intro hx
  have := hn k hx
  rw [less_irr] at this; cases this

theorem Nd.put_leaf (x : Nd) (k v : List UInt8) : (x.put k v).leaf = x.leaf := by unfold Nd.put; (repeat split) <;> rfl
theorem Nd.put_next (x : Nd) (k v : List UInt8) : (x.put k v).next = x.next := by unfold Nd.put; (repeat split) <;> rfl
theorem Nd.put_kids (x : Nd) (k v : List UInt8) : (x.put k v).kids = x.kids := by unfold Nd.put; (repeat split) <;> rfl
theorem Nd.del_leaf (x : Nd) (k : List UInt8) : (x.del k).leaf = x.leaf := by unfold Nd.del; split <;> rfl
theorem Nd.del_next (x : Nd) (k : List UInt8) : (x.del k).next = x.next := by unfold Nd.del; split <;> rfl
theorem Nd.del_kids (x : Nd) (k : List UInt8) : (x.del k).kids = x.kids := by unfold Nd.del; split <;> rfl
theorem Nd.put_inner (x : Nd) (k v : List UInt8) (h : x.leaf = false) : x.put k v = x := by unfold Nd.put; rw [if_neg (by rw [h]; simp)]
theorem Nd.put_has {x : Nd} (k v : List UInt8) (h1 : x.leaf = true) (h2 : x.fits = true) (h3 : fhas x.keys k = true) : x.put k v = ⟨x.leaf, x.keys, x.vals.set (fpos x.keys k) v, x.kids, x.next⟩ := by
  unfold Nd.put; rw [if_pos (by rw [h1, h2]; rfl), if_pos h3]
theorem Nd.put_new {x : Nd} (k v : List UInt8) (h1 : x.leaf = true) (h2 : x.fits = true) (h3 : fhas x.keys k = false) :
    x.put k v = ⟨x.leaf, x.keys.take (fpos x.keys k) ++ k :: x.keys.drop (fpos x.keys k), x.vals.take (fpos x.keys k) ++ v :: x.vals.drop (fpos x.keys k), x.kids, x.next⟩ := by
  unfold Nd.put; rw [if_pos (by rw [h1, h2]; rfl), if_neg (by rw [h3]; decide)]
theorem Nd.del_no {x : Nd} {k : List UInt8} (h : x.delOk k = false) : x.del k = x := by unfold Nd.del; rw [if_neg (by rw [h]; decide)]
theorem Nd.del_yes {x : Nd} {k : List UInt8} (h : x.delOk k = true) : x.del k = ⟨x.leaf, x.keys.eraseIdx (fpos x.keys k), x.vals.eraseIdx (fpos x.keys k), x.kids, x.next⟩ := by unfold Nd.del; rw [if_pos h]
theorem Nd.delOk_inner {x : Nd} (k : List UInt8) (h : x.leaf = false) : x.delOk k = false := by unfold Nd.delOk; rw [h]; rfl
theorem Nd.delOk_leaf {x : Nd} (k : List UInt8) (h1 : x.leaf = true) (h2 : x.fits = true) : x.delOk k = fhas x.keys k := by unfold Nd.delOk; rw [h1, h2]; simp

theorem fits_leaf {x : Nd} (h1 : x.leaf = true) (h2 : x.fits = true) : x.vals.length = x.keys.length ∧ x.kids.length = 0 := by
  unfold Nd.fits fitsB at h2
  rw [h1] at h2
  simpa using h2
theorem leaf_fits {x : Nd} (h1 : x.leaf = true) (h2 : x.vals.length = x.keys.length) (h3 : x.kids.length = 0) : x.fits = true := by
  unfold Nd.fits fitsB
  rw [h1]
  simp [h2, h3]
theorem Nd.put_fits {x : Nd} (k v : List UInt8) (h1 : x.leaf = true) (h2 : x.fits = true) : (x.put k v).fits = true := by
  obtain ⟨h4, h5⟩ := fits_leaf h1 h2
  have hp := fpos_le x.keys k
  cases h3 : fhas x.keys k with
  | true => rw [Nd.put_has k v h1 h2 h3]; exact leaf_fits h1 (by simpa using h4) h5
  | false => rw [Nd.put_new k v h1 h2 h3]; exact leaf_fits h1 (by simp only []; rw [ins_len _ _ _ (by omega), ins_len _ _ _ hp, h4]) h5
theorem Nd.put_find {x : Nd} (k v : List UInt8) (h1 : x.leaf = true) (h2 : x.fits = true) : fhas (x.put k v).keys k = true ∧ fpos (x.put k v).keys k = fpos x.keys k ∧ (x.put k v).vals[fpos x.keys k]? = some v := by
  obtain ⟨h4, h5⟩ := fits_leaf h1 h2
  have hp := fpos_le x.keys k
  cases h3 : fhas x.keys k with
  | true =>
    rw [Nd.put_has k v h1 h2 h3]
    refine ⟨h3, rfl, ?_⟩
    have := (fhas_lt h3).1
    simp only [List.getElem?_set_self (show fpos x.keys k < x.vals.length by omega)]
  | false =>
    rw [Nd.put_new k v h1 h2 h3]
    exact ⟨fhas_ins _ _, fpos_ins _ _, ins_get_at _ _ _ (by omega)⟩
theorem Nd.put_len {x : Nd} (k v : List UInt8) (h1 : x.leaf = true) (h2 : x.fits = true) : (x.put k v).keys.length = x.keys.length + (if fhas x.keys k then 0 else 1) := by
  cases h3 : fhas x.keys k with
  | true => rw [Nd.put_has k v h1 h2 h3]; rfl
  | false => rw [Nd.put_new k v h1 h2 h3]; exact ins_len _ _ _ (fpos_le _ _)
theorem Nd.put_del {x : Nd} (k v : List UInt8) (h1 : x.leaf = true) (h2 : x.fits = true) (h3 : fhas x.keys k = false) : (x.put k v).del k = x := by
  obtain ⟨h4, h5⟩ := fits_leaf h1 h2
  have hf := Nd.put_fits k v h1 h2
  have hl := (Nd.put_leaf x k v).trans h1
  obtain ⟨h6, h7, _⟩ := Nd.put_find k v h1 h2
  rw [Nd.del_yes (by rw [Nd.delOk_leaf k hl hf]; exact h6), h7, Nd.put_new k v h1 h2 h3]
  have hp := fpos_le x.keys k
  simp only [ins_erase _ _ _ hp, ins_erase _ _ _ (show fpos x.keys k ≤ x.vals.length by omega)]
theorem Nd.del_find {x : Nd} (k : List UInt8) (h1 : x.leaf = true) (h2 : x.fits = true) (hok : ∀ (i : Nat) (a b : List UInt8), x.keys[i]? = some a → x.keys[i + 1]? = some b → lessB a b = true) : fhas (x.del k).keys k = false := by
  cases h3 : fhas x.keys k with
  | true => rw [Nd.del_yes (by rw [Nd.delOk_leaf k h1 h2]; exact h3)]; exact fhas_erase hok h3
  | false => rw [Nd.del_no (by rw [Nd.delOk_leaf k h1 h2]; exact h3)]; exact h3
theorem Nd.del_fits {x : Nd} (k : List UInt8) (h1 : x.leaf = true) (h2 : x.fits = true) : (x.del k).fits = true := by
  obtain ⟨h4, h5⟩ := fits_leaf h1 h2
  cases h3 : fhas x.keys k with
  | true =>
    rw [Nd.del_yes (by rw [Nd.delOk_leaf k h1 h2]; exact h3)]
    have := (fhas_lt h3).1
    exact leaf_fits h1 (by simp only [List.length_eraseIdx]; rw [h4]) h5
  | false => rw [Nd.del_no (by rw [Nd.delOk_leaf k h1 h2]; exact h3)]; exact h2

theorem Nd.small.put {x : Nd} (h : x.small) {k v : List UInt8} (hk : x.keys.length + 1 ≤ 1048576) (hv : x.vals.length + 1 ≤ 1048576) (hkl : k.length ≤ 1048576) (hvl : v.length ≤ 1048576) : (x.put k v).small := by
  unfold Nd.put
  split
  · split
    · refine ⟨h.keys, by simpa using h.vals, h.kids, h.keys2, fun l hl => ?_⟩
      rcases List.mem_or_eq_of_mem_set hl with hl | rfl
      · exact h.vals2 l hl
      · exact hvl
    · refine ⟨by simp; omega, by simp; omega, h.kids, fun l hl => ?_, fun l hl => ?_⟩
      · rcases List.mem_append.1 hl with hl | hl
        · exact h.keys2 l (List.mem_of_mem_take hl)
        · rcases List.mem_cons.1 hl with rfl | hl
          · exact hkl
          · exact h.keys2 l (List.mem_of_mem_drop hl)
      · rcases List.mem_append.1 hl with hl | hl
        · exact h.vals2 l (List.mem_of_mem_take hl)
        · rcases List.mem_cons.1 hl with rfl | hl
          · exact hvl
          · exact h.vals2 l (List.mem_of_mem_drop hl)
  · exact h
theorem Nd.small.del {x : Nd} (h : x.small) (k : List UInt8) : (x.del k).small := by
  unfold Nd.del
  split
  · refine ⟨by have := h.keys; simp only [List.length_eraseIdx]; split <;> omega, by have := h.vals; simp only [List.length_eraseIdx]; split <;> omega, h.kids, fun l hl => h.keys2 l (List.mem_of_mem_eraseIdx hl), fun l hl => h.vals2 l (List.mem_of_mem_eraseIdx hl)⟩
  · exact h

end Go.Proofs.Ytfbblgcdggpehaa
