/- What key.text answers, for all bytes. Conditions: at most 2^40 bytes. -/
import Derived.Test.YtblpmbbodajjeaaKClean
namespace Go.Proofs.Ytblpmbbodajjeaa
set_option linter.unusedSimpArgs false
set_option linter.unusedVariables false
open Go.RowKit
open K (Val enc esc be8 cmpI cmpV clean txt txtAt)

/-- the three results of text -/
def txtV : Option (List UInt8 × Nat) → Value
  | some p => .tuple #[.string ⟨p.1.toArray⟩, .int .i64 (p.2 : Int), .bool true]
  | none => .tuple #[.string ⟨#[]⟩, .int .i64 0, .bool false]

def TextJ (b off n cap : Nat) (L : List UInt8) (w : World) (a : Act) (wr : World) : Prop :=
  ∃ (k m : Nat) (v : Value) (out : List UInt8) (u7 u8 u9 u10 u11 u12 u13 u14 u15 u16 u17 u18 u19 u20 u21 u22 u23 u24 u25 u26 u27 u28 u29 u30 u31 u32 u33 u34 u35 u36 u37 u38 u39 u40 u41 u42 u43 u44 u45 u46 u47 : Value), a = { tmps := #[.slice (some ⟨b, off, none⟩) n cap, undef, .string ⟨#[]⟩, .int .i64 0, .bool false, v, .int .i64 k, u7, u8, u9, u10, u11, u12, u13, u14, u15, u16, u17, u18, u19, u20, u21, u22, u23, u24, u25, u26, u27, u28, u29, u30, u31, u32, u33, u34, u35, u36, u37, u38, u39, u40, u41, u42, u43, u44, u45, u46, u47], defers := [] } ∧
    txtAt L k out = txt L ∧ k ≤ n ∧ m ≤ k ∧ wr.ownsRow w.heap.size 5 1 v m (out.map B) ∧ Below w.heap.size w wr

set_option maxRecDepth 100000 in
set_option maxHeartbeats 1600000 in
theorem text_any (b off n cap : Nat) (L : List UInt8) (w : World) (hn : n = L.length) (hn2 : n ≤ 1099511627776) (hb : b < w.heap.size)
    (hc : ∀ j (h : j < L.length), w.cell? ⟨b, off + j, none⟩ = some (B L[j])) :
    Calls Try.prog 23 #[.slice (some ⟨b, off, none⟩) n cap] w fun e w' => e = .returned (txtV (txt L)) ∧ Below w.heap.size w w' := by
  have HN := Lib.hid hn
  have HC := Lib.hid hc
  clear hn hc
  go_enter Try.func23, Try.ntmps23
  go_wp2
  refine wp_scope_loop 0 (TextJ b off n cap L w) (fun a _ => n - (intOf (a.tmps.getD 6 undef)).toNat) rfl ?_ ?_
  · go_wp2
    exact ⟨0, 0, _, [], _, _, _, _, _, _, _, _, _, _, _, _, _, _, _, _, _, _, _, _, _, _, _, _, _, _, _, _, _, _, _, _, _, _, _, _, _, _, _, _, _, rfl, K.txtAt_zero L, by omega, by omega, World.ownsRow_nil _ _ _ _, Below.refl _ _⟩
  rintro a wr ⟨k, m, v, out, u7, u8, u9, u10, u11, u12, u13, u14, u15, u16, u17, u18, u19, u20, u21, u22, u23, u24, u25, u26, u27, u28, u29, u30, u31, u32, u33, u34, u35, u36, u37, u38, u39, u40, u41, u42, u43, u44, u45, u46, u47, rfl, ht, hk, hm, hown, hnx⟩
  have HT := Lib.hid ht
  have hsz := hnx.size
  clear ht
  have hcr := bcellB hnx
  by_cases hlt : k < n
  · have hkL : k < L.length := by rw [← HN.out]; exact hlt
    have hck := HC.out k hkL
    simp only [B] at hck
    by_cases hz : L[k] = 0
    · have hb1 : (((L[k]).toNat : Int) != 0) = false := by rw [hz]; rfl
      by_cases hlt2 : k + 1 < n
      · have hkL2 : k + 1 < L.length := by rw [← HN.out]; exact hlt2
        have hck2 := HC.out (k + 1) hkL2
        simp only [B] at hck2
        have HT2 := Lib.hid (K.txtAt_two L out k hkL2 hz)
        by_cases hz2 : L[k+1] = 255
        · have hb2 : (((L[k+1]).toNat : Int) == 255) = true := by rw [hz2]; rfl
          rw [if_pos hz2] at HT2
          clear hz hz2
          go_wp2_with (first
            | (at_builtin; refine wpList_app sl_bytes (.tmp 37) (.tmp 38) rfl rfl rfl hown hnx rfl rfl (by intro u hu; simp at hu; subst hu; rfl) (by omega) (by omega) hsz (by omega) ?_; intro g1 cap1 w1 hown1 hbel1 hg1 hlt1 hcap1; have hc1 := bcellB hbel1; have hsz1 := hbel1.size))
          go_step3
          refine ⟨rfl, ⟨k + 2, m + 1, _, out ++ [0], _, _, _, _, _, _, _, _, _, _, _, _, _, _, _, _, _, _, _, _, _, _, _, _, _, _, _, _, _, _, _, _, _, _, _, _, _, _, _, _, _, rfl, by rw [← HT.out, HT2.out], by omega, by omega, by simpa [B] using hown1, hbel1⟩, ?_⟩
          simp [intOf]; omega
        · by_cases hz3 : L[k+1] = 0
          · have hb2 : (((L[k+1]).toNat : Int) == 255) = false := by rw [hz3]; rfl
            have hb3 : (((L[k+1]).toNat : Int) == 0) = true := by rw [hz3]; rfl
            rw [if_neg hz2, if_pos hz3] at HT2
            clear hz hz2 hz3
            go_wp2_with (first
              | ((with_reducible show wpList _ _ _ _ _ _); refine wpList_str (.tmp 44) rfl rfl Try.underlying26 Try.underlying5 Try.underlying9 out rfl hown ?_))
            simp only [Exit.jump]
            go_ret3
            exact ⟨by rw [← HT.out, HT2.out]; rfl, hnx⟩
          · have hb2 : (((L[k+1]).toNat : Int) == 255) = false := byte_ne hz2 rfl
            have hb3 : (((L[k+1]).toNat : Int) == 0) = false := byte_ne hz3 rfl
            rw [if_neg hz2, if_neg hz3] at HT2
            clear hz hz2 hz3
            go_wp2
            simp only [Exit.jump]
            go_ret3
            exact ⟨by rw [← HT.out, HT2.out]; rfl, hnx⟩
      · have HT2 := Lib.hid (K.txtAt_cut L out k hkL hz (by rw [← HN.out]; omega))
        have HZ := Lib.hid hz
        clear hz
        go_wp2
        simp only [Exit.jump]
        go_ret3
        exact ⟨by rw [← HT.out, HT2.out]; rfl, hnx⟩
    · have hb1 : (((L[k]).toNat : Int) != 0) = true := by
        rw [bne_iff_ne]; intro h; exact hz (UInt8.toNat_inj.1 (by simpa using h))
      have HT2 := Lib.hid (K.txtAt_plain L out k hkL hz)
      clear hz
      go_wp2_with (first
        | (at_builtin; refine wpList_app sl_bytes (.tmp 16) (.tmp 21) rfl rfl rfl hown hnx rfl rfl (by intro u hu; simp at hu; subst hu; rfl) (by omega) (by omega) hsz (by omega) ?_; intro g1 cap1 w1 hown1 hbel1 hg1 hlt1 hcap1; have hc1 := bcellB hbel1; have hsz1 := hbel1.size))
      go_step3
      refine ⟨rfl, ⟨k + 1, m + 1, _, out ++ [L[k]], _, _, _, _, _, _, _, _, _, _, _, _, _, _, _, _, _, _, _, _, _, _, _, _, _, _, _, _, _, _, _, _, _, _, _, _, _, _, _, _, _, rfl, by rw [← HT.out, HT2.out], by omega, by omega, by simpa [B] using hown1, hbel1⟩, ?_⟩
      simp [intOf]; omega
  · have HT2 := Lib.hid (K.txtAt_end L out k (by rw [← HN.out]; omega))
    go_wp2
    simp only [Exit.jump]
    go_ret3
    exact ⟨by rw [← HT.out, HT2.out]; rfl, hnx⟩
end Go.Proofs.Ytblpmbbodajjeaa
