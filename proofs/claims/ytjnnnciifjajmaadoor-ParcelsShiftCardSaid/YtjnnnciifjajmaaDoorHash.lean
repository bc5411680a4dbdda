/- Package group: Hash. -/
import Derived.Test.YtjnnnciifjajmaaDoorTag
import Derived.Test.YtjnnnciifjajmaaDoorMul
namespace Go.Proofs.YtjnnnciifjajmaaDoor
open Go.RowKit

/-- Byte k of a hash; of the first one the last seven bits. -/
def dd (d : Nat → Nat) (k : Nat) : Nat := if k = 0 then d 0 % 128 else d k
def hn (d : Nat → Nat) : Nat → Nat
  | 0 => 0
  | k + 1 => hn d k * 256 + dd d k
theorem dd_lt {d : Nat → Nat} (hd : ∀ k, d k < 256) (k : Nat) : dd d k < 256 := by unfold dd; have := hd k; split <;> omega
theorem hn_lt {d : Nat → Nat} (hd : ∀ k, d k < 256) : ∀ k, k ≤ 7 → hn d k < 36028797018963968
  | 0, _ => by rw [hn]; omega
  | k + 1, h => by
    have h0 : dd d 0 < 128 := by unfold dd; rw [if_pos rfl]; exact Nat.mod_lt _ (by decide)
    have h1 := dd_lt hd 1; have h2 := dd_lt hd 2; have h3 := dd_lt hd 3; have h4 := dd_lt hd 4; have h5 := dd_lt hd 5; have h6 := dd_lt hd 6
    match k, h with
    | 0, _ | 1, _ | 2, _ | 3, _ | 4, _ | 5, _ | 6, _ => simp only [hn]; omega
theorem hn_8 {d : Nat → Nat} (hd : ∀ k, d k < 256) : hn d 8 < 9223372036854775808 := by
  have h := hn_lt hd 7 (Nat.le_refl 7)
  have h2 := dd_lt hd 7
  show hn d 7 * 256 + dd d 7 < _
  omega
/-- Byte k of a list. -/
def byAt (l : List Nat) (k : Nat) : Nat := l.getD k 0
theorem byAt_lt {l : List Nat} (h : ∀ x ∈ l, x < 256) (k : Nat) : byAt l k < 256 := by
  unfold byAt
  rw [List.getD_eq_getElem?_getD]
  cases e : l[k]? with
  | none => decide
  | some x => exact h x (List.mem_of_getElem? e)
/-- The number of a hash. -/
def hashG (t b : List Nat) : Int := (hn (byAt (shaTag t b)) 8 : Nat) % 1073741789
theorem hashG_num (t b : List Nat) : 0 ≤ hashG t b ∧ hashG t b < 1073741789 := by unfold hashG; omega

theorem i64_join8 (n c : Nat) (hn : n < 36028797018963968) (hc : c < 256) : bits .or .i64 ((n : Int) * 256) (c : Int) = ((n * 256 + c : Nat) : Int) := by
  have e1 : (n : Int) * 256 = ((n * 256 : Nat) : Int) := by omega
  have hx : n * 256 ||| c < 2 ^ 63 := Nat.or_lt_two_pow (by omega) (by omega)
  rw [e1]
  show IntKind.i64.wrap ((BitVec.ofInt 64 ((n * 256 : Nat) : Int) ||| BitVec.ofInt 64 (c : Int)).toNat : Int) = _
  rw [BitVec.toNat_or, ofInt_u64 (n * 256) (by omega), ofInt_u64 c (by omega), IntKind.wrap_i64, ← nat_join 8 (n * 256) c (by omega) hc]
  omega
theorem u8_and127 (c : Nat) (hc : c < 256) : bits .and .u8 (c : Int) 127 = ((c % 128 : Nat) : Int) := by
  rw [show (127 : Int) = ((127 : Nat) : Int) from rfl, u8_and_nat c 127 hc (by omega), nat_mask7]

theorem dig_cell {W : World} {b : Nat} {l : List Nat} (h : W.rangeAt b 0 (l.map byteV)) {k : Nat} (hk : k < l.length) : W.cell? ⟨b, k, none⟩ = some (.int .u8 (byAt l k : Nat)) := by
  have := h k (byteV (byAt l k)) (by rw [List.getElem?_map, List.getElem?_eq_getElem hk]; unfold byAt; rw [List.getD_eq_getElem?_getD, List.getElem?_eq_getElem hk]; rfl)
  rwa [Nat.zero_add] at this

set_option maxRecDepth 100000 in
set_option maxHeartbeats 2000000 in
theorem hash_any (s : ByteArray) (v : Value) (bs : List Nat) (w : World) (hs : s.size ≤ 17592186044416) (hI : Byts w v bs) (h0 : 0 < bs.length) (hl : bs.length ≤ 8796093022208) (hG : Glob w) :
    Calls Tryd.prog 29 #[.string s, v] w fun e w' => e = .returned (.int .i64 (hashG (strB s) bs)) ∧ Below w.heap.size w w' := by
  have HT := Lib.hid (tagged_any s v bs w hs hI h0 hl hG)
  clear hI
  go_enter Tryd.func29, Tryd.ntmps29
  go_wp2_with fail
  refine HT.out.mono ?_
  rintro e W1 ⟨rfl, hb1⟩
  have hln : (shaTag (strB s) bs).length = 32 := sha_len _
  have hall : ∀ x ∈ shaTag (strB s) bs, x < 256 := sha_all _
  have HH := Lib.hid (show hashG (strB s) bs = (hn (byAt (shaTag (strB s) bs)) 8 : Nat) % 1073741789 from rfl)
  generalize shaTag (strB s) bs = D at *
  have h32 : (D.map byteV).length = 32 := by rw [List.length_map, hln]
  have h1L : (D.map byteV).toArray.all (·.oneCell') = true := all_oneCell_toArray (fun v hv => by obtain ⟨x, -, rfl⟩ := List.mem_map.1 hv; rfl)
  obtain ⟨W2, hW2, hrg, hb3, hz3⟩ := stored W1 (D.map byteV) h32
  simp only [z32] at hW2
  obtain ⟨T, hT⟩ : ∃ T, D.map byteV = T := ⟨_, rfl⟩
  have hfr : ∀ k, W2.frozen? ⟨W1.heap.size, k, none⟩ = false := fun k => by
    rw [hW2, World.frozen?_setCells]; exact World.frozen?_alloc_at _ _ _ _ rfl
  have hcl : ∀ k, k < 32 → W2.cell? ⟨W1.heap.size, k, none⟩ = some (.int .u8 (byAt D k : Nat)) := fun k hk => dig_cell hrg (by omega)
  rw [hT] at h32 h1L hW2
  rw [hT]
  have HW2 := Lib.hid hW2
  have H32A : Hid (T.toArray.size = 32) := Lib.hid (by simpa using h32)
  have HI1 := Lib.hid (infoDg.trans (congrArg some (show 32 = T.toArray.size by simpa using h32.symm)))
  have H1L := Lib.hid h1L
  have hb4 := hb1.trans (hb3.mono hb1.size)
  have hc0 := hcl 0 (by omega)
  have hf0 := hfr 0
  have hd0 := byAt_lt hall 0
  have HA := Lib.hid (u8_and127 (byAt D 0) hd0)
  have HCL := Lib.hid hcl
  have HFR := Lib.hid hfr
  clear hT h32 h1L hW2 hcl hfr hrg hln hb3 hz3
  go_wp2_with (refine wpList_store_mid rfl 66 (.tmp 5) (.tmp 9) rfl W1.heap.size 0 T.toArray rfl rfl (there_new _ _ _ H32A.out.symm) HI1.out H1L.out ?_; rw [show T.toArray.toList = T from rfl, ← HW2.out])
  have hcl3 : ∀ k, k < 8 → (W2.setCell ⟨W1.heap.size, 0, none⟩ (.int .u8 (bits .and .u8 (byAt D 0 : Nat) 127))).cell? ⟨W1.heap.size, k, none⟩ = some (.int .u8 (dd (byAt D) k : Nat)) := fun k hk => by
    unfold dd
    by_cases e : k = 0
    · subst e; rw [if_pos rfl, HA.out]; exact World.cell?_setCell_same' _ _ _ (by rw [hc0]; rfl)
    · rw [if_neg e, cell_other (.inr (fun e2 => e e2.symm))]; exact HCL.out k (by omega)
  have hb5 : Below w.heap.size w (W2.setCell ⟨W1.heap.size, 0, none⟩ (.int .u8 (bits .and .u8 (byAt D 0 : Nat) 127))) := hb4.setCell hb1.size _
  generalize W2.setCell ⟨W1.heap.size, 0, none⟩ (.int .u8 (bits .and .u8 (byAt D 0 : Nat) 127)) = W3 at *
  clear hc0 hf0 hb4
  generalize bits .and .u8 (byAt D 0 : Nat) 127 = z0 at *
  go_loop [4, 14] (fun n i => ∃ k : Nat, k ≤ 8 ∧ i = .int .i64 k ∧ n = .int .i64 (hn (byAt D) k : Nat)) (fun _ i => 8 - (intOf i).toNat)
  case atStart => exact ⟨0, by omega, rfl, rfl⟩
  case round =>
    obtain ⟨k, hk, rfl, rfl⟩ := hrel
    by_cases hlt : k < 8
    · have hck := hcl3 k hlt
      have hl1 := hn_lt (byAt_lt hall) k (by omega)
      have hl2 := dd_lt (byAt_lt hall) k
      have HN := Lib.hid (show hn (byAt D) (k + 1) = hn (byAt D) k * 256 + dd (byAt D) k from rfl)
      have HJ := Lib.hid (i64_join8 _ _ hl1 hl2)
      generalize hn (byAt D) k = x at *
      generalize dd (byAt D) k = y at *
      have k0 : 0 ≤ (k : Int) := by omega
      have k1 : (k : Int) < 8 := by omega
      have k2 : (k : Int) < 32 := by omega
      clear hcl3
      go_wp2_with fail
      go_round
      case rel => exact ⟨k + 1, by omega, by go_num, by rw [HJ.out, HN.out]⟩
      case measure => simp [intOf]; omega
    · have hk8 : k = 8 := by omega
      have hl8 := hn_8 (byAt_lt hall)
      have HK := Lib.hid (show (hn (byAt D) k : Nat) = hn (byAt D) 8 by rw [hk8])
      have hdt : decide ((k : Int) < 8) = false := decide_eq_false (by omega)
      have hl9 : hn (byAt D) k < 9223372036854775808 := by rw [hk8]; exact hl8
      clear hk8 hcl3 hl8 hlt
      generalize hn (byAt D) k = x at *
      go_wp2_with fail
      go_ret
      exact ⟨ret_int (by rw [HH.out, HK.out]), hb5⟩

end Go.Proofs.YtjnnnciifjajmaaDoor
