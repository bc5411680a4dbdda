/- Package digest: a hash under a tag. -/
import Derived.Test.YtjnnnciifjajmaaDoorCat
import Derived.Lib.ConvBytes
namespace Go.Proofs.YtjnnnciifjajmaaDoor
open Go.RowKit

/-- The bytes of a string. -/
def strB (s : ByteArray) : List Nat := s.data.toList.map UInt8.toNat
theorem strB_len (s : ByteArray) : (strB s).length = s.size := by unfold strB; rw [List.length_map]; exact Array.length_toList
theorem conv_byts (w : World) (s : ByteArray) (hs : s.size ≤ 17592186044416) : Byts (Lib.bytesWorld w 5 s) (.slice (some ⟨w.heap.size, 0, none⟩) s.size (grownCap w s.size 0 5)) (strB s) := by
  refine ⟨_, _, by rw [strB_len], by rw [strB_len]; exact grownCap_ge w s.size 0 _, by rw [strB_len]; exact hs, ?_, fun k hk => ⟨_, _, rfl, ?_⟩⟩
  · intro x hx
    obtain ⟨c, -, rfl⟩ := List.mem_map.1 hx
    exact c.toNat_lt
  · rw [strB_len] at hk
    have e : ∀ h, (strB s)[k]'h = (s.data.toList.getD k 0).toNat := fun h => by
      unfold strB at h ⊢
      rw [List.getElem_map, List.getD_eq_getElem?_getD, List.getElem?_eq_getElem (by rw [Array.length_toList]; exact hk)]
      rfl
    rw [Nat.zero_add, Lib.bytesWorld_cell w _ s k hk, e]
theorem conv_below (w : World) (s : ByteArray) : Below w.heap.size w (Lib.bytesWorld w 5 s) where
  os := rfl
  tape := rfl
  output := rfl
  size := by rw [Lib.bytesWorld_size]; omega
  block := fun k hk => Lib.bytesWorld_at_old w _ s k hk

theorem conv_at (w : World) (B : Nat) (hB : w.heap.size = B) (s : ByteArray) (hs : s.size ≤ 17592186044416) : Byts (Lib.bytesWorld w 5 s) (.slice (some ⟨B, 0, none⟩) s.size (grownCap w s.size 0 5)) (strB s) := by
  subst hB; exact conv_byts w s hs
theorem there_new (w : World) (c : Array Value) (t : TypeId) {n : Nat} (h : c.size = n) : (w.alloc (.cells c t)).there w.heap.size 0 n := fun j hj => by
  have hr := World.alloc_heap_new w (.cells c t)
  rw [Nat.zero_add]
  exact ⟨by rw [row_cell hr (Array.getElem?_eq_getElem (by omega))]; rfl, row_free hr j⟩

theorem setCells_size (b : Nat) : ∀ (L : List Value) (o : Nat) (w : World), (w.setCells b o L).heap.size = w.heap.size
  | [], _, _ => rfl
  | v :: L, o, w => by rw [World.setCells, setCells_size b L (o + 1)]; simp [World.setCell]
theorem stored (W1 : World) (T : List Value) (hT : T.length = 32) : ∃ W2, W2 = (W1.alloc (.cells z32 66)).setCells W1.heap.size 0 T ∧ W2.rangeAt W1.heap.size 0 T ∧ Below W1.heap.size W1 W2 ∧ W2.heap.size = W1.heap.size + 1 := by
  refine ⟨_, rfl, World.rangeAt_setCells_same _ _ _ _ (there_new _ _ _ (by rw [hT]; rfl)), below_setCells (Nat.le_refl _) _ _ _ ((Below.refl _ _).alloc (Nat.le_refl _) _), ?_⟩
  rw [setCells_size]; simp
theorem two_cells (W : World) (u v : Value) (t : TypeId) (B : Nat) (hB : W.heap.size = B) : ∃ W3, W3 = W.alloc (.cells #[u, v] t) ∧ Below W.heap.size W W3 ∧ W3.cell? ⟨B, 0, none⟩ = some u ∧ W3.cell? ⟨B, 1, none⟩ = some v := by
  subst hB
  have hr := World.alloc_heap_new W (.cells #[u, v] t)
  exact ⟨_, rfl, (Below.refl _ _).alloc (Nat.le_refl _) _, row_cell hr rfl, row_cell hr rfl⟩
theorem there_row {W : World} {b : Nat} {L : Array Value} {t : TypeId} (h : W.heap[b]? = some (.cells L t (0, 0))) {n : Nat} (hn : n ≤ L.size) : W.there b 0 n := fun j hj => by
  rw [Nat.zero_add]
  exact ⟨by rw [row_cell h (Array.getElem?_eq_getElem (by omega))]; rfl, row_free h j⟩
/-- A hash that lies in a block reads as its bytes. -/
theorem range_byts {w : World} {b : Nat} {bs : List Nat} (h : w.rangeAt b 0 (bs.map byteV)) (hb : ∀ x ∈ bs, x < 256) {n : Nat} (hn : bs.length = n) (hl : n ≤ 17592186044416) : Byts w (.slice (some ⟨b, 0, none⟩) n n) bs := by
  subst hn
  refine ⟨_, _, rfl, Nat.le_refl _, hl, hb, fun k hk => ⟨b, 0, rfl, ?_⟩⟩
  exact h k _ (by rw [List.getElem?_map, List.getElem?_eq_getElem hk]; rfl)

set_option maxRecDepth 100000 in
set_option maxHeartbeats 2000000 in
theorem tagged_any (s : ByteArray) (v : Value) (bs : List Nat) (w : World) (hs : s.size ≤ 17592186044416) (hI : Byts w v bs) (h0 : 0 < bs.length) (hl : bs.length ≤ 8796093022208) (hG : Glob w) :
    Calls Tryd.prog 56 #[.string s, v] w fun e w' => e = .returned (.agg ((shaTag (strB s) bs).map byteV).toArray) ∧ Below w.heap.size w w' := by
  have hcv := fun w => Lib.run_convert_string_bytes (P := Tryd.prog) w 9 45 5 s Tryd.underlying9 Tryd.underlying45 Tryd.underlying5
  obtain ⟨av, cv, rfl, -⟩ := id hI
  have HI := Lib.hid hI
  clear hI
  go_enter Tryd.func56, Tryd.ntmps56
  go_wp2_with fail
  have hA : Below w.heap.size w (w.alloc (.cells z32 66)) := (Below.refl _ _).alloc (Nat.le_refl _) _
  have hB : Below w.heap.size w (Lib.bytesWorld (w.alloc (.cells z32 66)) 5 s) := hA.trans ((conv_below _ s).mono (by simp))
  have hR : (Lib.bytesWorld (w.alloc (.cells z32 66)) 5 s).heap[w.heap.size]? = some (.cells z32 66 (0, 0)) := ((conv_below _ s).block _ (by simp)).trans (World.alloc_heap_new _ _)
  have hC := conv_at (w.alloc (.cells z32 66)) (w.heap.size + 1) (by simp) s hs
  have hGB := hG.below hB
  refine (sum_any _ (strB s) _ hC hGB).mono ?_
  rintro e W1 ⟨rfl, hb1⟩
  have hb2 := hB.trans (hb1.mono hB.size)
  have hr2 := (hb1.block _ (row_lt hR)).trans hR
  clear hA hB hR hb1 hcv
  have h32 : ((sha (strB s)).map byteV).length = 32 := by rw [List.length_map, sha_len]
  have h1L : ((sha (strB s)).map byteV).toArray.all (·.oneCell') = true := all_oneCell_toArray (fun v hv => by obtain ⟨x, -, rfl⟩ := List.mem_map.1 hv; rfl)
  obtain ⟨T, hT⟩ : ∃ T, (sha (strB s)).map byteV = T := ⟨_, rfl⟩
  rw [hT] at h32 h1L
  rw [hT]
  have HT := Lib.hid hT
  have H32 := Lib.hid h32
  have H1L := Lib.hid h1L
  have HI1 := Lib.hid (infoDg.trans (congrArg some (show 32 = T.toArray.size by simpa using h32.symm)))
  have H32A : Hid (T.toArray.size = 32) := Lib.hid (by simpa using h32)
  clear hT h32 h1L
  obtain ⟨W2, hW2, hrg, hb3, hz3⟩ := stored W1 T H32.out
  simp only [z32] at hW2
  have HW2 := Lib.hid hW2
  have HRG := Lib.hid hrg
  clear hW2 hrg
  go_wp2_with (refine wpList_store_mid rfl 66 (.tmp 5) (.tmp 8) rfl W1.heap.size 0 T.toArray rfl rfl (there_new _ _ _ H32A.out.symm) HI1.out H1L.out ?_; rw [show T.toArray.toList = T from rfl, ← HW2.out])
  have hb4 : Below w.heap.size w W2 := hb2.trans (hb3.mono hb2.size)
  have hr4 := (hb3.block _ (row_lt hr2)).trans hr2
  have hx2 : Byts W2 (.slice (some ⟨W1.heap.size, 0, none⟩) 32 32) (sha (strB s)) := range_byts (by rw [HT.out]; exact HRG.out) (sha_all _) (sha_len _) (by omega)
  obtain ⟨W3, hW3, hb5, hc0, hc1⟩ := two_cells W2 (.slice (some ⟨W1.heap.size, 0, none⟩) 32 32) (.slice av bs.length cv) 45 (W1.heap.size + 1) hz3
  rw [← hW3]
  have hb6 := hb4.trans (hb5.mono hb4.size)
  have hr6 := (hb5.block _ (row_lt hr4)).trans hr4
  have hx3 := hx2.below hb5
  have hy3 := HI.out.below hb6
  clear hW3 hb3 hb2 hr2 hb5 hx2 hb4 hr4 hz3
  refine (concat_two (W1.heap.size + 1) _ _ (sha (strB s)) bs _ hx3 hy3 (by rw [sha_len]; omega) h0 (by rw [sha_len]; omega) hc0 hc1).mono ?_
  rintro e W4 ⟨v4, rfl, hv4, hb7⟩
  have hb8 := hb6.trans (hb7.mono hb6.size)
  have hr8 := (hb7.block _ (row_lt hr6)).trans hr6
  have HV4 := Lib.hid hv4
  clear hx3 hy3 hc0 hc1 hb6 hr6 hb7 hv4
  go_wp2_with fail
  have hG4 := hG.below hb8
  refine (sum_any v4 (sha (strB s) ++ bs) _ HV4.out hG4).mono ?_
  rintro e W5 ⟨rfl, hb9⟩
  have hb10 := hb8.trans (hb9.mono hb8.size)
  have hr10 := (hb9.block _ (row_lt hr8)).trans hr8
  have hth := there_row hr10 (n := 32) (Nat.le_refl 32)
  have g32 : ((sha (sha (strB s) ++ bs)).map byteV).length = 32 := by rw [List.length_map, sha_len]
  have g1L : ((sha (sha (strB s) ++ bs)).map byteV).toArray.all (·.oneCell') = true := all_oneCell_toArray (fun v hv => by obtain ⟨x, -, rfl⟩ := List.mem_map.1 hv; rfl)
  have HSH : Hid ((shaTag (strB s) bs).map byteV = (sha (sha (strB s) ++ bs)).map byteV) := Lib.hid rfl
  obtain ⟨U, hU⟩ : ∃ U, (sha (sha (strB s) ++ bs)).map byteV = U := ⟨_, rfl⟩
  rw [hU] at g32 g1L HSH
  rw [hU]
  have G1L := Lib.hid g1L
  have GI1 := Lib.hid (infoDg.trans (congrArg some (show 32 = U.toArray.size by simpa using g32.symm)))
  have GI2 := Lib.hid (infoDg.trans (congrArg some g32.symm))
  have GTH : Hid (W5.there w.heap.size 0 U.toArray.size) := Lib.hid (by rw [show U.toArray.size = 32 by simpa using g32]; exact hth)
  have GTH2 : Hid (W5.there w.heap.size 0 U.length) := Lib.hid (by rw [g32]; exact hth)
  clear hU g32 g1L hth hb8 hr8 hb9 hr10 hG4
  go_wp2_with (refine wpList_store_mid rfl 66 (.tmp 4) (.tmp 13) rfl w.heap.size 0 U.toArray rfl rfl GTH.out GI1.out G1L.out ?_)
  have hLL : U.toArray.toList = U := rfl
  have hW8 : (W5.setCells w.heap.size 0 U.toArray.toList).rangeAt w.heap.size 0 U := by rw [hLL]; exact World.rangeAt_setCells_same _ _ _ _ GTH2.out
  have hld := run_loadVar_mid (P := Tryd.prog) _ w.heap.size 0 66 U _ hW8 Tryd.underlying66 rfl GI2.out
  refine bodyPost_ret (v := .agg U.toArray) ?_ rfl ⟨by rw [HSH.out], below_setCells (Nat.le_refl _) _ _ _ hb10⟩
  exact results_cell1_of rfl rfl hld

end Go.Proofs.YtjnnnciifjajmaaDoor
