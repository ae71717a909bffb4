/- The laws' marks. -/
import Derived.Test.YthhbmbkecaffeaaAcc
import Derived.Test.YthhbmbkecaffeaaBits
namespace Go.Proofs.Ythhbmbkecaffeaa
open Go.RowKit
set_option linter.unusedVariables false
set_option linter.unusedSimpArgs false

/-- The digits of k laid before some text. -/
def mdig : Nat → Nat → List UInt8 → List UInt8
  | 0, _, out => out
  | f + 1, k, out => if k = 0 then out else mdig f (k / 10) (UInt8.ofNat (48 + k % 10) :: out)
def mtext (k : Nat) : ByteArray := ⟨(109 :: mdig 20 k []).toArray⟩

theorem mdig_end {f : Nat} {out : List UInt8} : mdig f 0 out = out := by cases f <;> simp [mdig]

set_option maxHeartbeats 1000000 in
set_option maxRecDepth 100000 in
theorem markText_any (k : Nat) (w : World) (h0 : 0 < k) (hk : k ≤ 100000000000) :
    Calls Try.prog 104 #[.int .i64 k] w fun e w' => e = .returned (.string (mtext k)) ∧ Below w.heap.size w w' := by
  have hb0 : Below w.heap.size w w := Below.refl _ _
  go_enter Try.func104, Try.ntmps104
  go_wp2_with fail
  go_loopw [0, 3] (fun q s wr => ∃ (f i : Nat) (out : List UInt8), i < 10 ^ f ∧ i ≤ 100000000000 ∧ out.length + f ≤ 20 ∧ q = .int .i64 i ∧ s = .string ⟨out.toArray⟩ ∧ Hid (mdig 20 k [] = mdig f i out) ∧ Below w.heap.size w wr) (fun q _ _ => (intOf q).toNat)
  case atStart => exact ⟨20, k, [], by omega, hk, by simp, rfl, rfl, rfl, Below.refl _ _⟩
  case round =>
    obtain ⟨f, i, out, hif, hik, hof, rfl, rfl, hE, hdr⟩ := hrel
    by_cases hlt : 0 < i
    · obtain ⟨f, rfl⟩ : ∃ g, f = g + 1 := by cases f with
        | zero => simp at hif; omega
        | succ g => exact ⟨g, rfl⟩
      have HF := Lib.hid hif
      clear hif
      obtain ⟨c, hcc⟩ : ∃ c, c = UInt8.ofNat (48 + i % 10) := ⟨_, rfl⟩
      have hc2 : (c.toNat : Int) = 48 + (i : Int) % 10 := by
        have h9 : (48 + i % 10) < 256 := by omega
        rw [hcc, UInt8.toNat_ofNat', Nat.mod_eq_of_lt h9]; omega
      have hcv := run_convert_bytes_back (P := Try.prog) (wr.alloc (.cells #[Value.int .u8 (48 + (i : Int) % 10)] 5)) 117 9 5 ⟨wr.heap.size, 0, none⟩ 1 [c] Try.underlying117 Try.underlying5 Try.underlying9 (fun j hj => by
        obtain rfl : j = 0 := by simp at hj; exact hj
        rw [add_zero_addr, box_cell (i := 0) (Below.refl _ _) rfl, ← hc2]; rfl)
      simp only [List.length_cons, List.length_nil, Nat.zero_add] at hcv
      have HC := Lib.hid hcc
      clear hcc hc2
      go_wp2_with fail
      have HE := Lib.hid (show mdig 20 k [] = mdig f (i / 10) (c :: out) by rw [hE.out, mdig, if_neg (by omega), HC.out])
      have hp : i / 10 < 10 ^ f := by have h9 := HF.out; rw [Nat.pow_succ] at h9; omega
      clear hcv
      go_roundw
      case rel => exact ⟨f, i / 10, c :: out, hp, by omega, by simp at hof ⊢; omega, by go_num, by
        show Value.string _ = Value.string _
        congr 1 <;> (apply ByteArray.ext <;> simp), HE.out, hdr.trans ((Below.refl _ _).alloc hdr.size _)⟩
      case measure => simp [intOf]; omega
    · obtain rfl : i = 0 := by omega
      have HE := Lib.hid (show mtext k = ⟨(109 :: out).toArray⟩ by rw [mtext, hE.out, mdig_end])
      clear hif hE
      go_wp2_with fail
      go_ret
      refine ⟨?_, hdr⟩
      rw [HE.out]
      congr 2 <;> (apply ByteArray.ext <;> simp)
end Go.Proofs.Ythhbmbkecaffeaa
