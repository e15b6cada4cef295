/- trim: the reference's; strings.Trim at blanks. -/
import Derived.Test.YtabecgdaiakgiaaDoorTok
namespace Go.Proofs.YtabecgdaiakgiaaDoor
open Go.RowKit

theorem trim116 : (Tryd.prog.info? (Tryd.lays160_ren.t 116)).map (fun i => (i.zero, i.size)) = some (some (.agg (Array.replicate 256 (.bool false))), 256) := by kernel_rfl

theorem sTrim_any (s : ByteArray) (w : World) (hs : s.size ≤ 9223372036854775807) :
    Calls Tryd.prog 75 #[.string s, .string ⟨#[32, 9]⟩] w fun e w' => e = .returned (.string ⟨(trim s.data.toList).toArray⟩) ∧ Below w.heap.size w w' :=
  (Any.strings_Trim_laid Tryd.lays160 trim116 s ⟨#[32, 9]⟩ w hs (by decide) (ascii_of_all (by decide))).mono fun e w' ⟨he, hb⟩ => ⟨by rw [he]; exact congrArg (fun l : Bs => Ending.returned (.string ⟨l.toArray⟩)) (trimS_trim s.data.toList), hb⟩

theorem data_cons (s : ByteArray) (h : 0 < s.size) : s.data.toList = s[0] :: (s.extract 1 s.size).data.toList := by
  have hl : 0 < s.data.toList.length := by rw [← Lib.size_eq]; exact h
  rw [Lib.extract_to_end]
  have := List.drop_eq_getElem_cons hl
  rw [List.drop_zero] at this
  rw [this]
  rfl
theorem data_snoc (s : ByteArray) (h : 0 < s.size) : s.data.toList = (s.extract 0 (s.size - 1)).data.toList ++ [s[s.size - 1]] := by
  have hl : s.size - 1 < s.data.toList.length := by rw [← Lib.size_eq]; omega
  rw [Lib.extract_data, Nat.sub_zero, List.drop_zero]
  have e : s[s.size - 1] = s.data.toList[s.size - 1] := rfl
  rw [e, ← List.take_succ_eq_append_getElem hl]
  rw [List.take_of_length_le]
  rw [← Lib.size_eq]; omega
theorem blank_iff (c : UInt8) : isBlank c = (((c.toNat : Int) == 9) || ((c.toNat : Int) == 32)) := by
  have h1 : (c == 32) = ((c.toNat : Int) == 32) := by
    rw [Bool.eq_iff_iff]; simp only [beq_iff_eq]
    constructor
    · intro h; rw [h]; rfl
    · intro h; exact UInt8.toNat_inj.mp (by have : (32 : UInt8).toNat = 32 := rfl; omega)
  have h2 : (c == 9) = ((c.toNat : Int) == 9) := by
    rw [Bool.eq_iff_iff]; simp only [beq_iff_eq]
    constructor
    · intro h; rw [h]; rfl
    · intro h; exact UInt8.toNat_inj.mp (by have : (9 : UInt8).toNat = 9 := rfl; omega)
  rw [isBlank, h1, h2, Bool.or_comm]

set_option maxHeartbeats 2000000 in
set_option maxRecDepth 100000 in
theorem rtrim_any (s : ByteArray) (w : World) (hs : s.size ≤ 9223372036854775807) :
    Calls Tryd.prog 80 #[.string s] w fun e w' => e = .returned (.string ⟨(trim s.data.toList).toArray⟩) ∧ w = w' := by
  have HG : Hid (trim s.data.toList = trimR (trimL s.data.toList)) := by show _ = _; rw [trim_comm, trim_eq]
  go_enter Tryd.func80, Tryd.ntmps80
  go_wp2
  go_loop [0] (fun v => ∃ x : ByteArray, v = .string x ∧ x.size ≤ s.size ∧ trimL x.data.toList = trimL s.data.toList) (fun v => match v with | .string x => x.size | _ => 0)
  case atStart => exact ⟨s, rfl, Nat.le_refl _, rfl⟩
  case round =>
    obtain ⟨x, rfl, hx, heq⟩ := hrel
    have HE := Lib.hid heq
    clear heq
    have hsz : (x.extract 1 x.size).size = x.size - 1 := by rw [ByteArray.size_extract]; omega
    by_cases h0 : 0 < x.size
    · have HB := Lib.hid (blank_iff x[0])
      have HC := Lib.hid (data_cons x h0)
      by_cases h9 : x[0].toNat = 9
      · have hb : isBlank x[0] = true := by rw [HB.out, h9]; rfl
        go_wp2
        refine ⟨⟨_, rfl, by omega, ?_⟩, by show ByteArray.size _ < x.size; omega⟩
        rw [← HE.out, HC.out, trimL_step _ _ hb]
      · by_cases h32 : x[0].toNat = 32
        · have hb : isBlank x[0] = true := by rw [HB.out, h32]; rfl
          go_wp2
          refine ⟨⟨_, rfl, by omega, ?_⟩, by show ByteArray.size _ < x.size; omega⟩
          rw [← HE.out, HC.out, trimL_step _ _ hb]
        · have hb : isBlank x[0] = false := by rw [HB.out]; simp; omega
          have HX : Hid (trimR x.data.toList = trim s.data.toList) := by show _ = _; rw [HG.out, ← HE.out, HC.out, trimL_stop _ _ hb]
          go_wp2
          case roundEnd => exfalso; simp only [beq_iff_eq] at *; omega
          go_loop [0] (fun v => ∃ y : ByteArray, v = .string y ∧ y.size ≤ s.size ∧ trimR y.data.toList = trim s.data.toList) (fun v => match v with | .string y => y.size | _ => 0)
          case atStart => exact ⟨x, rfl, hx, HX.out⟩
          case round =>
            obtain ⟨y, rfl, hy, hyeq⟩ := hrel
            have HY := Lib.hid hyeq
            clear hyeq
            have hsy : (y.extract 0 (y.size - 1)).size = y.size - 1 := by rw [ByteArray.size_extract]; omega
            by_cases k0 : 0 < y.size
            · have hi : y.size - 1 < y.size := by omega
              have GB := Lib.hid (blank_iff y[y.size - 1])
              have GC := Lib.hid (data_snoc y k0)
              by_cases k9 : y[y.size - 1].toNat = 9
              · have hb : isBlank y[y.size - 1] = true := by rw [GB.out, k9]; rfl
                go_wp2
                refine ⟨⟨_, rfl, by omega, ?_⟩, by show ByteArray.size _ < y.size; omega⟩
                rw [← HY.out, GC.out, trimR_step _ _ hb]
              · by_cases k32 : y[y.size - 1].toNat = 32
                · have hb : isBlank y[y.size - 1] = true := by rw [GB.out, k32]; rfl
                  go_wp2
                  refine ⟨⟨_, rfl, by omega, ?_⟩, by show ByteArray.size _ < y.size; omega⟩
                  rw [← HY.out, GC.out, trimR_step _ _ hb]
                · have hb : isBlank y[y.size - 1] = false := by rw [GB.out]; simp; omega
                  have HZ : Hid (y.data.toList = trim s.data.toList) := by show _ = _; rw [← HY.out, GC.out, trimR_stop _ _ hb]
                  go_wp2
                  case roundEnd => exfalso; simp only [beq_iff_eq] at *; omega
                  (try simp only [Exit.inBlock, Exit.then]); (show bodyPost _ _ _ _ _ _); refine bodyPost_ret (results_tmp rfl _ _ _) rfl ?_
                  exact ⟨by rw [← HZ.out]; rfl, rfl⟩
            · have HZ : Hid (y.data.toList = trim s.data.toList) := by
                show _ = _
                have : y.data.toList = [] := List.eq_nil_of_length_eq_zero (by rw [← Lib.size_eq]; omega)
                rw [← HY.out, this]; rfl
              go_wp2
              (try simp only [Exit.inBlock, Exit.then]); (show bodyPost _ _ _ _ _ _); refine bodyPost_ret (results_tmp rfl _ _ _) rfl ?_
              exact ⟨by rw [← HZ.out]; rfl, rfl⟩
    · have HX : Hid (trimR x.data.toList = trim s.data.toList) := by
        show _ = _
        have : x.data.toList = [] := List.eq_nil_of_length_eq_zero (by rw [← Lib.size_eq]; omega)
        rw [HG.out, ← HE.out, this]; rfl
      go_wp2
      go_loop [0] (fun v => ∃ y : ByteArray, v = .string y ∧ y.size ≤ s.size ∧ trimR y.data.toList = trim s.data.toList) (fun v => match v with | .string y => y.size | _ => 0)
      case atStart => exact ⟨x, rfl, hx, HX.out⟩
      case round =>
        obtain ⟨y, rfl, hy, hyeq⟩ := hrel
        have HY := Lib.hid hyeq
        clear hyeq
        have hsy : (y.extract 0 (y.size - 1)).size = y.size - 1 := by rw [ByteArray.size_extract]; omega
        by_cases k0 : 0 < y.size
        · have hi : y.size - 1 < y.size := by omega
          have GB := Lib.hid (blank_iff y[y.size - 1])
          have GC := Lib.hid (data_snoc y k0)
          by_cases k9 : y[y.size - 1].toNat = 9
          · have hb : isBlank y[y.size - 1] = true := by rw [GB.out, k9]; rfl
            go_wp2
            refine ⟨⟨_, rfl, by omega, ?_⟩, by show ByteArray.size _ < y.size; omega⟩
            rw [← HY.out, GC.out, trimR_step _ _ hb]
          · by_cases k32 : y[y.size - 1].toNat = 32
            · have hb : isBlank y[y.size - 1] = true := by rw [GB.out, k32]; rfl
              go_wp2
              refine ⟨⟨_, rfl, by omega, ?_⟩, by show ByteArray.size _ < y.size; omega⟩
              rw [← HY.out, GC.out, trimR_step _ _ hb]
            · have hb : isBlank y[y.size - 1] = false := by rw [GB.out]; simp; omega
              have HZ : Hid (y.data.toList = trim s.data.toList) := by show _ = _; rw [← HY.out, GC.out, trimR_stop _ _ hb]
              go_wp2
              case roundEnd => exfalso; simp only [beq_iff_eq] at *; omega
              (try simp only [Exit.inBlock, Exit.then]); (show bodyPost _ _ _ _ _ _); refine bodyPost_ret (results_tmp rfl _ _ _) rfl ?_
              exact ⟨by rw [← HZ.out]; rfl, rfl⟩
        · have HZ : Hid (y.data.toList = trim s.data.toList) := by
            show _ = _
            have : y.data.toList = [] := List.eq_nil_of_length_eq_zero (by rw [← Lib.size_eq]; omega)
            rw [← HY.out, this]; rfl
          go_wp2
          (try simp only [Exit.inBlock, Exit.then]); (show bodyPost _ _ _ _ _ _); refine bodyPost_ret (results_tmp rfl _ _ _) rfl ?_
          exact ⟨by rw [← HZ.out]; rfl, rfl⟩
end Go.Proofs.YtabecgdaiakgiaaDoor
