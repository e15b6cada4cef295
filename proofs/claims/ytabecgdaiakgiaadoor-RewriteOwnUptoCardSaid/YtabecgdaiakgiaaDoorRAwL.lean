/- What law 25's awake asks, reckoned. No program in sight. No condition. -/
import Derived.Test.YtabecgdaiakgiaaDoorRRsp
namespace Go.Proofs.YtabecgdaiakgiaaDoor

theorem itoa0 : Lib.itoa 0 = [48] := by
  have h := itoa_nat 0
  rw [Lib.decDigits_one (by omega)] at h
  exact h
theorem itoa1 : Lib.itoa 1 = [49] := by
  have h := itoa_nat 1
  rw [Lib.decDigits_one (by omega)] at h
  exact h
theorem itoa3 : Lib.itoa 3 = [51] := by
  have h := itoa_nat 3
  rw [Lib.decDigits_one (by omega)] at h
  exact h
theorem itoa200 : Lib.itoa 200 = [50, 48, 48] := digits_three (b := [50, 48, 48]) rfl (by decide) (by decide)

def sGet : ByteArray := ⟨#[71, 69, 84]⟩
def sUrl : ByteArray := ⟨#[104, 116, 116, 112, 58, 47, 47, 104, 47, 97]⟩
def sS80 : ByteArray := ⟨#[115, 58, 56, 48]⟩
def awF1 : List Fl := [(⟨#[72, 111, 115, 116]⟩, ⟨#[104]⟩), (⟨#[67, 111, 110, 110, 101, 99, 116, 105, 111, 110]⟩, ⟨#[88, 45, 65]⟩), (⟨#[88, 45, 97]⟩, ⟨#[49]⟩), (⟨#[65, 99, 99, 101, 112, 116]⟩, ⟨#[98]⟩)]
def awG1 : List Fl := [(⟨#[72, 111, 115, 116]⟩, ⟨#[115, 58, 56, 48]⟩), (⟨#[65, 99, 99, 101, 112, 116]⟩, ⟨#[98]⟩), (⟨#[84, 114, 97, 110, 115, 102, 101, 114, 45, 69, 110, 99, 111, 100, 105, 110, 103]⟩, ⟨#[99, 104, 117, 110, 107, 101, 100]⟩)]
def awR1 : HB := ⟨true, ⟨#[71, 69, 84]⟩, ⟨#[47, 97]⟩, 0, ⟨#[]⟩, 1, awG1⟩
def awT1 : Bs := [71, 69, 84, 32, 47, 97, 32, 72, 84, 84, 80, 47, 49, 46, 49, 13, 10, 72, 111, 115, 116, 58, 32, 115, 58, 56, 48, 13, 10, 65, 99, 99, 101, 112, 116, 58, 32, 98, 13, 10, 84, 114, 97, 110, 115, 102, 101, 114, 45, 69, 110, 99, 111, 100, 105, 110, 103, 58, 32, 99, 104, 117, 110, 107, 101, 100, 13, 10, 13, 10]
theorem aw_text1 : textP awR1.hi = awT1 := by
  unfold textP lineT
  rw [if_pos (show awR1.hi.rq = true from rfl), show awR1.hi.mn = 1 from rfl, itoa1]
  rfl
theorem aw_parse1 : parseP awT1 true = ({ rq := true, m := [71, 69, 84], t := [47, 97], mn := 1, fs := [([72, 111, 115, 116], [115, 58, 56, 48]), ([65, 99, 99, 101, 112, 116], [98]), ([84, 114, 97, 110, 115, 102, 101, 114, 45, 69, 110, 99, 111, 100, 105, 110, 103], [99, 104, 117, 110, 107, 101, 100])] }, 0) := by kernel_rfl
theorem aw_write1 : (writeP awR1.hi).2 = 0 := by
  unfold writeP
  rw [aw_text1, show awR1.hi.rq = true from rfl, aw_parse1]
  rw [if_neg (by simp), if_pos (by rfl)]
theorem aw_req : reqP ⟨true, sGet, sUrl, 0, ⟨#[]⟩, 1, awF1⟩ 2 0 sS80 = (awR1, 0) := by
  rw [reqP_yes (p := [47, 97]) (by kernel_rfl) (by kernel_rfl)]
  have e : reqH ⟨true, sGet, sUrl, 0, ⟨#[]⟩, 1, awF1⟩ 2 0 sS80 [47, 97] = awR1 := by kernel_rfl
  rw [e]
  unfold okH
  rw [if_pos aw_write1]
theorem aw_req3 : reqP ⟨true, sGet, sUrl, 0, ⟨#[]⟩, 1, awF1⟩ 3 0 ⟨#[115]⟩ = ({}, 2) := reqP_no (.inr (by kernel_rfl))

def awF2 : List Fl := [(⟨#[65]⟩, ⟨#[98]⟩)]
def awG2 : List Fl := [(⟨#[65]⟩, ⟨#[98]⟩), (⟨#[67, 111, 110, 116, 101, 110, 116, 45, 76, 101, 110, 103, 116, 104]⟩, ⟨#[51]⟩), (⟨#[67, 111, 110, 110, 101, 99, 116, 105, 111, 110]⟩, ⟨#[107, 101, 101, 112, 45, 97, 108, 105, 118, 101]⟩)]
def awR2 : HB := ⟨false, ⟨#[]⟩, ⟨#[]⟩, 200, ⟨#[]⟩, 1, awG2⟩
def awT2 : Bs := [72, 84, 84, 80, 47, 49, 46, 49, 32, 50, 48, 48, 32, 13, 10, 65, 58, 32, 98, 13, 10, 67, 111, 110, 116, 101, 110, 116, 45, 76, 101, 110, 103, 116, 104, 58, 32, 51, 13, 10, 67, 111, 110, 110, 101, 99, 116, 105, 111, 110, 58, 32, 107, 101, 101, 112, 45, 97, 108, 105, 118, 101, 13, 10, 13, 10]
theorem aw_text2 : textP awR2.hi = awT2 := by
  unfold textP lineT
  rw [if_neg (show ¬ awR2.hi.rq = true from fun h => by cases h), show awR2.hi.mn = 1 from rfl, show awR2.hi.st = 200 from rfl, itoa1, itoa200]
  rfl
theorem aw_parse2 : parseP awT2 false = ({ rq := false, st := 200, mn := 1, fs := [([65], [98]), ([67, 111, 110, 116, 101, 110, 116, 45, 76, 101, 110, 103, 116, 104], [51]), ([67, 111, 110, 110, 101, 99, 116, 105, 111, 110], [107, 101, 101, 112, 45, 97, 108, 105, 118, 101])] }, 0) := by kernel_rfl
theorem aw_write2 : (writeP awR2.hi).2 = 0 := by
  unfold writeP
  rw [aw_text2, show awR2.hi.rq = false from rfl, aw_parse2]
  rw [if_neg (by simp), if_pos (by rfl)]
theorem aw_rsp : rspP ⟨false, ⟨#[]⟩, ⟨#[]⟩, 200, ⟨#[]⟩, 1, awF2⟩ 1 3 false 0 = ((awR2, 0), false) := by
  rw [rspP_yes (by kernel_rfl)]
  have ef : frameP 1 3 = [(sLen, ⟨#[51]⟩)] := by unfold frameP; rw [if_pos rfl, itoa3]
  have e : rspH ⟨false, ⟨#[]⟩, ⟨#[]⟩, 200, ⟨#[]⟩, 1, awF2⟩ 1 3 false 0 = awR2 := by
    unfold rspH
    rw [if_neg (by decide), ef]
    kernel_rfl
  have eo : okH awR2 = (awR2, 0) := by unfold okH; rw [if_pos aw_write2]
  rw [e, eo]
  rfl
theorem aw_keeps : keepsP 1 awG1 = true := by kernel_rfl
end Go.Proofs.YtabecgdaiakgiaaDoor
