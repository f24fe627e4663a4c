/- Texts of this claim, put together: . -/
